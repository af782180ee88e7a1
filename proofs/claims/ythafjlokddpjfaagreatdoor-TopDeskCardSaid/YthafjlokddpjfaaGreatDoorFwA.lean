/- A small program logic over the walk's own rules: what is known of the slots and of memory; the quiet operations. Conditions: none. -/
import Derived.WalkKit
import Derived.Deep.Quiet
import Derived.IntWalk
import Derived.Laws.BytesString
import Derived.Laws.StructEq
open Int renaming toNat_natCast→zo
set_option linter.unusedSimpArgs false
set_option linter.unusedVariables false
set_option maxHeartbeats 4000000
set_option maxRecDepth 20000
namespace Go.X
open Go Go.RowKit

/-! ### Symbolic values -/
inductive SV where
 | v (x:Value)
 | own (k:Nat)
 | ptr (k sz i off:Nat)
 | ea (x:Value) (sz i off:Nat)
 | agg (l:List SV)
 | tup (l:List SV)
 | fn (f:FuncId) (l:List SV)

def bOf:Value→Nat
 | .pointer (some a)=>a.block
 | .slice (some a) _ _=>a.block
 | .map (some r)=>r
 | _=>0

mutual
def SV.val (ν:Nat→Value):SV→Value
 | .v x=>x
 | .own k=>ν k
 | .ptr k sz i off=>.pointer (some ⟨bOf (ν k),i * sz+off,none⟩)
 | .ea x sz i off=>match x with
   | .slice (some a) _ _=>.pointer (some (a.add (i * sz+off)))
   | _=>undef
 | .agg l=>.agg (SV.vals ν l).toArray
 | .tup l=>.tuple (SV.vals ν l).toArray
 | .fn f l=>.func (.func f) #[] (SV.vals ν l).toArray
def SV.vals (ν:Nat→Value):List SV→List Value
 | []=>[]
 | s :: l=>SV.val ν s :: SV.vals ν l
end

mutual
def SV.noKey (d:Nat):SV→Bool
 | .v _=>true
 | .own k=>!(k / 8 == d)
 | .ptr k _ _ _=>!(k / 8 == d)
 | .ea _ _ _ _=>true
 | .agg l=>SV.noKeys d l
 | .tup l=>SV.noKeys d l
 | .fn _ l=>SV.noKeys d l
def SV.noKeys (d:Nat):List SV→Bool
 | []=>true
 | s :: l=>SV.noKey d s && SV.noKeys d l
end

mutual
theorem SV.val_congr {ν ν':Nat→Value} {d:Nat} (h : ∀ k,k / 8≠d→ν' k=ν k) : ∀ s:SV,s.noKey d=true→s.val ν'=s.val ν
 | .v _,_=>rfl
 | .own k,hn=>by simp [SV.noKey] at hn; simp [SV.val,h k hn]
 | .ptr k _ _ _,hn=>by simp [SV.noKey] at hn; simp [SV.val,h k hn]
 | .ea _ _ _ _,_=>rfl
 | .agg l,hn=>by simp only [SV.noKey] at hn; simp only [SV.val,SV.vals_congr h l hn]
 | .tup l,hn=>by simp only [SV.noKey] at hn; simp only [SV.val,SV.vals_congr h l hn]
 | .fn _ l,hn=>by simp only [SV.noKey] at hn; simp only [SV.val,SV.vals_congr h l hn]
theorem SV.vals_congr {ν ν':Nat→Value} {d:Nat} (h : ∀ k,k / 8≠d→ν' k=ν k) : ∀ l:List SV,SV.noKeys d l=true→SV.vals ν' l=SV.vals ν l
 | [],_=>rfl
 | s :: l,hn=>by
   simp only [SV.noKeys,Bool.and_eq_true] at hn
   simp only [SV.vals,SV.val_congr h s hn.1,SV.vals_congr h l hn.2]
end

theorem SV.vals_map (ν:Nat→Value) (l:List SV):SV.vals ν l=l.map (SV.val ν):=by
 induction l <;> simp_all [SV.vals]

/-! ### Slots -/
abbrev Sig:=List (Nat×Bool×SV)

def lk:Sig→Nat→Option (Bool×SV)
 | [],_=>none
 | (k,p) :: σ,j=>if j=k then some p else lk σ j

def opv (σ:Sig):Operand→Option (Bool×SV)
 | .tmp t=>lk σ t
 | .const v=>some (true,.v v)
 | .global g=>some (true,.v (.pointer (some ⟨g,0,none⟩)))
 | .func f=>some (true,.fn f [])

def Slots (N:Nat) (ν:Nat→Value) (σ:Sig) (a:Act):Prop:=
 a.tmps.size=N∧a.defers=[] ∧ ∀ k g s,lk σ k=some (g,s)→a.tmps[k]? = some (bif g then s.val ν else undef)

theorem Slots.opv {N:Nat} {ν:Nat→Value} {σ:Sig} {a:Act} (h:Slots N ν σ a) {x:Operand} {g:Bool} {s:SV} (ho:opv σ x=some (g,s)) (hg:g=true):a.eval x=s.val ν:=by
 cases x with
 | tmp t=>
   have:=h.2.2 t g s ho
   simp [Act.eval,Array.getD_eq_getD_getElem?,this,hg]
 | const v=>simp only [X.opv,Option.some.injEq,Prod.mk.injEq] at ho; obtain ⟨_,rfl⟩:=ho; rfl
 | global b=>simp only [X.opv,Option.some.injEq,Prod.mk.injEq] at ho; obtain ⟨_,rfl⟩:=ho; rfl
 | func f=>simp only [X.opv,Option.some.injEq,Prod.mk.injEq] at ho; obtain ⟨_,rfl⟩:=ho; rfl

theorem Slots.put {N:Nat} {ν:Nat→Value} {σ:Sig} {a:Act} (h:Slots N ν σ a) {d:Nat} (hd:d < N) {g:Bool} {s:SV} {x:Value} (hx:x=bif g then s.val ν else undef) :
  Slots N ν ((d,g,s) :: σ) (a.put (some d) x):=by
 obtain ⟨h1,h2,h3⟩:=h
 refine ⟨by simp [Act.put,h1],by simp [Act.put,h2],fun k g' s' hk=>?_⟩
 simp only [lk] at hk
 simp only [Act.put,Array.getElem?_setIfInBounds]
 split at hk
 · rename_i e
   subst e
   simp only [Option.some.injEq,Prod.mk.injEq] at hk
   obtain ⟨rfl,rfl⟩:=hk
   simp [h1,hd,hx]
 · rename_i e
   rw [if_neg (fun e'=>e e'.symm)]
   exact h3 k g' s' hk

def keep:List Nat→Sig→Sig
 | [],_=>[]
 | k :: ks,σ=>match lk σ k with
   | some p=>(k,p) :: keep ks σ
   | none=>keep ks σ

theorem lk_keep {ks:List Nat} {σ:Sig} {k:Nat} {p:Bool×SV} (h:lk (keep ks σ) k=some p):lk σ k=some p:=by
 induction ks with
 | nil=>simp [keep,lk] at h
 | cons j ks ih=>
   simp only [keep] at h
   split at h
   · rename_i q hq
     simp only [lk] at h
     split at h
     · rename_i e; subst e; rw [hq]; exact h
     · exact ih h
   · exact ih h

theorem Slots.weaken {N:Nat} {ν:Nat→Value} {σ σ':Sig} {a:Act} (h:Slots N ν σ a) (hs : ∀ k p,lk σ' k=some p→lk σ k=some p):Slots N ν σ' a:=
 ⟨h.1,h.2.1,fun k g s hk=>h.2.2 k g s (hs _ _ hk)⟩

/-! ### Memory -/
abbrev Mem:=Nat→Option Obj
def Mem.on (M:Mem) (w:World):Prop:=∀ b o,M b=some o→w.heap[b]? = some o
def Mem.le (M M':Mem):Prop:=∀ b o,M b=some o→M' b=some o
theorem Mem.le.refl (M:Mem):M.le M:=fun _ _ h=>h
theorem Mem.le.trans {M M' M'':Mem} (h:M.le M') (h':M'.le M''):M.le M'':=fun _ _ e=>h' _ _ (h _ _ e)

def cellM (M:Mem) (a:Addr):Option Value:=
 match M a.block with
 | some (.cells c _ _)=>if a.spot.isSome then none else c[a.off]?
 | _=>none

theorem cellM_on {M:Mem} {w:World} (h:M.on w) {a:Addr} {v:Value} (hc:cellM M a=some v):w.cell? a=some v:=by
 unfold cellM at hc
 cases hM:M a.block with
 | none=>simp [hM] at hc
 | some o=>rw [hM] at hc; have:=h _ _ hM; unfold World.cell?; rw [this]; exact hc

theorem cellM_le {M M':Mem} (h:M.le M') {a:Addr} {v:Value} (hc:cellM M a=some v):cellM M' a=some v:=by
 unfold cellM at *
 cases hM:M a.block with
 | none=>simp [hM] at hc
 | some o=>rw [hM] at hc; rw [h _ _ hM]; exact hc

inductive PO where
 | box (cs:List SV) (t:Option Value)
 | row (sz:Nat) (es:List (List Value))
 | tab (sz:Nat) (es:List (List SV))
 | mp (es:List (Value×Value))

abbrev HS:=List (Nat×PO)

/-- a pointer that is known beforehand -/
def tieB (t:Option Value) (x:Value):Prop:=∀ v,t=some v→x=v
def PO.holds (ν:Nat→Value) (w:World) (x:Value):PO→Prop
 | .box cs t=>(∃ b T,x = .pointer (some ⟨b,0,none⟩)∧w.heap[b]? = some (.cells (SV.vals ν cs).toArray T (0,0)))∧tieB t x
 | .row sz es=>(∀ e ∈ es,e.length=sz ∧ ∀ c ∈ e,c.oneCell'=true)∧((x = .slice none 0 0∧es=[]) ∨
    ∃ b cap T sp,x = .slice (some ⟨b,0,none⟩) es.length cap∧es.length≤cap∧cap≤maxLen∧List.length sp=(cap - es.length) * sz ∧
      w.heap[b]? = some (.cells (es.flatten++sp).toArray T (0,0)))
 | .tab sz es=>(∀ e ∈ es.map (SV.vals ν),e.length=sz ∧ ∀ c ∈ e,c.oneCell'=true)∧((x = .slice none 0 0∧es.map (SV.vals ν)=[]) ∨
    ∃ b cap T sp,x = .slice (some ⟨b,0,none⟩) (es.map (SV.vals ν)).length cap∧(es.map (SV.vals ν)).length≤cap∧cap≤maxLen∧List.length sp=(cap - (es.map (SV.vals ν)).length) * sz ∧
      w.heap[b]? = some (.cells ((es.map (SV.vals ν)).flatten++sp).toArray T (0,0)))
 | .mp es=>∃ (b:Nat) (m:Array MapEntry) (c:Nat),x = .map (some b)∧w.heap[b]? = some (.map m c)∧m.toList.map (fun e=>(e.key,e.val))=es∧(m.size=c ∧ ∀ (j:Nat) (e:MapEntry),m[j]? = some e→e.born=j)
theorem PO.tab_row {ν:Nat→Value} {w:World} {x:Value} {sz:Nat} {es:List (List SV)}:(PO.tab sz es).holds ν w x=(PO.row sz (es.map (SV.vals ν))).holds ν w x:=rfl

def blk? : Value→Option Nat
 | .pointer (some a)=>some a.block
 | .slice (some a) _ _=>some a.block
 | .map (some r)=>some r
 | _=>none

def fp (ν:Nat→Value) (H:HS):List Nat:=H.filterMap fun p=>blk? (ν p.1)

def hget:HS→Nat→Option PO
 | [],_=>none
 | (k,p) :: H,j=>if j=k then some p else hget H j

structure Env where
 P:Program
 N:Nat
 w0:World
 M0:Mem

structure Heap (E:Env) (ν:Nat→Value) (H:HS) (M:Mem) (w:World):Prop where
 holds : ∀ p ∈ H,p.2.holds ν w (ν p.1)
 nodup:(fp ν H).Nodup
 apart : ∀ b ∈ fp ν H,M b=none∧E.w0.heap.size≤b
 mem:M.on w
 below:Below E.w0.heap.size E.w0 w
 le0:E.M0.le M
 fresh : ∀ b,M b≠none→E.M0 b≠none∨E.w0.heap.size≤b
 one : ∀ k,(ν k).oneCell'=true

def Rep (E:Env) (σ:Sig) (H:HS) (M:Mem) (a:Act) (w:World):Prop:=∃ ν,Slots E.N ν σ a∧Heap E ν H M w

theorem hget_mem {H:HS} {k:Nat} {p:PO} (h:hget H k=some p):(k,p) ∈ H:=by
 induction H with
 | nil=>simp [hget] at h
 | cons q H ih=>
   simp only [hget] at h
   split at h
   · rename_i e; subst e; simp only [Option.some.injEq] at h; subst h; exact List.mem_cons_self
   · exact List.mem_cons_of_mem _ (ih h)

/-! ### Types, by shape -/
inductive Shp where
 | int (k:IntKind)
 | str
 | bool
 | slice (e sz:Nat) (agg:Bool)
 | struct (fs:List (Nat×Nat×Bool)) (sz:Nat)
 | one
 | bad
 | arr (n sz tot:Nat)
 deriving DecidableEq

def aggT (P:Program) (t:TypeId):Bool:=match P.underlying t with | some (.struct _) | some (.array _ _)=>true | _=>false
def szT (P:Program) (t:TypeId):Nat:=((P.info? t).map (·.size)).getD 0

def shp (P:Program) (t:TypeId):Shp:=
 match P.underlying t with
 | some (.int k)=>.int k
 | some .bool=>.bool
 | some .string=>.str
 | some (.slice e)=>match P.info? e with | some _=>.slice e (szT P e) (aggT P e) | none=>.bad
 | some (.struct fs)=>if fs.all (fun f=>(P.info? f.type).isSome && (P.underlying f.type).isSome) && (P.info? t).isSome then .struct (fs.toList.map fun f=>(f.offset,szT P f.type,aggT P f.type)) (szT P t) else .bad
 | some (.array n e)=>if (P.info? e).isSome && (P.info? t).isSome then .arr n (szT P e) (szT P t) else .bad
 | some _=>.one
 | none=>.bad

end Go.X

namespace Go.X
open Go Go.RowKit

def lo:IntKind→Int
 | .i8=>-128 | .i16=>-32768 | .i32=>-2147483648 | .i64=>-9223372036854775808
 | .u8=>0 | .u16=>0 | .u32=>0 | .u64=>0
def hi:IntKind→Int
 | .i8=>127 | .i16=>32767 | .i32=>2147483647 | .i64=>9223372036854775807
 | .u8=>255 | .u16=>65535 | .u32=>4294967295 | .u64=>18446744073709551615
def inK (k:IntKind) (n:Int):Prop:=lo k≤n∧n≤hi k

theorem wrap_in {k:IntKind} {n:Int} (h:inK k n):k.wrap n=n:=by
 cases k
 · exact IntWalk.i8_in n h
 · exact IntWalk.i16_in n h
 · exact IntWalk.i32_in n h
 · exact IntWalk.i64_in n h
 · exact IntWalk.u8_in n h
 · exact IntWalk.u16_in n h
 · exact IntWalk.u32_in n h
 · exact IntWalk.u64_in n h

def bl (s:ByteArray):List UInt8:=s.data.toList
abbrev B (l:List UInt8):ByteArray:=⟨l.toArray⟩
theorem bl_B (l:List UInt8):bl ⟨l.toArray⟩=l:=rfl
theorem B_bl (s:ByteArray):ByteArray.mk (bl s).toArray=s:=by cases s; simp only [bl,Array.toArray_toList]
theorem size_bl (s:ByteArray):s.size=(bl s).length:=by cases s; simp only [bl,Array.length_toList]; rfl

def orV (k:IntKind) (a b:Int):Int:=k.wrap (BitVec.ofInt k.bits a ||| BitVec.ofInt k.bits b).toNat

def binI (op:BinOp) (k:IntKind) (a b:Int):Value×Prop:=
 match op with
 | .add=>(.int k (a+b),inK k (a+b))
 | .sub=>(.int k (a - b),inK k (a - b))
 | .mul=>(.int k (a * b),inK k (a * b))
 | .quo=>(.int k (a.tdiv b),b≠0∧inK k (a.tdiv b))
 | .rem=>(.int k (a.tmod b),b≠0)
 | .and=>(.int k ((a.toNat &&& b.toNat:Nat):Int),(0≤a∧a≤hi k)∧(0≤b∧b≤hi k))
 | .xor=>(.int k ((a.toNat ^^^ b.toNat:Nat):Int),(0≤a∧a≤hi k)∧(0≤b∧b≤hi k))
 | .or=>(.int k (orV k a b),True)
 | .andNot=>(undef,False)
 | .eql=>(.bool (decide (a=b)),True)
 | .neq=>(.bool (!decide (a=b)),True)
 | .lss=>(.bool (decide (a < b)),True)
 | .leq=>(.bool (decide (a≤b)),True)
 | .gtr=>(.bool (decide (b < a)),True)
 | .geq=>(.bool (decide (b≤a)),True)
 | .shl=>(.int k (a * 2 ^ b.toNat),(0≤b∧b≤k.bits)∧inK k (a * 2 ^ b.toNat))
 | .shr=>(.int k (a / 2 ^ b.toNat),0≤b∧b≤k.bits)

def binS (op:BinOp) (a b:List UInt8):Value×Prop:=
 match op with
 | .add=>(.string ⟨(a++b).toArray⟩,((a.length+b.length:Nat):Int)≤9223372036854775807)
 | .eql=>(.bool (decide (a=b)),True)
 | .neq=>(.bool (!decide (a=b)),True)
 | .lss=>(.bool (Op.bytesLess a b),True)
 | .leq=>(.bool (Op.bytesLess a b || decide (a=b)),True)
 | .gtr=>(.bool (!(Op.bytesLess a b || decide (a=b))),True)
 | .geq=>(.bool (!(Op.bytesLess a b)),True)
 | .sub | .mul | .quo | .rem | .and | .xor | .or | .andNot | .shl | .shr=>(undef,False)

def sameKind:BinOp→IntKind→IntKind→Prop
 | .shl,_,_=>True
 | .shr,_,_=>True
 | .add,k,k' | .sub,k,k' | .mul,k,k' | .quo,k,k' | .rem,k,k' | .and,k,k' | .or,k,k' | .xor,k,k' | .andNot,k,k'
 | .eql,k,k' | .neq,k,k' | .lss,k,k' | .leq,k,k' | .gtr,k,k' | .geq,k,k'=>k=k'


def binB (op:BinOp) (a b:Bool):Value×Prop:=
 match op with
 | .eql=>(.bool (a == b),True)
 | .neq=>(.bool (!(a == b)),True)
 | _=>(undef,False)

def isSl:Value→Bool | .slice _ _ _=>true | _=>false
def someV:Value→Bool | .slice (some _) _ _=>true | _=>false
def Shp.isSl:Shp→Bool | .slice _ _ _=>true | _=>false
/-- a slice against nil -/
def nilB (S:Shp) (op:BinOp) (x:Value):Value×Prop:=
 match op with
 | .eql=>(.bool (!someV x),isSl x=true∧S.isSl=true)
 | .neq=>(.bool (someV x),isSl x=true∧S.isSl=true)
 | _=>(undef,False)
def bin (S:Shp) (op:BinOp) (x y:Value):Value×Prop:=
 match x,y with
 | .int k a,.int k' b=>((binI op k a b).1,sameKind op k k'∧(binI op k a b).2)
 | .string a,.string b=>binS op (bl a) (bl b)
 | .bool a,.bool b=>((binB op a b).1,S = .bool∧(binB op a b).2)
 | x,.slice none 0 0=>nilB S op x
 | _,_=>(undef,False)
theorem someV_none (n c:Nat):someV (.slice none n c)=false:=rfl
theorem bin_nil (S:Shp) (op:BinOp) (x:Value):bin S op x (.slice none 0 0)=nilB S op x:=by cases x <;> rfl

theorem toNat_ofInt (n:Nat) (a:Int) (h0:0≤a) (h:a < 2 ^ n):(BitVec.ofInt n a).toNat=a.toNat:=by
 obtain ⟨m,rfl⟩:=Int.eq_ofNat_of_zero_le h0
 rw [BitVec.ofInt_natCast,BitVec.toNat_ofNat,zo]
 exact Nat.mod_eq_of_lt (by exact_mod_cast h)

theorem hi_lt (k:IntKind):hi k < 2 ^ k.bits:=by cases k <;> decide
theorem lo_le (k:IntKind):lo k≤0:=by cases k <;> decide

theorem and_le (a b:Nat):a &&& b≤a:=Nat.and_le_left
theorem hi_pow (k:IntKind) : ∃ n,hi k+1=(2 ^ n:Nat):=by
 cases k
 · exact ⟨7,by decide⟩
 · exact ⟨15,by decide⟩
 · exact ⟨31,by decide⟩
 · exact ⟨63,by decide⟩
 · exact ⟨8,by decide⟩
 · exact ⟨16,by decide⟩
 · exact ⟨32,by decide⟩
 · exact ⟨64,by decide⟩

theorem bits_and (k:IntKind) (a b:Int) (ha:0≤a∧a≤hi k) (hb:0≤b∧b≤hi k):bits .and k a b=((a.toNat &&& b.toNat:Nat):Int):=by
 have h:=hi_lt k
 show k.wrap ((BitVec.ofInt k.bits a &&& BitVec.ofInt k.bits b).toNat:Int)=_
 rw [BitVec.toNat_and,toNat_ofInt _ _ ha.1 (by omega),toNat_ofInt _ _ hb.1 (by omega)]
 refine wrap_in ⟨by have:=lo_le k; omega,?_⟩
 have:=and_le a.toNat b.toNat
 omega

theorem bits_xor (k:IntKind) (a b:Int) (ha:0≤a∧a≤hi k) (hb:0≤b∧b≤hi k):bits .xor k a b=((a.toNat ^^^ b.toNat:Nat):Int):=by
 have h:=hi_lt k
 show k.wrap ((BitVec.ofInt k.bits a ^^^ BitVec.ofInt k.bits b).toNat:Int)=_
 rw [BitVec.toNat_xor,toNat_ofInt _ _ ha.1 (by omega),toNat_ofInt _ _ hb.1 (by omega)]
 refine wrap_in ⟨by have:=lo_le k; omega,?_⟩
 obtain ⟨n,hn⟩:=hi_pow k
 have h1:a.toNat < 2 ^ n:=by omega
 have h2:b.toNat < 2 ^ n:=by omega
 have:=Nat.xor_lt_two_pow h1 h2
 omega

theorem beq_eq_decide {α:Type} [DecidableEq α] (a b:List α):(a == b)=decide (a=b):=by
 by_cases h:a=b <;> simp [h]

theorem toList_bl (s:ByteArray):s.toList=bl s:=ByteArray.toList_eq s

theorem run_binI {P:Program} (w:World) (op:BinOp) (t:TypeId) (x y:Operand) (k k':IntKind) (a b:Int) (hk:sameKind op k k') (hC:(binI op k a b).2) :
  (do eqGuard op t x y (.int k a) (.int k' b); binOp op t (.int k a) (.int k' b):Sem Value).run P w = .ok (binI op k a b).1 w:=by
 cases op <;> simp only [sameKind] at hk <;> (try subst hk) <;> simp only [binI] at hC <;> (try exact hC.elim) <;> simp only [binI]
 case add=>simp [go_sem,Op.intArith,wrap_in hC]
 case sub=>simp [go_sem,Op.intArith,wrap_in hC]
 case mul=>simp [go_sem,Op.intArith,wrap_in hC]
 case quo=>simp [go_sem,Op.intDiv,hC.1,wrap_in hC.2]
 case rem=>simp [go_sem,Op.intDiv,hC]
 case and=>simp [go_sem,bits_and k a b hC.1 hC.2]
 case xor=>simp [go_sem,bits_xor k a b hC.1 hC.2]
 case or=>simp [go_sem]; rfl
 case eql=>simp [go_sem]; rfl
 case neq=>simp [go_sem,bne]; rfl
 case lss=>simp [go_sem]
 case leq=>simp [go_sem]
 case gtr=>simp [go_sem]
 case geq=>simp [go_sem]
 case shl=>simp [go_sem,shift_shl k k' a b hC.1.1 hC.1.2,wrap_in hC.2]
 case shr=>simp [go_sem,shift_shr k k' a b hC.1 hC.2]

theorem run_binS {P:Program} (w:World) (op:BinOp) (t:TypeId) (x y:Operand) (a b:ByteArray) (hC:(binS op (bl a) (bl b)).2) :
  (do eqGuard op t x y (.string a) (.string b); binOp op t (.string a) (.string b):Sem Value).run P w = .ok (binS op (bl a) (bl b)).1 w:=by
 have hg:eqGuard op t x y (.string a) (.string b)=pure ():=eqGuard_at_string ..
 have hb:binOp op t (.string a) (.string b)=Op.stringOp op a b:=by cases op <;> simp [binOp]
 have hz:((a.size+b.size:Nat):Int)=((bl a).length+(bl b).length:Nat):=by rw [size_bl,size_bl]
 rw [hg,hb]
 cases op <;> simp only [binS] at hC <;> simp only [binS,Op.stringOp,toList_bl,Sem.run_bind,Sem.run_pure,Result.andThen_ok] <;> (try exact hC.elim)
 case add=>
  rw [hz,if_neg (by simp only [IntKind.max_i64]; omega)]
  simp only [Sem.run_pure]
  congr 2
 all_goals simp only [beq_eq_decide]

theorem run_binB {P:Program} (w:World) (op:BinOp) (t:TypeId) (x y:Operand) (a b:Bool) (ht:P.underlying t=some .bool) (hC:(binB op a b).2) :
  (do eqGuard op t x y (.bool a) (.bool b); binOp op t (.bool a) (.bool b):Sem Value).run P w = .ok (binB op a b).1 w:=by
 have hg:eqGuard op t x y (.bool a) (.bool b)=pure ():=eqGuard_at_bool ..
 rw [hg]
 cases op <;> simp only [binB] at hC <;> (try exact hC.elim)
 · show ((Op.equal t (.bool a) (.bool b)).bind _).run P w=_
   rw [Sem.run_bind',Op.equal,Op.maxDepth,run_equalIn_bool w _ t a b ht]
   rfl
 · show ((Op.equal t (.bool a) (.bool b)).bind _).run P w=_
   rw [Sem.run_bind',Op.equal,Op.maxDepth,run_equalIn_bool w _ t a b ht]
   rfl

theorem shp_bool {P:Program} {t:TypeId} (h:shp P t = .bool):P.underlying t=some .bool:=by
 unfold shp at h
 split at h <;> (try split at h) <;> first | assumption | cases h

theorem shp_isSl {P:Program} {t:TypeId} (h:(shp P t).isSl=true) : ∃ e,P.underlying t=some (.slice e):=by
 unfold shp at h
 split at h <;> (try split at h) <;> first | exact ⟨_,by assumption⟩ | cases h

theorem equalIn_nil {P:Program} (w:World) (d:Nat) (t e:TypeId) (a:Option Addr) (n c n' c':Nat) (h:P.underlying t=some (.slice e)) :
  (Op.equalIn (d+1) t (.slice a n c) (.slice none n' c')).run P w = .ok a.isNone w:=by
 cases a <;> simp [Op.equalIn,run_underlying h]
theorem run_nilB {P:Program} (w:World) (op:BinOp) (t:TypeId) (x y:Operand) (a:Value) (hC:(nilB (shp P t) op a).2) :
  (do eqGuard op t x y a (.slice none 0 0); binOp op t a (.slice none 0 0):Sem Value).run P w = .ok (nilB (shp P t) op a).1 w:=by
 cases op <;> simp only [nilB] at hC <;> (try exact hC.elim)
 all_goals
  obtain ⟨h1,h2⟩:=hC
  obtain ⟨e,he⟩:=shp_isSl h2
  cases a <;> simp only [isSl,reduceCtorEq] at h1
  rename_i ad n c
 · show ((Op.equal t (.slice ad n c) (.slice none 0 0)).bind _).run P w=_
   rw [Sem.run_bind',Op.equal,Op.maxDepth,equalIn_nil w 9999 t e ad n c 0 0 he]
   cases ad <;> rfl
 · show ((Op.equal t (.slice ad n c) (.slice none 0 0)).bind _).run P w=_
   rw [Sem.run_bind',Op.equal,Op.maxDepth,equalIn_nil w 9999 t e ad n c 0 0 he]
   cases ad <;> rfl

theorem run_bin {P:Program} (w:World) (op:BinOp) (t:TypeId) (x y:Operand) (a b:Value) (hC:(bin (shp P t) op a b).2) :
  (do eqGuard op t x y a b; binOp op t a b:Sem Value).run P w = .ok (bin (shp P t) op a b).1 w:=by
 unfold bin at *
 split at hC
 · exact run_binI w op t x y _ _ _ _ hC.1 hC.2
 · exact run_binS w op t x y _ _ hC
 · exact run_binB w op t x y _ _ (shp_bool hC.1) hC.2
 · exact run_nilB w op t x y _ hC
 · exact hC.elim
end Go.X

namespace Go.X
open Go Go.RowKit

def lenV:Value→Nat | .slice _ n _=>n | _=>0
def capV:Value→Nat | .slice _ _ c=>c | _=>0
def cellE (M:Mem) (x:Value) (j:Nat):Option Value:=match x with | .slice (some a) _ _=>cellM M (a.add j) | _=>none
def elE (M:Mem) (x:Value) (sz i off:Nat):Value:=(cellE M x (i * sz+off)).getD undef
def okE (M:Mem) (x:Value) (sz i off:Nat):Prop:=(cellE M x (i * sz+off)).isSome=true
def ixOk (x:Value) (i:Int):Prop:=(0≤i∧i < lenV x)∧someV x=true
def subV (x:Value) (sz lo hi:Nat):Value:=match x with
 | .slice a _ cap=>.slice (if cap=lo then a else a.map (·.add (lo * sz))) (hi - lo) (cap - lo)
 | _=>undef

def cellsE (M:Mem) (x:Value) (sz i:Nat):Nat→Nat→List SV
 | _,0=>[]
 | off,n+1=>.v (elE M x sz i off) :: cellsE M x sz i (off+1) n
def oksE (M:Mem) (x:Value) (sz i:Nat):Nat→Nat→Prop
 | _,0=>True
 | off,n+1=>okE M x sz i off∧oksE M x sz i (off+1) n

def elP (M:Mem) (a:Addr) (off:Nat):Value:=(cellM M (a.add off)).getD undef
def okP (M:Mem) (a:Addr) (off:Nat):Prop:=(cellM M (a.add off)).isSome=true
def cellsP (M:Mem) (a:Addr):Nat→Nat→List SV
 | _,0=>[]
 | off,n+1=>.v (elP M a off) :: cellsP M a (off+1) n
def oksP (M:Mem) (a:Addr):Nat→Nat→Prop
 | _,0=>True
 | off,n+1=>okP M a off∧oksP M a (off+1) n

/-- size and kind of a type, for loads and stores -/
def lay:Shp→Option (Nat×Bool)
 | .int _=>some (1,false)
 | .str=>some (1,false)
 | .bool=>some (1,false)
 | .slice _ _ _=>some (1,false)
 | .struct _ sz=>some (sz,true)
 | .one=>some (1,false)
 | .bad=>none
 | .arr _ _ tot=>some (tot,true)

def bad:SV×Prop:=(.v undef,False)
def getSV (l:List SV) (j:Nat):SV:=l.getD j (.v undef)

def ldBox (cs:List SV) (off:Nat):Option (Nat×Bool)→SV×Prop
 | some (_,false)=>(getSV cs off,off < cs.length)
 | some (n,true)=>(.agg ((cs.drop off).take n),off+n≤cs.length)
 | none=>bad
def ldRow (es:List (List Value)) (sz i off:Nat):Option (Nat×Bool)→SV×Prop
 | some (_,false)=>(.v ((es.getD i []).getD off undef),i < es.length∧off < sz)
 | some (n,true)=>(.agg ((((es.getD i []).drop off).take n).map .v),i < es.length∧off+n≤sz)
 | none=>bad
def ldTab (es:List (List SV)) (sz i off:Nat):Option (Nat×Bool)→SV×Prop
 | some (_,false)=>(getSV (es.getD i []) off,i < es.length∧off < sz)
 | some (n,true)=>(.agg (((es.getD i []).drop off).take n),i < es.length∧off+n≤sz)
 | none=>bad
def ldE (M:Mem) (x:Value) (sz i off:Nat):Option (Nat×Bool)→SV×Prop
 | some (_,false)=>(.v (elE M x sz i off),okE M x sz i off)
 | some (n,true)=>(.agg (cellsE M x sz i off n),n≠0∧oksE M x sz i off n)
 | none=>bad
def ldP (M:Mem) (a:Addr):Option (Nat×Bool)→SV×Prop
 | some (_,false)=>(.v (elP M a 0),okP M a 0)
 | some (n,true)=>(.agg (cellsP M a 0 n),oksP M a 0 n)
 | none=>bad
def ldK (p:Option PO) (sz i off:Nat) (L:Option (Nat×Bool)):SV×Prop:=
 match p with
 | some (.box cs _)=>((ldBox cs off L).1,i=0∧(ldBox cs off L).2)
 | some (.row sz' es)=>((ldRow es sz i off L).1,sz=sz'∧(ldRow es sz i off L).2)
 | none=>bad
 | some (.tab sz' es)=>((ldTab es sz i off L).1,sz=sz'∧(ldTab es sz i off L).2)
 | some (.mp _)=>bad
def ld (H:HS) (M:Mem) (L:Option (Nat×Bool)):SV→SV×Prop
 | .ptr k sz i off=>ldK (hget H k) sz i off L
 | .ea x sz i off=>ldE M x sz i off L
 | .v (.pointer (some a))=>ldP M a L
 | _=>bad

/-! structs of integers, strings and bools, flat: are they equal? -/
def flatFs (F:TypeId→Option (List Shp)) (P:Program):List Field→Nat→Option (List Shp)
 | [],_=>some []
 | f :: r,off=>if f.name ≠ "_" ∧ f.offset=off then
     match F f.type with
     | some ks=>if szT P f.type=ks.length∧(P.info? f.type).isSome=true∧(aggT P f.type=false→ks.length=1) then (flatFs F P r (off+ks.length)).map (ks ++ ·) else none
     | none=>none
   else none
def flatT (P:Program):Nat→TypeId→Option (List Shp)
 | 0,_=>none
 | d+1,t=>match P.underlying t with
   | some (.int k)=>some [.int k]
   | some .string=>some [.str]
   | some .bool=>some [.bool]
   | some (.struct fs)=>if P.stoodInHeld t then none else flatFs (flatT P d) P fs.toList 0
   | _=>none
def eqT (P:Program) (t:TypeId):Option (List Shp):=match P.underlying t with
 | some (.struct _)=>if P.eqGuardType P.depth t then none else flatT P 8 t
 | _=>none
def eqV:Value→Value→Bool
 | .int _ a,.int _ b=>decide (a=b)
 | .string a,.string b=>decide (bl a=bl b)
 | .bool a,.bool b=>a == b
 | _,_=>false
def kindP:Shp→Value→Value→Prop
 | .int k,.int k1 _,.int k2 _=>k1=k∧k2=k
 | .str,.string _,.string _=>True
 | .bool,.bool _,.bool _=>True
 | _,_,_=>False
def eqLv:List Value→List Value→Bool
 | x :: l,y :: l'=>eqV x y && eqLv l l'
 | _,_=>true
def okLv:List Shp→List Value→List Value→Prop
 | [],[],[]=>True
 | k :: ks,x :: l,y :: l'=>kindP k x y∧okLv ks l l'
 | _,_,_=>False
def eqLs:List SV→List SV→Bool
 | .v x :: l,.v y :: l'=>eqV x y && eqLs l l'
 | _,_=>true
def okLs:List Shp→List SV→List SV→Prop
 | [],[],[]=>True
 | k :: ks,.v x :: l,.v y :: l'=>kindP k x y∧okLs ks l l'
 | _,_,_=>False
def eqAgg (l l':List SV):Option (List Shp)→BinOp→SV×Prop
 | some ks,.eql=>(.v (.bool (eqLs l l')),okLs ks l l')
 | some ks,.neq=>(.v (.bool (!eqLs l l')),okLs ks l l')
 | _,_=>bad
/-- a type of pointers -/
def ptrT (P:Program) (t:TypeId):Bool:=match P.underlying t with
 | some (.pointer _)=>true
 | _=>false
/-- a pointer that is known beside nil -/
def ptrNil (g:Bool):BinOp→SV×Prop
 | .eql=>(.v (.bool false),g=true)
 | .neq=>(.v (.bool true),g=true)
 | _=>bad
def binSV (P:Program) (t:TypeId) (op:BinOp) (x y:SV):SV×Prop:=
 match x,y with
 | .v x,.v y=>(.v (bin (shp P t) op x y).1,(bin (shp P t) op x y).2)
 | .agg l,.agg l'=>eqAgg l l' (eqT P t) op
 | .ptr _ _ _ _,.v (.pointer none)=>ptrNil (ptrT P t) op
 | _,_=>bad

def unV (op:UnOp) (x:Value):Value×Prop:=
 match op,x with
 | .not,.bool b=>(.bool (!b),True)
 | .neg,.int k n=>(.int k (-n),inK k (-n))
 | .xor,.int .i64 n=>(.int .i64 (-n - 1),inK .i64 n)
 | _,_=>(undef,False)
def unSV (op:UnOp):SV→SV×Prop
 | .v x=>(.v (unV op x).1,(unV op x).2)
 | _=>bad

def convV (S D:Shp) (x:Value):Value×Prop:=
 match D,x with
 | .int k,.int _ n=>(.int k (k.wrap n),S ≠ .bad)
 | .str,.string s=>(.string s,S = .str)
 | _,_=>(undef,False)
def convSV (S D:Shp):SV→SV×Prop
 | .v x=>(.v (convV S D x).1,(convV S D x).2)
 | _=>bad

/-- the bytes of a row -/
def byteOf:List Value→UInt8
 | [.int .u8 n]=>UInt8.ofNat n.toNat
 | _=>0
def u8s:List (List Value)→Prop
 | []=>True
 | [.int .u8 _] :: r=>u8s r
 | _ :: _=>False
def elShp (P:Program):Shp→Shp
 | .slice e _ _=>shp P e
 | _=>.bad
def convRow:Option PO→SV×Prop
 | some (.row sz es)=>(.v (.string ⟨(es.map byteOf).toArray⟩),sz=1∧u8s es)
 | _=>(.v undef,False)
/-- a conversion; of a row of bytes to a string, too -/
def convH (P:Program) (H:HS) (s d:TypeId):SV→SV×Prop
 | .v x=>convSV (shp P s) (shp P d) (.v x)
 | .own k=>((convRow (hget H k)).1,(elShp P (shp P s) = .int .u8∧shp P d = .str)∧(convRow (hget H k)).2)
 | _=>(.v undef,False)
theorem convRow_none:convRow none=(.v undef,False):=rfl
theorem convRow_tab (sz:Nat) (es:List (List SV)):convRow (some (.tab sz es))=(.v undef,False):=rfl
def strIx (s:List UInt8) (i:Int):Int:=((s.getD i.toNat 0).toNat:Nat)
def indexSV (S:Shp):SV→SV→SV×Prop
 | .v (.string s),.v (.int _ i)=>(.v (.int .u8 (strIx (bl s) i)),S = .str∧(0≤i∧i < (bl s).length))
 | _,_=>bad

def sliceStr (s:List UInt8) (lo hi:Int):SV×Prop:=(.v (.string ⟨((s.drop lo.toNat).take (hi.toNat - lo.toNat)).toArray⟩),(0≤lo∧lo≤hi)∧hi≤s.length)
def sliceVal (sz:Nat) (y:Value) (lo hi:Int):SV×Prop:=(.v (subV y sz lo.toNat hi.toNat),isSl y=true∧(0≤lo∧lo≤hi)∧hi≤capV y)
def sliceSV (S:Shp) (x lo hi:SV):SV×Prop:=
 match S,x,lo,hi with
 | .str,.v (.string s),.v (.int _ i),.v (.int _ j)=>sliceStr (bl s) i j
 | .slice _ sz _,.v y,.v (.int _ i),.v (.int _ j)=>sliceVal sz y i j
 | _,_,_,_=>bad

def subV3 (x:Value) (sz lo hi mx:Nat):Value:=match x with
 | .slice a _ _=>.slice (if mx=lo then a else a.map (·.add (lo * sz))) (hi - lo) (mx - lo)
 | _=>undef
def slice3SV (S:Shp) (x lo hi mx:SV):SV×Prop:=
 match S,x,lo,hi,mx with
 | .slice _ sz _,.v y,.v (.int _ i),.v (.int _ j),.v (.int _ k)=>(.v (subV3 y sz i.toNat j.toNat k.toNat),isSl y=true∧(0≤i∧i≤j)∧j≤k∧k≤capV y)
 | _,_,_,_,_=>bad
def lenSV (S:Shp) (H:HS) (x:SV):SV×Prop:=
 match S,x with
 | .str,.v (.string s)=>(.v (.int .i64 (bl s).length),True)
 | .slice _ _ _,.v y=>(.v (.int .i64 (lenV y)),isSl y=true)
 | .slice _ _ _,.own k=>match hget H k with
   | some (.row _ es)=>(.v (.int .i64 es.length),True)
   | some (.tab _ es)=>(.v (.int .i64 es.length),True)
   | _=>bad
 | _,_=>bad

def fieldAt (S:Shp) (f:Nat):Option (Nat×Nat×Bool):=match S with
 | .struct fs _=>fs[f]?
 | _=>none

def fieldSV (S:Shp) (f:Nat) (x:SV):SV×Prop:=
 match fieldAt S f,x with
 | some (off,_,false),.agg l=>(getSV l off,off < l.length)
 | some (off,n,true),.agg l=>(.agg ((l.drop off).take n),off+n≤l.length)
 | _,_=>bad

def fieldAddrSV (S:Shp) (f:Nat) (x:SV):SV×Prop:=
 match fieldAt S f,x with
 | some (fo,n,_),.ptr k sz i off=>(.ptr k sz i (off+fo),n≠0)
 | some (fo,n,_),.ea x sz i off=>(.ea x sz i (off+fo),n≠0∧someV x=true)
 | some (fo,n,_),.v (.pointer (some a))=>(.v (.pointer (some (a.add fo))),n≠0)
 | _,_=>bad

def indexAddrSV (S:Shp) (H:HS) (x i:SV):SV×Prop:=
 match S,x,i with
 | .slice _ sz _,.v y,.v (.int _ i)=>(.ea y sz i.toNat 0,ixOk y i)
 | .slice _ sz _,.own k,.v (.int _ i)=>match hget H k with
   | some (.row sz' es)=>(.ptr k sz i.toNat 0,sz=sz'∧(0≤i∧i < es.length))
   | some (.tab sz' es)=>(.ptr k sz i.toNat 0,sz=sz'∧(0≤i∧i < es.length))
   | _=>bad
 | .arr n sz _,.ptr k psz i off,.v (.int _ j)=>(.ptr k psz i (off+j.toNat * sz),0≤j∧j < n)
 | .arr n sz _,.v (.pointer (some a)),.v (.int _ j)=>(.v (.pointer (some (a.add (j.toNat * sz)))),0≤j∧j < n)
 | _,_,_=>bad

def nilSV (x:SV):SV×Prop:=
 match x with
 | .ptr _ _ _ _=>(x,True)
 | .ea y _ _ _=>(x,someV y=true)
 | .v (.pointer (some _))=>(x,True)
 | .fn _ _=>(x,True)
 | _=>bad

def extSV (x:SV) (i:Nat):SV×Prop:=
 match x with
 | .tup l=>(getSV l i,i < l.length)
 | _=>bad

def pickSV (c:Bool) (a b:SV):SV:=
 match a,b with
 | .v (.bool x),.v (.bool y)=>.v (.bool (bif c then x else y))
 | a,b=>bif c then a else b

theorem pickSV_f (a b:SV):pickSV false a b=b:=by unfold pickSV; split <;> rfl
theorem pickSV_t (a b:SV):pickSV true a b=a:=by unfold pickSV; split <;> rfl
def cellsSV:SV→List SV
 | .agg l=>l
 | s=>[s]
def putAt (cs:List SV):Nat→List SV→List SV
 | _,[]=>cs
 | off,s :: l=>putAt (cs.set off s) (off+1) l
def fillSV (fs:List (Nat×Nat×Bool)):List SV→List (Nat×SV)→Option (List SV)
 | cs,[]=>some cs
 | cs,(i,s) :: r=>match fs[i]? with
   | some (off,n,_)=>if (cellsSV s).length=n∧off+n≤cs.length then fillSV fs (putAt cs off (cellsSV s)) r else none
   | none=>none

def oneV:Value→Bool | .agg _=>false | _=>true
def oneS:SV→Bool | .v x=>oneV x | .tup _=>false | _=>true
def onesP:List (Nat×SV)→Bool | []=>true | (_,s) :: r=>oneS s && onesP r

/-- the zero value's cells -/
def zeroT (P:Program) (t:TypeId):Option (List Value):=((P.info? t).bind (·.zero)).map (·.cells.toList)

def buildSV (S:Shp) (z:Option (List Value)) (parts:List (Nat×SV)):SV×Prop:=
 match S,z with
 | .struct fs _,some z=>match fillSV fs (z.map .v) parts with
   | some cs=>(.agg cs,onesP parts=true)
   | none=>bad
 | _,_=>bad

def o1 (σ:Sig) (x:Operand) (f:SV→SV×Prop):Bool×SV×Prop:=
 match opv σ x with
 | some (g,s)=>(g,f s)
 | none=>(true,bad)
def o2 (σ:Sig) (x y:Operand) (f:SV→SV→SV×Prop):Bool×SV×Prop:=
 match opv σ x,opv σ y with
 | some (g,s),some (g',t)=>(g && g',f s t)
 | _,_=>(true,bad)
def o3 (σ:Sig) (x y z:Operand) (f:SV→SV→SV→SV×Prop):Bool×SV×Prop:=
 match opv σ x,opv σ y,opv σ z with
 | some (g,s),some (g',t),some (g'',u)=>(g && (g' && g''),f s t u)
 | _,_,_=>(true,bad)
def o4 (σ:Sig) (x y z u:Operand) (f:SV→SV→SV→SV→SV×Prop):Bool×SV×Prop:=
 match opv σ x,opv σ y,opv σ z,opv σ u with
 | some (g,s),some (g',t),some (g'',u),some (g3,v)=>(g && (g' && (g'' && g3)),f s t u v)
 | _,_,_,_=>(true,bad)
def pickO (σ:Sig) (c a b:Operand):Bool×SV×Prop:=
 match opv σ c,opv σ a,opv σ b with
 | some (g,.v (.bool c)),some (ga,a),some (gb,b)=>(g,pickSV c a b,(c=true→ga=true)∧(c=false→gb=true))
 | _,_,_=>(true,bad)
def partsO (σ:Sig):List (Nat×Operand)→Option (Bool×List (Nat×SV))
 | []=>some (true,[])
 | (i,x) :: r=>match opv σ x,partsO σ r with
  | some (g,s),some (g',l)=>some (g && g',(i,s) :: l)
  | _,_=>none
def buildO (P:Program) (σ:Sig) (t:TypeId) (parts:List (Nat×Operand)):Bool×SV×Prop:=
 match partsO σ parts with
 | some (g,l)=>(g,buildSV (shp P t) (zeroT P t) l)
 | none=>(true,bad)
def argsO (σ:Sig):List Operand→Option (Bool×List SV)
 | []=>some (true,[])
 | x :: r=>match opv σ x,argsO σ r with
   | some (g,s),some (g',l)=>some (g && g',s :: l)
   | _,_=>none
def mnmx (mx:Bool) (x:SV) (l:List SV):SV×Prop:=
 match x,l with
 | s,[]=>(s,True)
 | .v (.int k a),.v (.int k' b) :: r=>((mnmx mx (.v (.int k (bif mx then max a b else min a b))) r).1,k=k'∧(mnmx mx (.v (.int k (bif mx then max a b else min a b))) r).2)
 | _,_=>bad

/-- WHAT A QUIET OPERATION YIELDS, and what must hold: (the guard under which its operands are known, the value, the condition). -/
def pev (P:Program) (H:HS) (M:Mem) (σ:Sig) (op:Op):Bool×SV×Prop:=
 match op with
 | .move x=>o1 σ x fun s=>(s,True)
 | .assign x=>o1 σ x fun s=>(s,True)
 | .pick c a b=>pickO σ c a b
 | .build t ps=>buildO P σ t ps.toList
 | .load t a=>o1 σ a (ld H M (lay (shp P t)))
 | .nilCheck x=>o1 σ x nilSV
 | .binOp op t x y _=>o2 σ x y (binSV P t op)
 | .unOp op _ x=>o1 σ x (unSV op)
 | .convert s d x=>o1 σ x (convH P H s d)
 | .slice t x (some lo) (some hi) none=>o3 σ x lo hi (sliceSV (shp P t))
 | .slice t x (some lo) (some hi) (some mx)=>o4 σ x lo hi mx (slice3SV (shp P t))
 | .slice t x none (some hi) none=>o2 σ x hi fun a b=>sliceSV (shp P t) a (.v (.int .i64 0)) b
 | .slice t x (some lo) none none=>o2 σ x lo fun a b=>sliceSV (shp P t) a b (lenSV (shp P t) H a).1
 | .fieldAddr t x f=>o1 σ x (fieldAddrSV (shp P t) f)
 | .field t x f=>o1 σ x (fieldSV (shp P t) f)
 | .indexAddr t x i=>o2 σ x i (indexAddrSV (shp P t) H)
 | .index t x i=>o2 σ x i (indexSV (shp P t))
 | .extract x i=>o1 σ x fun s=>extSV s i
 | .call c=>match c.callee,c.args.toList,c.argTypes.toList with
   | .builtin .len,[x],[t]=>o1 σ x (lenSV (shp P t) H)
   | .builtin .min,x :: l,_=>match opv σ x,argsO σ l with
     | some (g,s),some (g',l)=>(g && g',mnmx false s l)
     | _,_=>(true,bad)
   | .builtin .max,x :: l,_=>match opv σ x,argsO σ l with
     | some (g,s),some (g',l)=>(g && g',mnmx true s l)
     | _,_=>(true,bad)
   | _,_,_=>(true,bad)
 | _=>(true,bad)

end Go.X

namespace Go.X
open Go Go.RowKit

section
variable {P:Program} {H:HS} {M:Mem} {N:Nat} {ν:Nat→Value} {σ:Sig} {a:Act} {w:World} {E:Env}

theorem o1_spec (hs:Slots N ν σ a) {x:Operand} {f:SV→SV×Prop} (h1:(o1 σ x f).1=true) (h2:(o1 σ x f).2.2) :
  ∃ s,a.eval x=s.val ν∧(f s).2∧(o1 σ x f).2.1=(f s).1:=by
 unfold o1 at *
 split at h2
 · rename_i g s ho
   simp only [ho] at h1
   exact ⟨s,hs.opv ho h1,h2,rfl⟩
 · exact h2.elim

theorem o2_spec (hs:Slots N ν σ a) {x y:Operand} {f:SV→SV→SV×Prop} (h1:(o2 σ x y f).1=true) (h2:(o2 σ x y f).2.2) :
  ∃ s t,a.eval x=s.val ν∧a.eval y=t.val ν∧(f s t).2∧(o2 σ x y f).2.1=(f s t).1:=by
 unfold o2 at *
 split at h2
 · rename_i g s g' t ho ho'
   simp only [ho,ho',Bool.and_eq_true] at h1
   exact ⟨s,t,hs.opv ho h1.1,hs.opv ho' h1.2,h2,rfl⟩
 · exact h2.elim

theorem o3_spec (hs:Slots N ν σ a) {x y z:Operand} {f:SV→SV→SV→SV×Prop} (h1:(o3 σ x y z f).1=true) (h2:(o3 σ x y z f).2.2) :
  ∃ s t u,a.eval x=s.val ν∧a.eval y=t.val ν∧a.eval z=u.val ν∧(f s t u).2∧(o3 σ x y z f).2.1=(f s t u).1:=by
 unfold o3 at *
 split at h2
 · rename_i g s g' t g'' u ho ho' ho''
   simp only [ho,ho',ho'',Bool.and_eq_true] at h1
   exact ⟨s,t,u,hs.opv ho h1.1,hs.opv ho' h1.2.1,hs.opv ho'' h1.2.2,h2,rfl⟩
 · exact h2.elim

theorem o4_spec (hs:Slots N ν σ a) {x y z x4:Operand} {f:SV→SV→SV→SV→SV×Prop} (h1:(o4 σ x y z x4 f).1=true) (h2:(o4 σ x y z x4 f).2.2) :
  ∃ s t u v,a.eval x=s.val ν∧a.eval y=t.val ν∧a.eval z=u.val ν∧a.eval x4=v.val ν∧(f s t u v).2∧(o4 σ x y z x4 f).2.1=(f s t u v).1:=by
 unfold o4 at *
 split at h2
 · rename_i g s g' t g'' u g3 v ho ho' ho'' ho3
   simp only [ho,ho',ho'',ho3,Bool.and_eq_true] at h1
   exact ⟨s,t,u,v,hs.opv ho h1.1,hs.opv ho' h1.2.1,hs.opv ho'' h1.2.2.1,hs.opv ho3 h1.2.2.2,h2,rfl⟩
 · exact h2.elim

theorem argsO_spec (hs:Slots N ν σ a) : ∀ {l:List Operand} {g:Bool} {ss:List SV},argsO σ l=some (g,ss)→g=true→l.map a.eval=SV.vals ν ss
 | [],g,ss,h,_=>by simp only [argsO,Option.some.injEq,Prod.mk.injEq] at h; obtain ⟨_,rfl⟩:=h; rfl
 | x :: r,g,ss,h,hg=>by
   unfold argsO at h
   split at h
   · rename_i g1 s g2 l ho hr
     simp only [Option.some.injEq,Prod.mk.injEq] at h
     obtain ⟨rfl,rfl⟩:=h
     simp only [Bool.and_eq_true] at hg
     simp only [List.map_cons,SV.vals,hs.opv ho hg.1,argsO_spec hs hr hg.2]
   · cases h

theorem partsO_spec (hs:Slots N ν σ a) : ∀ {l:List (Nat×Operand)} {g:Bool} {ss:List (Nat×SV)},partsO σ l=some (g,ss)→g=true →
  l.map (fun p=>(p.1,a.eval p.2))=ss.map (fun p=>(p.1,p.2.val ν))
 | [],g,ss,h,_=>by simp only [partsO,Option.some.injEq,Prod.mk.injEq] at h; obtain ⟨_,rfl⟩:=h; rfl
 | (i,x) :: r,g,ss,h,hg=>by
  unfold partsO at h
  split at h
  · rename_i g1 s g2 l ho hr
    simp only [Option.some.injEq,Prod.mk.injEq] at h
    obtain ⟨rfl,rfl⟩:=h
    simp only [Bool.and_eq_true] at hg
    simp only [List.map_cons,hs.opv ho hg.1,partsO_spec hs hr hg.2]
  · cases h

/-! types -/
theorem under_of_shp {t:TypeId} (h:shp P t ≠ .bad) : ∃ d,P.underlying t=some d:=by
 cases hu:P.underlying t with
 | some d=>exact ⟨d,rfl⟩
 | none=>simp [shp,hu] at h

theorem run_isAgg {t:TypeId} (h:shp P t ≠ .bad):(isAgg t).run P w = .ok (aggT P t) w:=by
 obtain ⟨d,hd⟩:=under_of_shp h
 simp only [isAgg,Sem.run_bind,run_underlying hd,Result.andThen_ok,aggT,hd]
 cases d <;> rfl

theorem run_sizeOf {t:TypeId} {i:TypeInfo} (h:P.info? t=some i):(sizeOf t).run P w = .ok (szT P t) w:=by
 simp [sizeOf,typeInfo,h,szT]

theorem shp_ints {t:TypeId} {k:IntKind} (h:shp P t = .int k):P.underlying t=some (.int k):=by
 unfold shp at h
 split at h <;> (try split at h) <;> first | (cases h; assumption) | cases h
theorem shp_str {t:TypeId} (h:shp P t = .str):P.underlying t=some .string:=by
 unfold shp at h
 split at h <;> (try split at h) <;> first | assumption | cases h
theorem shp_slice {t e sz:Nat} {g:Bool} (h:shp P t = .slice e sz g):P.underlying t=some (.slice e)∧(∃ i,P.info? e=some i)∧szT P e=sz:=by
 unfold shp at h
 split at h
 case h_4 e' hu=>
  split at h
  · rename_i i hi
    simp only [Shp.slice.injEq] at h
    obtain ⟨rfl,rfl,rfl⟩:=h
    exact ⟨hu,⟨i,hi⟩,rfl⟩
  · cases h
 all_goals (try split at h) <;> cases h
theorem shp_arr {t n sz tot:Nat} (h:shp P t = .arr n sz tot) : ∃ e,P.underlying t=some (.array n e)∧(∃ i,P.info? e=some i)∧szT P e=sz∧(∃ i,P.info? t=some i)∧szT P t=tot:=by
 unfold shp at h
 split at h
 case h_6 n' e' hu=>
  split at h
  · rename_i hc
    simp only [Bool.and_eq_true,Option.isSome_iff_exists] at hc
    simp only [Shp.arr.injEq] at h
    obtain ⟨rfl,rfl,rfl⟩:=h
    exact ⟨e',hu,hc.1,rfl,hc.2,rfl⟩
  · cases h
 all_goals (try split at h) <;> cases h
theorem shp_struct {t sz:Nat} {l:List (Nat×Nat×Bool)} (h:shp P t = .struct l sz) :
  ∃ fs,P.underlying t=some (.struct fs)∧fs.toList.map (fun f=>(f.offset,szT P f.type,aggT P f.type))=l∧(∀ f ∈ fs.toList,(∃ i,P.info? f.type=some i) ∧ ∃ d,P.underlying f.type=some d)∧(∃ i,P.info? t=some i)∧szT P t=sz:=by
 unfold shp at h
 split at h
 case h_5 fs hu=>
  split at h
  · rename_i hc
    simp only [Bool.and_eq_true,Array.all_eq_true',Option.isSome_iff_exists] at hc
    simp only [Shp.struct.injEq] at h
    exact ⟨fs,hu,h.1,fun f hf=>hc.1 f (by simpa using hf),hc.2,h.2⟩
  · cases h
 all_goals (try split at h) <;> cases h

theorem lay_spec {t n:Nat} {g:Bool} (h:lay (shp P t)=some (n,g)):shp P t ≠ .bad∧aggT P t=g∧(g=true→(∃ i,P.info? t=some i)∧szT P t=n)∧(g=false→n=1):=by
 have hb:shp P t ≠ .bad:=by intro e; rw [e] at h; cases h
 refine ⟨hb,?_,?_,?_⟩
 · cases hs:shp P t with
   | int k=>rw [hs] at h; cases h; simp [aggT,shp_ints hs]
   | str=>rw [hs] at h; cases h; simp [aggT,shp_str hs]
   | bool=>rw [hs] at h; cases h; simp [aggT,shp_bool hs]
   | slice e sz g=>rw [hs] at h; cases h; simp [aggT,(shp_slice hs).1]
   | struct l sz=>rw [hs] at h; cases h; obtain ⟨fs,hu,_⟩:=shp_struct hs; simp [aggT,hu]
   | arr n sz tot=>rw [hs] at h; cases h; obtain ⟨e,hu,_⟩:=shp_arr hs; simp [aggT,hu]
   | one=>
     rw [hs] at h; cases h
     unfold shp at hs
     unfold aggT
     split at hs <;> (try split at hs) <;> first | (cases hs; done) | skip
     rename_i d h1 h2 h3 h4 h5 h6 hu
     rw [hu]
     cases d <;> first | rfl | (exact absurd rfl (h5 _)) | (exact absurd rfl (h6 _ _))
   | bad=>exact absurd hs hb
 · intro hg
   subst hg
   cases hs:shp P t with
   | struct l sz=>rw [hs] at h; cases h; obtain ⟨fs,_,_,_,hi,hz⟩:=shp_struct hs; exact ⟨hi,hz⟩
   | arr n sz tot=>rw [hs] at h; cases h; obtain ⟨e,_,_,_,hi,hz⟩:=shp_arr hs; exact ⟨hi,hz⟩
   | _=>rw [hs] at h; cases h
 · intro hg
   subst hg
   cases hs:shp P t with
   | _=>rw [hs] at h; cases h; try rfl

theorem run_loadVar_list {t n:Nat} {g:Bool} {ad:Addr} (hl:lay (shp P t)=some (n,g)) (cs:List Value) (hn:cs.length=n) (hc : ∀ j v,cs[j]? = some v→w.cell? (ad.add j)=some v) :
  (loadVar t ad).run P w = .ok (if g then .agg cs.toArray else cs.getD 0 undef) w:=by
 obtain ⟨hb,hg,h1,h0⟩:=lay_spec hl
 simp only [loadVar,Sem.run_bind,run_isAgg hb,Result.andThen_ok,hg,Sem.run_ite]
 cases g with
 | true=>
   obtain ⟨⟨i,hi⟩,hz⟩:=h1 rfl
   simp only [if_true,Sem.run_bind,run_sizeOf hi,Result.andThen_ok,hz,← hn,run_loadCells_list w ad cs hc,Sem.run_pure]
 | false=>
   have hn1:=h0 rfl
   match cs,hn.trans hn1 with
   | [c],_=>
     have:=hc 0 c rfl
     simp only [Addr.add_zero'] at this
     simp [run_load,this]

/-! loads -/
theorem getSV_val (ν:Nat→Value) (l:List SV) (j:Nat) (h:j < l.length):(getSV l j).val ν=(SV.vals ν l).getD j undef:=by
 rw [SV.vals_map]
 simp [getSV,List.getD,List.getElem?_eq_getElem h]

theorem add_add (ad:Addr) (i j:Nat):(ad.add i).add j=ad.add (i+j):=by
 unfold Addr.add
 by_cases hi:i=0 <;> by_cases hj:j=0 <;> simp [hi,hj,Nat.add_assoc]

theorem cellsE_spec {x:Value} {ad:Addr} {n c:Nat} (hx:x = .slice (some ad) n c) (hm:M.on w) (ν:Nat→Value) (sz i:Nat) : ∀ (m off:Nat),oksE M x sz i off m →
  (SV.vals ν (cellsE M x sz i off m)).length=m ∧ ∀ j v,(SV.vals ν (cellsE M x sz i off m))[j]? = some v→w.cell? ((ad.add (i * sz+off)).add j)=some v
 | 0,off,_=>⟨rfl,fun j v h=>by simp [cellsE,SV.vals] at h⟩
 | m+1,off,ho=>by
   obtain ⟨h1,h2⟩:=ho
   obtain ⟨hl,hr⟩:=cellsE_spec hx hm ν sz i m (off+1) h2
   refine ⟨by simp [cellsE,SV.vals,hl],fun j v h=>?_⟩
   cases j with
   | zero=>
     simp only [cellsE,SV.vals,SV.val,List.getElem?_cons_zero,Option.some.injEq] at h
     subst h
     subst hx
     simp only [okE,cellE] at h1
     obtain ⟨u,hu⟩:=Option.isSome_iff_exists.1 h1
     rw [Addr.add_zero',elE,cellE]
     simp only [hu,Option.getD_some]
     exact cellM_on hm hu
   | succ j=>
     simp only [cellsE,SV.vals,List.getElem?_cons_succ] at h
     have:=hr j v h
     rw [add_add] at this ⊢
     rw [← this]
     congr 2
     omega

theorem cellsP_spec {ad:Addr} (hm:M.on w) (ν:Nat→Value) : ∀ (m off:Nat),oksP M ad off m →
  (SV.vals ν (cellsP M ad off m)).length=m ∧ ∀ j v,(SV.vals ν (cellsP M ad off m))[j]? = some v→w.cell? ((ad.add off).add j)=some v
 | 0,off,_=>⟨rfl,fun j v h=>by simp [cellsP,SV.vals] at h⟩
 | m+1,off,ho=>by
   obtain ⟨h1,h2⟩:=ho
   obtain ⟨hl,hr⟩:=cellsP_spec hm ν m (off+1) h2
   refine ⟨by simp [cellsP,SV.vals,hl],fun j v h=>?_⟩
   cases j with
   | zero=>
     simp only [cellsP,SV.vals,SV.val,List.getElem?_cons_zero,Option.some.injEq] at h
     subst h
     simp only [okP] at h1
     obtain ⟨u,hu⟩:=Option.isSome_iff_exists.1 h1
     rw [Addr.add_zero',elP]
     simp only [hu,Option.getD_some]
     exact cellM_on hm hu
   | succ j=>
     simp only [cellsP,SV.vals,List.getElem?_cons_succ] at h
     have:=hr j v h
     rw [add_add] at this ⊢
     rw [← this]
     congr 2
     omega

theorem cell_of_heap {b:Nat} {cs:List Value} {T:TypeId} {fr:Nat×Nat} (h:w.heap[b]? = some (.cells cs.toArray T fr)) (j:Nat):w.cell? ⟨b,j,none⟩=cs[j]?:=by
 simp [World.cell?,h]

theorem ldRow_at {es:List (List Value)} {sz i off:Nat} (hsz : ∀ e ∈ es,e.length=sz) (hi:i < es.length) (ho:off < sz) :
  es.flatten[i * sz+off]? = some ((es.getD i []).getD off undef):=by
 induction es generalizing i with
 | nil=>simp at hi
 | cons e es ih=>
   have he:e.length=sz:=hsz e List.mem_cons_self
   cases i with
   | zero=>
     simp only [Nat.zero_mul,Nat.zero_add,List.flatten_cons,List.getD_cons_zero]
     rw [List.getElem?_append_left (by omega)]
     simp [List.getD,List.getElem?_eq_getElem (show off < e.length by omega)]
   | succ i=>
     rw [List.flatten_cons,List.getElem?_append_right (by rw [he,Nat.succ_mul]; omega),List.getD_cons_succ]
     have:=ih (fun e' h'=>hsz e' (List.mem_cons_of_mem _ h')) (i:=i) (by simpa using hi)
     rw [← this]
     congr 1
     rw [he,Nat.succ_mul]
     omega

theorem ld_sound {t n:Nat} {g:Bool} (hh:Heap E ν H M w) (hl:lay (shp P t)=some (n,g)) {s:SV} (hC:(ld H M (some (n,g)) s).2) :
  (Instr.loadAt t (s.val ν)).run P w = .ok ((ld H M (some (n,g)) s).1.val ν) w:=by
 have h01:=(lay_spec hl).2.2.2
 unfold ld at hC ⊢
 split at hC
 · rename_i k sz i off
   try simp only
   unfold ldK at hC ⊢
   split at hC
   · rename_i cs tt hk
     try simp only
     obtain ⟨rfl,hC⟩:=hC
     obtain ⟨⟨b,T,hν,hb⟩,_⟩:=hh.holds _ (hget_mem hk)
     simp only [SV.val,hν,bOf,Instr.loadAt,Instr.sureAddr,Sem.run_bind,Sem.run_pure,Result.andThen_ok,Nat.zero_mul,Nat.zero_add]
     simp only at hν
     have hc:=cell_of_heap hb
     cases g with
     | false=>
       simp only [ldBox] at hC ⊢
       obtain rfl:=h01 rfl
       rw [run_loadVar_list hl [(SV.vals ν cs).getD off undef] rfl]
       · simp [getSV_val ν cs off hC]
       · intro j v hj
         have hlen:(SV.vals ν cs).length=cs.length:=by rw [SV.vals_map]; simp
         cases j with
         | zero=>
           simp only [List.getElem?_cons_zero,Option.some.injEq] at hj
           subst hj
           rw [Addr.add_zero',hc]
           simp [List.getD,List.getElem?_eq_getElem (show off < (SV.vals ν cs).length by omega)]
         | succ j=>simp at hj
     | true=>
       simp only [ldBox] at hC ⊢
       have hlen:(SV.vals ν cs).length=cs.length:=by rw [SV.vals_map]; simp
       have hv:SV.vals ν ((cs.drop off).take n)=((SV.vals ν cs).drop off).take n:=by simp [SV.vals_map,List.map_take,List.map_drop]
       rw [run_loadVar_list hl (SV.vals ν ((cs.drop off).take n))]
       · simp [SV.val]
       · rw [hv]; simp; omega
       · intro j v hj
         rw [hv] at hj
         have hjn:j < n:=by
          rcases Nat.lt_or_ge j n with h | h
          · exact h
          · rw [List.getElem?_eq_none (by simp; omega)] at hj; cases hj
         rw [List.getElem?_take_of_lt hjn,List.getElem?_drop] at hj
         rw [Addr.add_lit,hc]
         exact hj
   · rename_i sz' es hk
     try simp only
     obtain ⟨rfl,hC⟩:=hC
     obtain ⟨hsz,hr⟩:=hh.holds _ (hget_mem hk)
     have hilt:i < es.length:=by
      cases g <;> exact hC.1
     rcases hr with ⟨_,rfl⟩ | ⟨b,cap,T,sp,hν,_,_,_,hb⟩
     · simp at hilt
     simp only at hν
     simp only [SV.val,hν,bOf,Instr.loadAt,Instr.sureAddr,Sem.run_bind,Sem.run_pure,Result.andThen_ok]
     have hc:=cell_of_heap hb
     have hcell : ∀ o,o < sz→w.cell? ⟨b,i * sz+o,none⟩=some ((es.getD i []).getD o undef):=by
      intro o ho
      have h1:=ldRow_at (fun e he=>(hsz e he).1) hilt ho
      rw [hc,List.getElem?_append_left,h1]
      rcases Nat.lt_or_ge (i * sz+o) es.flatten.length with h | h
      · exact h
      · rw [List.getElem?_eq_none h] at h1; cases h1
     cases g with
     | false=>
       simp only [ldRow] at hC ⊢
       obtain rfl:=h01 rfl
       rw [run_loadVar_list hl [(es.getD i []).getD off undef] rfl]
       · simp [SV.val]
       · intro j v hj
         cases j with
         | zero=>
           simp only [List.getElem?_cons_zero,Option.some.injEq] at hj
           subst hj
           rw [Addr.add_zero',hcell off hC.2]
         | succ j=>simp at hj
     | true=>
       simp only [ldRow] at hC ⊢
       have he:(es.getD i []).length=sz:=by
        rw [List.getD,List.getElem?_eq_getElem hilt]
        exact (hsz _ (List.getElem_mem hilt)).1
       have hv:SV.vals ν ((((es.getD i []).drop off).take n).map SV.v)=((es.getD i []).drop off).take n:=by
        rw [SV.vals_map,List.map_map]
        conv=>rhs; rw [← List.map_id (((es.getD i []).drop off).take n)]
        rfl
       rw [run_loadVar_list hl (((es.getD i []).drop off).take n)]
       · simp only [if_true,SV.val,hv]
       · simp only [List.length_take,List.length_drop]; omega
       · intro j v hj
         have hjn:j < n:=by
          rcases Nat.lt_or_ge j n with h | h
          · exact h
          · rw [List.getElem?_eq_none (by simp; omega)] at hj; cases hj
         rw [List.getElem?_take_of_lt hjn,List.getElem?_drop] at hj
         rw [Addr.add_lit,Nat.add_assoc,hcell (off+j) (by omega),List.getD,hj,Option.getD_some]
   · exact hC.elim
   · rename_i sz' es hk
     try simp only
     obtain ⟨rfl,hC⟩:=hC
     obtain ⟨hsz,hr⟩:=hh.holds _ (hget_mem hk)
     have hilt:i < es.length:=by
      cases g <;> exact hC.1
     have hgd:(es.map (SV.vals ν)).getD i []=SV.vals ν (es.getD i []):=by
      rw [List.getD_eq_getElem?_getD,List.getD_eq_getElem?_getD,List.getElem?_map,List.getElem?_eq_getElem hilt]
      rfl
     rcases hr with ⟨_,hnil⟩ | ⟨b,cap,T,sp,hν,_,_,_,hb⟩
     · rw [List.map_eq_nil_iff] at hnil
       subst hnil
       simp at hilt
     simp only at hν
     simp only [SV.val,hν,bOf,Instr.loadAt,Instr.sureAddr,Sem.run_bind,Sem.run_pure,Result.andThen_ok]
     have hc:=cell_of_heap hb
     have hcell : ∀ o,o < sz→w.cell? ⟨b,i * sz+o,none⟩=some ((SV.vals ν (es.getD i [])).getD o undef):=by
      intro o ho
      have h1:=ldRow_at (fun e he=>(hsz e he).1) (show i < (es.map (SV.vals ν)).length by rw [List.length_map]; exact hilt) ho
      rw [hgd] at h1
      rw [hc,List.getElem?_append_left,h1]
      rcases Nat.lt_or_ge (i * sz+o) (es.map (SV.vals ν)).flatten.length with h | h
      · exact h
      · rw [List.getElem?_eq_none h] at h1; cases h1
     have he:(SV.vals ν (es.getD i [])).length=sz:=by
      rw [← hgd,List.getD,List.getElem?_eq_getElem (show i < (es.map (SV.vals ν)).length by rw [List.length_map]; exact hilt)]
      exact (hsz _ (List.getElem_mem _)).1
     have hel:(es.getD i []).length=sz:=by rw [← he,SV.vals_map,List.length_map]
     cases g with
     | false=>
       simp only [ldTab] at hC ⊢
       generalize es.getD i []=e0 at *
       obtain rfl:=h01 rfl
       rw [run_loadVar_list hl [(SV.vals ν e0).getD off undef] rfl]
       · have hgs:=getSV_val ν e0 off (by rw [hel]; exact hC.2)
         rw [hgs]
         simp
       · intro j v hj
         cases j with
         | zero=>
           simp only [List.getElem?_cons_zero,Option.some.injEq] at hj
           subst hj
           rw [Addr.add_zero',hcell off hC.2]
         | succ j=>simp at hj
     | true=>
       simp only [ldTab] at hC ⊢
       generalize es.getD i []=e0 at *
       have hv:SV.vals ν ((e0.drop off).take n)=((SV.vals ν e0).drop off).take n:=by simp [SV.vals_map,List.map_take,List.map_drop]
       rw [run_loadVar_list hl (((SV.vals ν e0).drop off).take n)]
       · simp only [if_true,SV.val,hv]
       · simp only [List.length_take,List.length_drop]; omega
       · intro j v hj
         have hjn:j < n:=by
          rcases Nat.lt_or_ge j n with h | h
          · exact h
          · rw [List.getElem?_eq_none (by simp; omega)] at hj; cases hj
         rw [List.getElem?_take_of_lt hjn,List.getElem?_drop] at hj
         rw [Addr.add_lit,Nat.add_assoc,hcell (off+j) (by omega),List.getD,hj,Option.getD_some]
   · exact hC.elim
 · rename_i x sz i off
   try simp only
   have hx : ∃ ad n c,x = .slice (some ad) n c:=by
    have key : ∀ o,okE M x sz i o → ∃ ad n c,x = .slice (some ad) n c:=by
     intro o ho
     unfold okE cellE at ho
     split at ho
     · exact ⟨_,_,_,rfl⟩
     · simp at ho
    cases g with
    | false=>exact key off hC
    | true=>
      cases n with
      | zero=>exact absurd rfl hC.1
      | succ n=>exact key off hC.2.1
   obtain ⟨ad,n',c,hx⟩:=hx
   have hsp:=cellsE_spec (w:=w) hx hh.mem ν sz i
   simp only [SV.val,hx,Instr.loadAt,Instr.sureAddr,Sem.run_bind,Sem.run_pure,Result.andThen_ok]
   cases g with
   | false=>
     simp only [ldE] at hC ⊢
     obtain rfl:=h01 rfl
     have h2:=hsp 1 off ⟨hC,trivial⟩
     rw [run_loadVar_list hl _ h2.1 h2.2]
     simp [cellsE,SV.vals,SV.val,hx]
   | true=>
     simp only [ldE] at hC ⊢
     have h2:=hsp n off hC.2
     rw [run_loadVar_list hl _ h2.1 h2.2]
     simp [SV.val,hx]
 · rename_i ad
   try simp only
   have hsp:=cellsP_spec (ad:=ad) (w:=w) hh.mem ν
   simp only [SV.val,Instr.loadAt,Instr.sureAddr,Sem.run_bind,Sem.run_pure,Result.andThen_ok]
   cases g with
   | false=>
     simp only [ldP] at hC ⊢
     obtain rfl:=h01 rfl
     have h2:=hsp 1 0 ⟨hC,trivial⟩
     rw [Addr.add_zero'] at h2
     rw [run_loadVar_list hl _ h2.1 h2.2]
     simp [cellsP,SV.vals,SV.val]
   | true=>
     simp only [ldP] at hC ⊢
     have h2:=hsp n 0 hC
     rw [Addr.add_zero'] at h2
     rw [run_loadVar_list hl _ h2.1 h2.2]
     simp [SV.val]
 · exact hC.elim

end
end Go.X

namespace Go.X
open Go Go.RowKit

section
variable {P:Program} {H:HS} {M:Mem} {N:Nat} {ν:Nat→Value} {σ:Sig} {a:Act} {w:World} {E:Env}

theorem unSV_sound {op:UnOp} {s:SV} (hC:(unSV op s).2):(Op.unary op (s.val ν)).run P w = .ok ((unSV op s).1.val ν) w:=by
 unfold unSV at hC ⊢
 split at hC
 · simp only at hC ⊢
   unfold unV at hC ⊢
   split at hC
   · rfl
   · rename_i k n
     simp only [SV.val,Op.unary,Op.intArith,Int.zero_sub,wrap_in hC]; rfl
   · rename_i n
     simp only [SV.val,Op.unary,Op.intBits]
     show Result.ok (Value.int .i64 (IntKind.i64.wrap ((BitVec.ofInt 64 (-1) ^^^ BitVec.ofInt 64 n).toNat:Int))) w=_
     congr 2
     have h1:BitVec.ofInt 64 (-1) ^^^ BitVec.ofInt 64 n=BitVec.ofInt 64 (-n - 1):=by
      rw [show BitVec.ofInt 64 (-1)=BitVec.allOnes 64 from by decide,BitVec.allOnes_xor]
      apply BitVec.eq_of_toInt_eq
      rw [BitVec.not_eq_neg_add]
      simp only [BitVec.toInt_sub,BitVec.toInt_neg,BitVec.toInt_ofInt]
      simp
     rw [h1]
     have hb : -9223372036854775808≤n∧n≤9223372036854775807:=hC
     rw [IntKind.wrap_i64]
     have h3:(BitVec.ofInt 64 (-n - 1)).toInt = -n - 1:=by
      rw [BitVec.toInt_ofInt]
      simp only [Int.bmod]
      omega
     have h4:=BitVec.toInt_eq_toNat_cond (BitVec.ofInt 64 (-n - 1))
     rw [h3] at h4
     have h5:=(BitVec.ofInt 64 (-n - 1)).isLt
     split at h4 <;> omega
   · exact hC.elim
 · exact hC.elim

theorem convSV_sound {src dst:TypeId} {s:SV} (hC:(convSV (shp P src) (shp P dst) s).2):(convert src dst (s.val ν)).run P w = .ok ((convSV (shp P src) (shp P dst) s).1.val ν) w:=by
 unfold convSV at hC ⊢
 split at hC
 · simp only at hC ⊢
   unfold convV at hC ⊢
   split at hC
   · rename_i k k' n hd
     obtain ⟨d,hs⟩:=under_of_shp hC
     have hd':=shp_ints hd
     simp only [SV.val,convert,Sem.run_bind,run_underlying hs,run_underlying hd',Result.andThen_ok,hd]
     cases d <;> rfl
   · rename_i s' hd
     have hs:=shp_str hC
     have hd':=shp_str hd
     simp only [SV.val,convert,Sem.run_bind,run_underlying hs,run_underlying hd',Result.andThen_ok,hd]
     rfl
   · exact hC.elim
 · exact hC.elim

theorem foldl_push : ∀ (ns:List Int) (r:ByteArray),ns.foldl (fun r n=>r.push (UInt8.ofNat n.toNat)) r=⟨r.data++(ns.map fun n=>UInt8.ofNat n.toNat).toArray⟩
 | [],r=>by simp
 | n :: ns,r=>by
   simp only [List.foldl_cons,List.map_cons]
   rw [foldl_push ns]
   simp [ByteArray.push]
theorem u8s_spec : ∀ {es:List (List Value)},u8s es → ∃ ns:List Int,es.flatten=ns.map (Value.int .u8)∧es.map byteOf=ns.map (fun n=>UInt8.ofNat n.toNat)∧ns.length=es.length
 | [],_=>⟨[],rfl,rfl,rfl⟩
 | e :: es,h=>by
   unfold u8s at h
   split at h
   · rename_i heq; cases heq
   · rename_i n r heq
     obtain ⟨rfl,rfl⟩:=List.cons.inj heq
     obtain ⟨ns,h1,h2,h3⟩:=u8s_spec h
     exact ⟨n :: ns,by simp [h1],by simp [h2,byteOf],by simp [h3]⟩
   · exact h.elim

theorem convH_sound {src dst:TypeId} (hh:Heap E ν H M w) {s:SV} (hC:(convH P H src dst s).2):(convert src dst (s.val ν)).run P w = .ok ((convH P H src dst s).1.val ν) w:=by
 cases s with
 | v x=>exact convSV_sound hC
 | own k=>
   simp only [convH] at hC ⊢
   obtain ⟨⟨h1,h2⟩,h3⟩:=hC
   have hd:=shp_str h2
   cases hk:hget H k with
   | none=>rw [hk] at h3; exact h3.elim
   | some p=>
     cases p with
     | box cs t=>rw [hk] at h3; exact h3.elim
     | tab sz es=>rw [hk] at h3; exact h3.elim
     | mp es=>rw [hk] at h3; exact h3.elim
     | row sz es=>
       rw [hk] at h3
       obtain ⟨rfl,hu⟩:=h3
       obtain ⟨e,sz',g,hS⟩ : ∃ e sz' g,shp P src = .slice e sz' g:=by
        unfold elShp at h1
        split at h1
        · rename_i e sz' g hS; exact ⟨e,sz',g,hS⟩
        · cases h1
       rw [hS] at h1
       have hs:=(shp_slice hS).1
       have he:=shp_ints (show shp P e = .int .u8 from h1)
       obtain ⟨ns,g1,g2,g3⟩:=u8s_spec hu
       obtain ⟨_,hr⟩:=hh.holds _ (hget_mem hk)
       simp only at hr
       simp only [convRow,SV.val]
       rcases hr with ⟨hν,rfl⟩ | ⟨b,cap,T,sp,hν,h4,h5,h6,hb⟩
       · rw [hν,run_convert_bytes_string w src dst e none 0 0 hs he hd]
         rfl
       · rw [hν,run_convert_bytes_string w src dst e _ _ _ hs he hd]
         have hl:=run_loadCells_list (P:=P) w ⟨b,0,none⟩ (ns.map (Value.int .u8)) (fun j v hj=>by
          have hadd:(⟨b,0,none⟩:Addr).add j=⟨b,j,none⟩:=by unfold Addr.add; split <;> simp_all
          rw [hadd,cell_of_heap hb,g1,List.getElem?_append_left (List.getElem?_eq_some_iff.1 hj).1]
          exact hj)
         rw [List.length_map,g3] at hl
         rw [run_bytesToString w _ _ _ ns hl,foldl_push,g2]
         simp [show ByteArray.empty.data = #[] from rfl]
 | _=>exact hC.elim

theorem indexSV_sound {t:TypeId} {s i:SV} (hC:(indexSV (shp P t) s i).2):(Instr.index t (s.val ν) (i.val ν)).run P w = .ok ((indexSV (shp P t) s i).1.val ν) w:=by
 unfold indexSV at hC ⊢
 split at hC
 · rename_i s k n
   obtain ⟨hs,h0,h1⟩:=hC
   have ht:=shp_str hs
   have hlt:n.toNat < s.size:=by rw [size_bl]; omega
   have hg:s[n.toNat]? = some s[n.toNat]:=ByteArray.getElem?_lt' s _ hlt
   simp only [SV.val,Instr.index,asIntOf,Sem.run_bind,Sem.run_pure,Result.andThen_ok,run_underlying ht,h0,if_true,hg,strIx]
   have hb:(bl s).getD n.toNat 0=s[n.toNat]:=by
    have:n.toNat < (bl s).length:=by omega
    rw [List.getD,List.getElem?_eq_getElem this]
    rfl
   rw [hb]
 · exact hC.elim

theorem extract_B (s:ByteArray) (lo hi:Nat) (h:hi≤(bl s).length):s.extract lo hi=⟨(((bl s).drop lo).take (hi - lo)).toArray⟩:=by
 apply ByteArray.ext
 rw [ByteArray.data_extract]
 apply Array.ext'
 simp [bl,List.extract_eq_take_drop]

theorem sliceStr_sound {t:TypeId} {s:ByteArray} {lo hi:Int} (ht:P.underlying t=some .string) (hC:(sliceStr (bl s) lo hi).2) (lo' hi':Option Value)
  (hlo:(lo'=none∧lo=0) ∨ ∃ k,lo'=some (.int k lo)) (hhi:(hi'=none∧hi=(bl s).length) ∨ ∃ k,hi'=some (.int k hi)) :
  (Instr.sliceAt t (.string s) lo' hi' none).run P w = .ok ((sliceStr (bl s) lo hi).1.val ν) w:=by
 obtain ⟨⟨h0,h1⟩,h2⟩:=hC
 have hz:=size_bl s
 have hfin:s.extract lo.toNat hi.toNat=⟨(((bl s).drop lo.toNat).take (hi.toNat - lo.toNat)).toArray⟩:=extract_B s _ _ (by omega)
 simp only [Instr.sliceAt,Sem.run_bind,run_underlying ht,Result.andThen_ok,Instr.slice,Instr.sliceBounds,sliceStr,SV.val,← hfin]
 have c1:0≤hi∧hi≤(s.size:Int):=⟨by omega,by omega⟩
 have c2:0≤lo∧lo≤((hi.toNat:Nat):Int):=⟨h0,by omega⟩
 have c3:0≤lo∧lo≤(s.size:Int):=⟨h0,by omega⟩
 rcases hlo with ⟨rfl,rfl⟩ | ⟨k,rfl⟩ <;> rcases hhi with ⟨rfl,rfl⟩ | ⟨k',rfl⟩ <;>
  simp [Instr.sliceBound,asIntOf,Sem.run_bind,c1,c2,c3,hz]
 all_goals first | (intro h; exfalso; omega) | (rw [if_pos h2,if_pos (by omega)])

theorem sliceVal_sound {t e:TypeId} {sz:Nat} {y:Value} {lo hi:Int} (ht:P.underlying t=some (.slice e)) (he : ∃ i,P.info? e=some i) (hsz:szT P e=sz) (hC:(sliceVal sz y lo hi).2) (lo' hi':Option Value)
  (hlo:(lo'=none∧lo=0) ∨ ∃ k,lo'=some (.int k lo)) (hhi:(hi'=none∧hi=lenV y) ∨ ∃ k,hi'=some (.int k hi)) :
  (Instr.sliceAt t y lo' hi' none).run P w = .ok ((sliceVal sz y lo hi).1.val ν) w:=by
 obtain ⟨hs,⟨h0,h1⟩,h2⟩:=hC
 obtain ⟨i,hi0⟩:=he
 cases y with
 | slice ad n c=>
   simp only [lenV,capV] at hhi h2
   simp only [Instr.sliceAt,Sem.run_bind,run_underlying ht,Result.andThen_ok,Instr.slice,Instr.sliceBounds,sliceVal,SV.val,subV]
   have c1:0≤hi∧hi≤(c:Int):=⟨by omega,by omega⟩
   have c2:0≤lo∧lo≤((hi.toNat:Nat):Int):=⟨h0,by omega⟩
   rcases hlo with ⟨rfl,rfl⟩ | ⟨k,rfl⟩ <;> rcases hhi with ⟨rfl,rfl⟩ | ⟨k',rfl⟩ <;>
    simp [Instr.sliceBound,asIntOf,Sem.run_bind,c1,c2,run_sizeOf hi0,hsz]
   all_goals (intro h; exfalso; omega)
 | _=>simp [isSl] at hs

theorem lenSV_sound {t ty:TypeId} (hh:Heap E ν H M w) {s:SV} (hC:(lenSV (shp P t) H s).2) (args:Array Value) (ha:args = #[s.val ν]) :
  (Builtin.len_ #[t] ty args).run P w = .ok ((lenSV (shp P t) H s).1.val ν) w:=by
 subst ha
 unfold lenSV at hC ⊢
 split at hC
 · rename_i s hs
   have ht:=shp_str hs
   simp [Builtin.len_,SV.val,run_underlying ht,goInt,size_bl,hs]
 · rename_i e sz g y hs
   have ht:=(shp_slice hs).1
   cases y with
   | slice ad n c=>simp [Builtin.len_,SV.val,run_underlying ht,goInt,lenV,hs]
   | _=>simp [isSl] at hC
 · rename_i e sz g k hs
   have ht:=(shp_slice hs).1
   split at hC
   · rename_i sz' es hk
     obtain ⟨hsz,hr⟩:=hh.holds _ (hget_mem hk)
     simp only at hr
     rcases hr with ⟨hν,rfl⟩ | ⟨b,cap,T,sp,hν,_⟩ <;> simp [Builtin.len_,SV.val,run_underlying ht,goInt,hν]
   · rename_i sz' es hk
     obtain ⟨hsz,hr⟩:=hh.holds _ (hget_mem hk)
     simp only [List.length_map,List.map_eq_nil_iff] at hr
     rcases hr with ⟨hν,rfl⟩ | ⟨b,cap,T,sp,hν,_⟩ <;> simp [Builtin.len_,SV.val,run_underlying ht,goInt,hν]
   · exact hC.elim
 · exact hC.elim

theorem sliceSV_sound {t:TypeId} {x lo hi:SV} (hC:(sliceSV (shp P t) x lo hi).2) (lo' hi':Option Value)
  (hlo:lo'=some (lo.val ν)∨(lo'=none∧lo = .v (.int .i64 0))) (hhi:hi'=some (hi.val ν)∨(hi'=none∧hi=(lenSV (shp P t) H x).1)) :
  (Instr.sliceAt t (x.val ν) lo' hi' none).run P w = .ok ((sliceSV (shp P t) x lo hi).1.val ν) w:=by
 unfold sliceSV at hC ⊢
 split at hC
 · rename_i s k i k' j hs
   simp only [hs,lenSV,SV.val,SV.v.injEq,Value.int.injEq] at hlo hhi ⊢
   exact sliceStr_sound (shp_str hs) hC _ _ (hlo.elim (fun h=>.inr ⟨_,h⟩) (fun h=>.inl ⟨h.1,h.2.2⟩)) (hhi.elim (fun h=>.inr ⟨_,h⟩) (fun h=>.inl ⟨h.1,h.2.2⟩))
 · rename_i e sz g y k i k' j hs
   simp only [hs,lenSV,SV.val,SV.v.injEq,Value.int.injEq] at hlo hhi ⊢
   obtain ⟨h1,h2,h3⟩:=shp_slice hs
   exact sliceVal_sound h1 h2 h3 hC _ _ (hlo.elim (fun h=>.inr ⟨_,h⟩) (fun h=>.inl ⟨h.1,h.2.2⟩)) (hhi.elim (fun h=>.inr ⟨_,h⟩) (fun h=>.inl ⟨h.1,h.2.2⟩))
 · exact hC.elim

theorem slice3SV_sound {t:TypeId} {x lo hi mx:SV} (hC:(slice3SV (shp P t) x lo hi mx).2) :
  (Instr.sliceAt t (x.val ν) (some (lo.val ν)) (some (hi.val ν)) (some (mx.val ν))).run P w = .ok ((slice3SV (shp P t) x lo hi mx).1.val ν) w:=by
 unfold slice3SV at hC ⊢
 split at hC
 · rename_i e sz g y k1 i k2 j k3 k hs
   obtain ⟨ht,⟨ti,hi0⟩,hsz⟩:=shp_slice hs
   obtain ⟨hy,⟨h0,h1⟩,h2,h3⟩:=hC
   simp only [hs,SV.val]
   cases y with
   | slice ad n c=>
     simp only [capV] at h3
     have c0:0≤k∧k≤(c:Int):=⟨by omega,h3⟩
     have c1:0≤j∧j≤((k.toNat:Nat):Int):=⟨by omega,by omega⟩
     have c2:0≤i∧i≤((j.toNat:Nat):Int):=⟨h0,by omega⟩
     simp [Instr.sliceAt,Sem.run_bind,run_underlying ht,Result.andThen_ok,Instr.slice,Instr.sliceBounds,subV3,Instr.sliceBound,asIntOf,c0,c1,c2,run_sizeOf hi0,hsz]
     rw [if_pos (by omega),if_pos (by omega)]
   | _=>simp [isSl] at hy
 · exact hC.elim

theorem run_part_list {t n:Nat} {g:Bool} {l:List Value} {off:Nat} (hz : ∃ i,P.info? t=some i) (hb : ∃ d,P.underlying t=some d) (hn:szT P t=n) (hg:aggT P t=g) (ho:if g then off+n≤l.length else off < l.length) :
  (part t l.toArray off).run P w = .ok (if g then .agg ((l.drop off).take n).toArray else l.getD off undef) w:=by
 obtain ⟨i,hi⟩:=hz
 obtain ⟨d,hd⟩:=hb
 have h1:(isAgg t).run P w = .ok (aggT P t) w:=by
  simp only [isAgg,Sem.run_bind,run_underlying hd,Result.andThen_ok,aggT,hd]
  cases d <;> rfl
 simp only [part,Sem.run_bind,h1,Result.andThen_ok,hg,Sem.run_ite]
 cases g with
 | true=>
   simp only [if_true,Sem.run_bind,run_sizeOf hi,Result.andThen_ok,hn,Sem.run_pure] at ho ⊢
   congr 2
   apply Array.ext'
   simp [List.extract_eq_take_drop]
 | false=>
   simp only [Bool.false_eq_true,if_false] at ho ⊢
   simp [List.getD,List.getElem?_eq_getElem ho]

end
end Go.X

namespace Go.X
open Go Go.RowKit

section
variable {P:Program} {H:HS} {M:Mem} {N:Nat} {ν:Nat→Value} {σ:Sig} {a:Act} {w:World} {E:Env}

theorem okLv_split : ∀ {k1 k2:List Shp} {U V:List Value},okLv (k1++k2) U V→okLv k1 (U.take k1.length) (V.take k1.length)∧okLv k2 (U.drop k1.length) (V.drop k1.length)∧eqLv U V=(eqLv (U.take k1.length) (V.take k1.length) && eqLv (U.drop k1.length) (V.drop k1.length))
 | [],k2,U,V,h=>by simpa [okLv,eqLv] using h
 | k :: k1,k2,[],V,h=>by simp [okLv] at h
 | k :: k1,k2,x :: U,[],h=>by simp [okLv] at h
 | k :: k1,k2,x :: U,y :: V,h=>by
   obtain ⟨h1,h2⟩:=h
   obtain ⟨h3,h4,h5⟩:=okLv_split h2
   simp only [List.length_cons,List.take_succ_cons,List.drop_succ_cons,okLv,eqLv]
   exact ⟨⟨h1,h3⟩,h4,by rw [h5,Bool.and_assoc]⟩
theorem okLv_len : ∀ {ks:List Shp} {U V:List Value},okLv ks U V→U.length=ks.length∧V.length=ks.length
 | [],[],[],_=>⟨rfl,rfl⟩
 | k :: ks,x :: U,y :: V,h=>by
   obtain ⟨h1,h2⟩:=okLv_len h.2
   simp [h1,h2]
 | [],[],_ :: _,h=>h.elim
 | [],_ :: _,_,h=>by cases h
 | _ :: _,[],_,h=>by cases h
 | _ :: _,_ :: _,[],h=>by cases h
def packV (g:Bool) (X:List Value):Value:=if g then .agg X.toArray else X.getD 0 undef
theorem part_pack {t n off:Nat} {X:List Value} (hz : ∃ i,P.info? t=some i) (hb : ∃ d,P.underlying t=some d) (hn:szT P t=n) (ho:off+n≤X.length) (h1:aggT P t=false→n=1) :
  (part t X.toArray off).run P w = .ok (packV (aggT P t) ((X.drop off).take n)) w:=by
 rw [run_part_list hz hb hn rfl (by
  cases hg:aggT P t
  · have:=h1 hg; simp; omega
  · simpa using ho)]
 unfold packV
 cases hg:aggT P t
 · have:=h1 hg
   subst this
   have hlt:off < X.length:=by omega
   simp [List.getD,hlt]
 · rfl
theorem flat_some {d t:Nat} {ks:List Shp} (h:flatT P d t=some ks) : ∃ dd,P.underlying t=some dd:=by
 cases d with
 | zero=>simp [flatT] at h
 | succ d=>
   unfold flatT at h
   cases hu:P.underlying t with
   | none=>simp [hu] at h
   | some dd=>exact ⟨dd,rfl⟩
theorem flat_fields {d e:Nat} (IH : ∀ t ks,flatT P d t=some ks → ∀ X Y,okLv ks X Y→(Op.equalIn (d+e) t (packV (aggT P t) X) (packV (aggT P t) Y)).run P w = .ok (eqLv X Y) w) (X Y:List Value) :
  ∀ (fs:List Field) (off:Nat) (ks:List Shp),flatFs (flatT P d) P fs off=some ks→okLv ks (X.drop off) (Y.drop off)→(Op.eqFields (d+e) X.toArray Y.toArray fs).run P w = .ok (eqLv (X.drop off) (Y.drop off)) w
 | [],off,ks,h,ho=>by
   simp only [flatFs,Option.some.injEq] at h
   subst h
   have:=okLv_len ho
   have h1:X.drop off=[]:=List.length_eq_zero_iff.1 (by simpa using this.1)
   rw [h1]
   simp [Op.eqFields,eqLv]
 | f :: r,off,ks,h,ho=>by
   simp only [flatFs] at h
   split at h
   · rename_i hn
     obtain ⟨hnm,rfl⟩:=hn
     cases hf:flatT P d f.type with
     | none=>rw [hf] at h; cases h
     | some k1=>
       rw [hf] at h
       simp only at h
       split at h
       · rename_i hc
         obtain ⟨hz,hi,hg⟩:=hc
         obtain ⟨k2,h2,rfl⟩:=Option.map_eq_some_iff.1 h
         obtain ⟨o1,o2,oe⟩:=okLv_split ho
         have hlen:=okLv_len ho
         simp only [List.length_drop,List.length_append] at hlen
         have hk1 : ∀ Z:List Value,Z.length - f.offset=k1.length+k2.length→(k1.length≠0→f.offset+k1.length≤Z.length):=fun Z hZ h0=>by omega
         have hle:f.offset+k1.length≤X.length∧f.offset+k1.length≤Y.length∨k1.length=0:=by omega
         have hi' : ∃ i,P.info? f.type=some i:=Option.isSome_iff_exists.1 hi
         have hb:=flat_some hf
         have step:=IH _ _ hf _ _ o1
         have rest:=flat_fields IH X Y r (f.offset+k1.length) k2 h2 (by rw [← List.drop_drop,← List.drop_drop]; exact o2)
         have pX:(part f.type X.toArray f.offset).run P w = .ok (packV (aggT P f.type) ((X.drop f.offset).take k1.length)) w:=by
          rcases hle with hle | h0
          · exact part_pack hi' hb hz hle.1 hg
          · rw [h0] at hz hg ⊢
            have hgt:aggT P f.type=true:=by
             cases hgg:aggT P f.type
             · have:=hg hgg; omega
             · rfl
            obtain ⟨i,hi2⟩:=hi'
            obtain ⟨dd,hdd⟩:=hb
            have h1:(isAgg f.type).run P w = .ok (aggT P f.type) w:=by
             simp only [isAgg,Sem.run_bind,run_underlying hdd,Result.andThen_ok,aggT,hdd]
             cases dd <;> rfl
            simp only [part,Sem.run_bind,h1,Result.andThen_ok,hgt,Sem.run_ite,if_true,run_sizeOf hi2,hz,Sem.run_pure,packV]
            simp
         have pY:(part f.type Y.toArray f.offset).run P w = .ok (packV (aggT P f.type) ((Y.drop f.offset).take k1.length)) w:=by
          rcases hle with hle | h0
          · exact part_pack hi' hb hz hle.2 hg
          · rw [h0] at hz hg ⊢
            have hgt:aggT P f.type=true:=by
             cases hgg:aggT P f.type
             · have:=hg hgg; omega
             · rfl
            obtain ⟨i,hi2⟩:=hi'
            obtain ⟨dd,hdd⟩:=hb
            have h1:(isAgg f.type).run P w = .ok (aggT P f.type) w:=by
             simp only [isAgg,Sem.run_bind,run_underlying hdd,Result.andThen_ok,aggT,hdd]
             cases dd <;> rfl
            simp only [part,Sem.run_bind,h1,Result.andThen_ok,hgt,Sem.run_ite,if_true,run_sizeOf hi2,hz,Sem.run_pure,packV]
            simp
         rw [oe]
         simp only [Op.eqFields,hnm,ne_eq,not_false_eq_true,if_true,Sem.run_bind,pX,pY,step,Result.andThen_ok]
         cases he:eqLv (List.take k1.length (List.drop f.offset X)) (List.take k1.length (List.drop f.offset Y))
         · simp
         · simp only [Bool.not_true,Bool.false_eq_true,if_false,Bool.true_and,List.drop_drop]
           exact rest
       · cases h
   · cases h
theorem flat_run : ∀ (d e t:Nat) (ks:List Shp),flatT P d t=some ks → ∀ X Y,okLv ks X Y→(Op.equalIn (d+e) t (packV (aggT P t) X) (packV (aggT P t) Y)).run P w = .ok (eqLv X Y) w
 | 0,e,t,ks,h,X,Y,_=>by simp [flatT] at h
 | d+1,e,t,ks,h,X,Y,ho=>by
   have hde:d+1+e=(d+e)+1:=by omega
   unfold flatT at h
   split at h
   · rename_i k hu
     cases h
     match X,Y,ho with
     | [x],[y],ho=>
       obtain ⟨hk,_⟩:=ho
       have hag:aggT P t=false:=by simp [aggT,hu]
       rw [hag,hde]
       simp only [packV,Bool.false_eq_true,if_false,List.getD_cons_zero,eqLv,Bool.and_true]
       cases x <;> cases y <;> simp only [kindP] at hk
       obtain ⟨rfl,rfl⟩:=hk
       rw [run_equalIn_int w (d+e) t _ _ _ _ hu]
       simp only [eqV]
       congr 1
     | [],_,ho=>simp [okLv] at ho
     | _ :: _ :: _,Y,ho=>cases Y <;> simp [okLv] at ho
     | [x],[],ho=>simp [okLv] at ho
     | [x],_ :: _ :: _,ho=>simp [okLv] at ho
   · rename_i hu
     cases h
     match X,Y,ho with
     | [x],[y],ho=>
       obtain ⟨hk,_⟩:=ho
       have hag:aggT P t=false:=by simp [aggT,hu]
       rw [hag,hde]
       simp only [packV,Bool.false_eq_true,if_false,List.getD_cons_zero,eqLv,Bool.and_true]
       cases x <;> cases y <;> simp only [kindP] at hk
       rw [run_equalIn_string w (d+e) t _ _ hu]
       simp only [eqV,toList_bl,beq_eq_decide]
     | [],_,ho=>simp [okLv] at ho
     | _ :: _ :: _,Y,ho=>cases Y <;> simp [okLv] at ho
     | [x],[],ho=>simp [okLv] at ho
     | [x],_ :: _ :: _,ho=>simp [okLv] at ho
   · rename_i hu
     cases h
     match X,Y,ho with
     | [x],[y],ho=>
       obtain ⟨hk,_⟩:=ho
       have hag:aggT P t=false:=by simp [aggT,hu]
       rw [hag,hde]
       simp only [packV,Bool.false_eq_true,if_false,List.getD_cons_zero,eqLv,Bool.and_true]
       cases x <;> cases y <;> simp only [kindP] at hk
       rw [run_equalIn_bool' w (d+e) t _ _ hu]
       rfl
     | [],_,ho=>simp [okLv] at ho
     | _ :: _ :: _,Y,ho=>cases Y <;> simp [okLv] at ho
     | [x],[],ho=>simp [okLv] at ho
     | [x],_ :: _ :: _,ho=>simp [okLv] at ho
   · rename_i fs hu
     split at h
     · cases h
     · rename_i hst
       have hag:aggT P t=true:=by simp [aggT,hu]
       have hfo:P.fieldsOf t=fs:=by simp [Program.fieldsOf,hu]
       rw [hag,hde]
       simp only [packV,if_true]
       rw [run_equalIn_struct w (d+e) t _ _ (by rw [hfo]; exact hu) (by simpa using hst),hfo]
       exact flat_fields (fun t ks h X Y=>flat_run d e t ks h X Y) X Y fs.toList 0 ks h ho
   · cases h
theorem okLs_vals (ν:Nat→Value) : ∀ {ks:List Shp} {l l':List SV},okLs ks l l'→okLv ks (SV.vals ν l) (SV.vals ν l')∧eqLs l l'=eqLv (SV.vals ν l) (SV.vals ν l')
 | [],[],[],_=>⟨trivial,rfl⟩
 | k :: ks,.v x :: l,.v y :: l',h=>by
   obtain ⟨h1,h2⟩:=okLs_vals ν h.2
   simp only [SV.vals,SV.val,okLv,eqLs,eqLv]
   exact ⟨⟨h.1,h1⟩,by rw [h2]⟩
 | [],[],_ :: _,h=>h.elim
 | [],_ :: _,_,h=>by cases h
 | _ :: _,[],_,h=>by cases h
 | k :: ks,s :: l,[],h=>by cases s <;> exact h.elim
 | k :: ks,s :: l,s' :: l',h=>by
   cases s <;> cases s' <;> first | exact h.elim | (obtain ⟨h1,h2⟩:=okLs_vals ν h.2; simp only [SV.vals,SV.val,okLv,eqLs,eqLv]; exact ⟨⟨h.1,h1⟩,by rw [h2]⟩)
theorem run_eqAgg {t:TypeId} {op:BinOp} {x y:Operand} {l l':List SV} (hC:(eqAgg l l' (eqT P t) op).2) :
  (do eqGuard op t x y (.agg (SV.vals ν l).toArray) (.agg (SV.vals ν l').toArray); binOp op t (.agg (SV.vals ν l).toArray) (.agg (SV.vals ν l').toArray):Sem Value).run P w = .ok ((eqAgg l l' (eqT P t) op).1.val ν) w:=by
 cases he:eqT P t with
 | none=>rw [he] at hC; exact hC.elim
 | some ks=>
   rw [he] at hC
   unfold eqT at he
   split at he
   · rename_i fs hu
     split at he
     · cases he
     · rename_i hg
       have hag:aggT P t=true:=by simp [aggT,hu]
       cases op <;> simp only [eqAgg] at hC ⊢ <;> try exact hC.elim
       all_goals
        obtain ⟨h1,h2⟩:=okLs_vals ν hC
        have:=flat_run (w:=w) 8 9992 t ks he _ _ h1
        rw [hag] at this
        simp only [packV,if_true] at this
        simp only [Sem.run_bind,run_eqGuard_agg w _ t x y _ _ (by simpa using hg),Result.andThen_ok,run_eql_struct,run_neq_struct,this,SV.val,h2]
   · cases he

theorem run_ptrNil {t:TypeId} {op:BinOp} {x y:Operand} {p:Addr} (hC:(ptrNil (ptrT P t) op).2) :
  (do eqGuard op t x y (.pointer (some p)) (.pointer none); binOp op t (.pointer (some p)) (.pointer none):Sem Value).run P w = .ok ((ptrNil (ptrT P t) op).1.val ν) w:=by
 have key:ptrT P t=true→(Op.equal t (.pointer (some p)) (.pointer none)).run P w = .ok false w:=fun h=>by
  unfold ptrT at h
  split at h
  · rename_i e hu
    have hd : ∀ d:Nat,(Op.equalIn (d+1) t (.pointer (some p)) (.pointer none)).run P w = .ok false w:=fun d=>by simp [Op.equalIn,run_underlying hu]
    rw [Op.equal,Op.maxDepth]
    exact hd 9999
  · cases h
 cases op <;> simp only [ptrNil] at hC <;> (try exact hC.elim)
 · show ((Op.equal t (.pointer (some p)) (.pointer none)).bind _).run P w=_
   rw [Sem.run_bind',key hC]
   rfl
 · show ((Op.equal t (.pointer (some p)) (.pointer none)).bind _).run P w=_
   rw [Sem.run_bind',key hC]
   rfl
theorem binSV_sound {t u:TypeId} {op:BinOp} {x y:Operand} {s s':SV} (hx:a.eval x=s.val ν) (hy:a.eval y=s'.val ν) (hC:(binSV P t op s s').2) :
  (do eqGuard op t x y (a.eval x) (a.eval y); binOp op t (a.eval x) (a.eval y):Sem Value).run P w = .ok ((binSV P t op s s').1.val ν) w:=by
 unfold binSV at hC ⊢
 split at hC
 · rw [hx,hy]; exact run_bin w op t x y _ _ hC
 · rename_i l l'
   rw [hx,hy]
   simp only [SV.val]
   exact run_eqAgg hC
 · rw [hx,hy]
   exact run_ptrNil hC
 · exact hC.elim

theorem fieldAt_spec {t f off n:Nat} {g:Bool} (h:fieldAt (shp P t) f=some (off,n,g)) :
  ∃ fs fld,P.underlying t=some (.struct fs)∧fs[f]? = some fld∧fld.offset=off∧szT P fld.type=n∧aggT P fld.type=g∧(∃ i,P.info? fld.type=some i) ∧ ∃ d,P.underlying fld.type=some d:=by
 unfold fieldAt at h
 split at h
 · rename_i l sz hs
   obtain ⟨fs,hu,hl,hi,_⟩:=shp_struct hs
   rw [← hl,List.getElem?_map] at h
   cases hf:fs.toList[f]? with
   | none=>simp [hf] at h
   | some fld=>
     simp only [hf,Option.map_some,Option.some.injEq,Prod.mk.injEq] at h
     have hm:=List.mem_of_getElem? hf
     exact ⟨fs,fld,hu,by rw [← Array.getElem?_toList]; exact hf,h.1,h.2.1,h.2.2,(hi fld hm).1,(hi fld hm).2⟩
 · cases h

theorem fieldSV_sound {t f:Nat} {s:SV} (hC:(fieldSV (shp P t) f s).2):(Instr.field t (s.val ν) f).run P w = .ok ((fieldSV (shp P t) f s).1.val ν) w:=by
 unfold fieldSV at hC ⊢
 split at hC
 · rename_i off n l hf
   obtain ⟨fs,fld,hu,hfl,h1,h2,h3,h4,h5⟩:=fieldAt_spec hf
   have hlen:(SV.vals ν l).length=l.length:=by rw [SV.vals_map]; simp
   have:=run_part_list (P:=P) (w:=w) (l:=SV.vals ν l) (off:=off) h4 h5 h2 h3 (by simp only [Bool.false_eq_true,if_false]; simp only at hC; omega)
   simp only [Instr.field,Sem.run_bind,run_underlying hu,Result.andThen_ok,hfl,SV.val,asAgg,Sem.run_pure,h1,this,hf,Bool.false_eq_true,if_false]
   rw [getSV_val ν l off hC]
 · rename_i off n l hf
   obtain ⟨fs,fld,hu,hfl,h1,h2,h3,h4,h5⟩:=fieldAt_spec hf
   have hlen:(SV.vals ν l).length=l.length:=by rw [SV.vals_map]; simp
   have hv:SV.vals ν ((l.drop off).take n)=((SV.vals ν l).drop off).take n:=by simp [SV.vals_map,List.map_take,List.map_drop]
   have:=run_part_list (P:=P) (w:=w) (l:=SV.vals ν l) (off:=off) h4 h5 h2 h3 (by simp only [if_true]; simp only at hC; omega)
   simp only [Instr.field,Sem.run_bind,run_underlying hu,Result.andThen_ok,hfl,SV.val,asAgg,Sem.run_pure,h1,this,hf,if_true,hv]
 · exact hC.elim

theorem fieldAddrSV_sound {t f:Nat} {s:SV} (hC:(fieldAddrSV (shp P t) f s).2):(Instr.fieldAt t (s.val ν) f).run P w = .ok ((fieldAddrSV (shp P t) f s).1.val ν) w:=by
 unfold fieldAddrSV at hC ⊢
 split at hC
 · rename_i fo n g k sz i off hf
   obtain ⟨fs,fld,hu,hfl,h1,h2,h3,⟨i0,h4⟩,h5⟩:=fieldAt_spec hf
   simp only at hC
   simp only [Instr.fieldAt,Sem.run_bind,run_underlying hu,Result.andThen_ok,hfl,SV.val,Instr.sureAddr,Sem.run_pure,fieldPlace,run_sizeOf h4,h2,Sem.run_ite,if_neg hC,h1,hf,Addr.add_lit,Nat.add_assoc]
 · rename_i fo n g x sz i off hf
   obtain ⟨fs,fld,hu,hfl,h1,h2,h3,⟨i0,h4⟩,h5⟩:=fieldAt_spec hf
   simp only at hC
   cases x with
   | slice ad m c=>
     cases ad with
     | some ad=>simp only [Instr.fieldAt,Sem.run_bind,run_underlying hu,Result.andThen_ok,hfl,SV.val,Instr.sureAddr,Sem.run_pure,fieldPlace,run_sizeOf h4,h2,Sem.run_ite,if_neg hC.1,h1,hf,add_add,Nat.add_assoc]
     | none=>simp [someV] at hC
   | _=>simp [someV] at hC
 · rename_i fo n g ad hf
   obtain ⟨fs,fld,hu,hfl,h1,h2,h3,⟨i0,h4⟩,h5⟩:=fieldAt_spec hf
   simp only at hC
   simp only [Instr.fieldAt,Sem.run_bind,run_underlying hu,Result.andThen_ok,hfl,SV.val,Instr.sureAddr,Sem.run_pure,fieldPlace,run_sizeOf h4,h2,Sem.run_ite,if_neg hC,h1,hf]
 · exact hC.elim

theorem indexAddrSV_sound {t:Nat} (hh:Heap E ν H M w) {s i:SV} (hC:(indexAddrSV (shp P t) H s i).2):(Instr.indexAt t (s.val ν) (i.val ν)).run P w = .ok ((indexAddrSV (shp P t) H s i).1.val ν) w:=by
 unfold indexAddrSV at hC ⊢
 split at hC
 · rename_i e sz g y k n hs
   obtain ⟨hu,⟨i0,hi0⟩,hz⟩:=shp_slice hs
   obtain ⟨⟨h0,h1⟩,h2⟩:=hC
   cases y with
   | slice ad m c=>
     cases ad with
     | some ad=>
       simp only [lenV] at h1
       simp only [hs,Instr.indexAt,SV.val,asIntOf,Sem.run_bind,Sem.run_pure,Result.andThen_ok,run_underlying hu,Sem.run_ite,h0,h1,and_self,if_true,run_sizeOf hi0,hz,Nat.add_zero]
     | none=>simp [someV] at h2
   | _=>simp [someV] at h2
 · rename_i e sz g k kd n hs
   obtain ⟨hu,⟨i0,hi0⟩,hz⟩:=shp_slice hs
   split at hC
   · rename_i sz' es hk
     obtain ⟨rfl,h0,h1⟩:=hC
     obtain ⟨hsz,hr⟩:=hh.holds _ (hget_mem hk)
     rcases hr with ⟨_,rfl⟩ | ⟨b,cap,T,sp,hν,_⟩
     · simp at h1; omega
     · simp only at hν
       simp only [hs,hk,Instr.indexAt,SV.val,hν,bOf,asIntOf,Sem.run_bind,Sem.run_pure,Result.andThen_ok,run_underlying hu,Sem.run_ite,h0,h1,and_self,if_true,run_sizeOf hi0,hz,Addr.add_lit,Nat.zero_add,Nat.add_zero]
   · rename_i sz' es hk
     obtain ⟨rfl,h0,h1⟩:=hC
     obtain ⟨hsz,hr⟩:=hh.holds _ (hget_mem hk)
     rw [List.length_map,List.map_eq_nil_iff] at hr
     rcases hr with ⟨_,rfl⟩ | ⟨b,cap,T,sp,hν,_⟩
     · simp at h1; omega
     · simp only at hν
       simp only [hs,hk,Instr.indexAt,SV.val,hν,bOf,asIntOf,Sem.run_bind,Sem.run_pure,Result.andThen_ok,run_underlying hu,Sem.run_ite,h0,h1,and_self,if_true,run_sizeOf hi0,hz,Addr.add_lit,Nat.zero_add,Nat.add_zero]
   · exact hC.elim
 · rename_i n sz tot k psz ii off kd jj hs
   obtain ⟨e,hu,⟨i0,hi0⟩,hz,_⟩:=shp_arr hs
   obtain ⟨h0,h1⟩:=hC
   simp only [hs,Instr.indexAt,Instr.sureAddr,SV.val,asIntOf,Sem.run_bind,Sem.run_pure,Result.andThen_ok,run_underlying hu,Sem.run_ite,h0,h1,and_self,if_true,run_sizeOf hi0,hz,Addr.add_lit,Nat.add_assoc]
 · rename_i n sz tot a kd jj hs
   obtain ⟨e,hu,⟨i0,hi0⟩,hz,_⟩:=shp_arr hs
   obtain ⟨h0,h1⟩:=hC
   simp only [hs,Instr.indexAt,Instr.sureAddr,SV.val,asIntOf,Sem.run_bind,Sem.run_pure,Result.andThen_ok,run_underlying hu,Sem.run_ite,h0,h1,and_self,if_true,run_sizeOf hi0,hz]
 · exact hC.elim

theorem pickSV_val (ν:Nat→Value) (c:Bool) (s t:SV):(pickSV c s t).val ν=if c then s.val ν else t.val ν:=by
 unfold pickSV
 split
 · cases c <;> rfl
 · cases c <;> rfl

theorem set_vals (ν:Nat→Value) (cs:List SV) (i:Nat) (s:SV):SV.vals ν (cs.set i s)=(SV.vals ν cs).set i (s.val ν):=by
 simp [SV.vals_map,List.map_set]

theorem cells_one {v:Value} (h:v.oneCell'=true):v.cells = #[v]:=by
 cases v <;> first | rfl | cases h

theorem cells_of_one {s:SV} (h:oneS s=true) (ν:Nat→Value) (h1 : ∀ k,(ν k).cells = #[ν k]):(s.val ν).cells=(SV.vals ν (cellsSV s)).toArray:=by
 cases s with
 | v x=>cases x <;> first | (simp [oneS,oneV] at h; done) | rfl
 | own k=>exact h1 k
 | ptr k sz i off=>rfl
 | ea x sz i off=>
   cases x <;> try rfl
   rename_i ad n c
   cases ad <;> rfl
 | agg l=>rfl
 | tup l=>simp [oneS] at h
 | fn f l=>rfl

theorem fold_put (ν:Nat→Value) : ∀ (l cs:List SV) (off j:Nat),
  ((SV.vals ν l).zipIdx j).foldl (fun (acc:Array Value) (p:Value×Nat)=>acc.setIfInBounds (off+p.2) p.1) (SV.vals ν cs).toArray=(SV.vals ν (putAt cs (off+j) l)).toArray
 | [],cs,off,j=>rfl
 | s :: l,cs,off,j=>by
   simp only [putAt,SV.vals,List.zipIdx_cons,List.foldl_cons]
   rw [List.setIfInBounds_toArray,← set_vals,fold_put ν l (cs.set (off+j) s) off (j+1),Nat.add_assoc]

theorem fillSV_sound {l:List (Nat×Nat×Bool)} {ν:Nat→Value} (h1 : ∀ k,(ν k).cells = #[ν k]) (place:Nat→Option (Nat×Nat)) (hp : ∀ i,place i=(l[i]?).map fun p=>(p.1,p.2.1)) :
  ∀ (parts:List (Nat×SV)) (cs out:List SV),fillSV l cs parts=some out→onesP parts=true →
    Instr.fill place (SV.vals ν cs).toArray (parts.map fun p=>(p.1,p.2.val ν))=some (SV.vals ν out).toArray
 | [],cs,out,h,_=>by simp only [fillSV,Option.some.injEq] at h; subst h; rfl
 | (i,s) :: r,cs,out,h,ho=>by
  simp only [onesP,Bool.and_eq_true] at ho
  unfold fillSV at h
  split at h
  · rename_i off n g hi
    split at h
    · rename_i hc
      simp only [List.map_cons,Instr.fill,hp,hi,Option.map_some,cells_of_one ho.1 ν h1]
      have hlen:(SV.vals ν (cellsSV s)).length=n:=by rw [SV.vals_map]; simp [hc.1]
      have hlen2:(SV.vals ν cs).length=cs.length:=by rw [SV.vals_map]; simp
      rw [if_neg (by simp [hlen,hlen2]; omega)]
      have:=fold_put ν (cellsSV s) cs off 0
      simp only [Nat.add_zero] at this
      rw [show ((SV.vals ν (cellsSV s)).toArray.zipIdx.foldl (fun cs x=>match x with | (c,j)=>cs.setIfInBounds (off+j) c) (SV.vals ν cs).toArray)=(SV.vals ν (putAt cs off (cellsSV s))).toArray from by
       rw [← this,← Array.foldl_toList,Array.toList_zipIdx]]
      exact fillSV_sound h1 place hp r _ out h ho.2
    · cases h
  · cases h

theorem buildSV_sound {t:TypeId} {parts:List (Nat×SV)} (h1 : ∀ k,(ν k).cells = #[ν k]) (hC:(buildSV (shp P t) (zeroT P t) parts).2) :
  (Instr.build t (parts.map fun p=>(p.1,p.2.val ν)).toArray).run P w = .ok ((buildSV (shp P t) (zeroT P t) parts).1.val ν) w:=by
 unfold buildSV at hC ⊢
 split at hC
 · rename_i l sz z hs hz
   split at hC
   · rename_i cs hf
     obtain ⟨fs,hu,hl,hi,⟨i0,hi0⟩,_⟩:=shp_struct hs
     unfold zeroT at hz
     rw [hi0] at hz
     simp only [Option.bind_some,Option.map_eq_some_iff] at hz
     obtain ⟨zv,hzv,hzc⟩:=hz
     have hzr:(zeroValue t).run P w = .ok zv w:=by simp [zeroValue,typeInfo,hi0,hzv]
     have hpl:(fs.mapM (fun f=>do pure (f.offset,← sizeOf f.type):Field→Sem (Nat×Nat))).run P w = .ok (fs.map fun f=>(f.offset,szT P f.type)) w:=by
      rw [Array.mapM_eq_mapM_toList]
      have : ∀ (L:List Field),(∀ f ∈ L,∃ i,P.info? f.type=some i)→(L.mapM (fun f=>do pure (f.offset,← sizeOf f.type):Field→Sem (Nat×Nat))).run P w = .ok (L.map fun f=>(f.offset,szT P f.type)) w:=by
       intro L
       induction L with
       | nil=>intro _; rfl
       | cons f L ih=>
         intro h
         obtain ⟨i,hi⟩:=h f List.mem_cons_self
         simp only [List.mapM_cons,Sem.run_bind,run_sizeOf hi,Result.andThen_ok,Sem.run_pure,ih (fun f' h'=>h f' (List.mem_cons_of_mem _ h')),List.map_cons]
      rw [Sem.run_map]
      simp only [ this fs.toList (fun f hf=>(hi f hf).1),Result.andThen_ok]
      congr 1
      apply Array.ext'
      simp
     have hfill:=fillSV_sound (l:=l) h1 (fun i=>(fs.map fun f=>(f.offset,szT P f.type))[i]?) (by
      intro i
      rw [← hl]
      simp only [Array.getElem?_map,List.getElem?_map,Option.map_map,Array.getElem?_toList]
      rfl) parts (z.map .v) cs hf hC
     have hzl:(SV.vals ν (z.map SV.v)).toArray=zv.cells:=by
      rw [SV.vals_map,List.map_map,← hzc]
      apply Array.ext'
      simp only
      conv=>rhs; rw [← List.map_id zv.cells.toList]
      rfl
     rw [hzl] at hfill
     simp only [Instr.build,Sem.run_bind,hzr,Result.andThen_ok,run_underlying hu,hpl,hs,hf]
     simp only [hfill,Sem.run_pure,SV.val]
   · exact hC.elim
 · exact hC.elim

theorem nilSV_sound {s:SV} {x:Operand} (hx:a.eval x=s.val ν) (hC:(nilSV s).2) (o:Oper) (ho:o.op = .nilCheck x):(execOp a.eval o).run P w = .ok (.value ((nilSV s).1.val ν)) w:=by
 unfold nilSV at hC ⊢
 simp only [execOp,ho,hx]
 split at hC
 · rfl
 · rename_i y sz i off
   cases y with
   | slice ad n c=>
     cases ad with
     | some ad=>rfl
     | none=>simp [someV] at hC
   | _=>simp [someV] at hC
 · rfl
 · rfl
 · exact hC.elim

theorem mnmx_sound (mx:Bool) {ν:Nat→Value} : ∀ {l:List SV} {s:SV} (_:(mnmx mx s l).2),((SV.vals ν l).foldlM (if mx then Builtin.max2 else Builtin.min2) (s.val ν)).run P w = .ok ((mnmx mx s l).1.val ν) w
 | [],s,_=>by cases s <;> rfl
 | t :: r,s,h=>by
   unfold mnmx at h ⊢
   split at h
   · rename_i heq; cases heq
   · rename_i k a k' b r' heq
     obtain ⟨rfl,rfl⟩:=heq
     obtain ⟨rfl,h⟩:=h
     have ih:=mnmx_sound (ν:=ν) mx h
     simp only [SV.vals,List.foldlM_cons,Sem.run_bind,SV.val]
     cases mx with
     | true=>
       simp only [if_true,Builtin.max2,Sem.run_pure,Result.andThen_ok,cond_true] at ih ⊢
       rw [← ih]
       simp only [SV.val]
       congr 3
       omega
     | false=>
       simp only [Bool.false_eq_true,if_false,Builtin.min2,Sem.run_pure,Result.andThen_ok,cond_false] at ih ⊢
       rw [← ih]
       simp only [SV.val]
       congr 3
       omega
   · exact h.elim

/-- **EACH QUIET OPERATION DOES WHAT 'pev' SAYS.** -/
theorem pev_sound (hs:Slots N ν σ a) (hh:Heap E ν H M w) (o:Oper) (hg:(pev P H M σ o.op).1=true) (hC:(pev P H M σ o.op).2.2) :
  (execOp a.eval o).run P w = .ok (.value ((pev P H M σ o.op).2.1.val ν)) w:=by
 obtain ⟨dst,op,ty,pos,aft,gd⟩:=o
 simp only at hg hC ⊢
 unfold pev at hg hC ⊢
 split at hC
 · obtain ⟨s,h1,h2,h3⟩:=o1_spec hs hg hC
   simp only [execOp,h1,h3]; rfl
 · obtain ⟨s,h1,h2,h3⟩:=o1_spec hs hg hC
   simp only [execOp,h1,h3]; rfl
 · rename_i c x y
   unfold pickO at hg hC ⊢
   split at hC
   · rename_i g c' ga sa gb sb hc hx hy
     simp only [hc,hx,hy] at hg ⊢
     have e1:a.eval c = .bool c':=hs.opv hc hg
     simp only [execOp,e1,asBool,Sem.run_bind,Sem.run_pure,Result.andThen_ok,pickSV_val]
     cases c' with
     | true=>simp only [if_true,hs.opv hx (hC.1 rfl)]
     | false=>simp only [Bool.false_eq_true,if_false,hs.opv hy (hC.2 rfl)]
   · exact hC.elim
 · rename_i t ps
   unfold buildO at hg hC ⊢
   split at hC
   · rename_i g l hp
     simp only [hp] at hg ⊢
     have e1:=partsO_spec hs hp hg
     have e2:ps.map (fun x=>(x.1,a.eval x.2))=(l.map fun p=>(p.1,p.2.val ν)).toArray:=by
      apply Array.ext'
      rw [← e1]
      simp
     simp only [execOp,Sem.run_bind,Sem.run_pure,Result.andThen_ok]
     rw [show (ps.map fun (x:Nat×Operand)=>match x with | (i,x)=>(i,a.eval x))=ps.map (fun x=>(x.1,a.eval x.2)) from rfl,e2,buildSV_sound (fun k=>cells_one (hh.one k)) hC]
     rfl
   · exact hC.elim
 · rename_i t x
   obtain ⟨s,h1,h2,h3⟩:=o1_spec hs hg hC
   cases hl:lay (shp P t) with
   | none=>
     rw [hl] at h2
     unfold ld at h2
     split at h2
     · unfold ldK at h2
       split at h2
       · exact h2.2.elim
       · exact h2.2.elim
       · exact h2.elim
       · exact h2.2.elim
       · exact h2.elim
     · exact h2.elim
     · exact h2.elim
     · exact h2.elim
   | some p=>
     obtain ⟨n,g⟩:=p
     rw [hl] at h2 h3
     simp only [execOp,h1,Sem.run_bind,ld_sound hh hl h2,Result.andThen_ok,Sem.run_pure,h3]
 · rename_i x
   obtain ⟨s,h1,h2,h3⟩:=o1_spec hs hg hC
   rw [h3]
   exact nilSV_sound h1 h2 ⟨dst,.nilCheck x,ty,pos,aft,gd⟩ rfl
 · obtain ⟨s,s',h1,h1',h2,h3⟩:=o2_spec hs hg hC
   have:=binSV_sound (P:=P) (w:=w) (u:=0) h1 h1' h2
   simp only [execOp]
   rw [Sem.run_bind,this,h3]
   rfl
 · obtain ⟨s,h1,h2,h3⟩:=o1_spec hs hg hC
   simp only [execOp,h1,Sem.run_bind,unSV_sound h2,Result.andThen_ok,Sem.run_pure,h3]
 · obtain ⟨s,h1,h2,h3⟩:=o1_spec hs hg hC
   simp only [execOp,h1,Sem.run_bind,convH_sound hh h2,Result.andThen_ok,Sem.run_pure,h3]
 · obtain ⟨s,t,u,h1,h1',h1'',h2,h3⟩:=o3_spec hs hg hC
   have hx:=sliceSV_sound (H:=H) (ν:=ν) (w:=w) h2 (some (t.val ν)) (some (u.val ν)) (.inl rfl) (.inl rfl)
   simp only [execOp,h1,h1',h1'',Option.map_some,Option.map_none]
   rw [Sem.run_bind,hx,h3]
   rfl
 · obtain ⟨s,t,u,v,h1,h1',h1'',h13,h2,h3⟩:=o4_spec hs hg hC
   have hx:=slice3SV_sound (ν:=ν) (w:=w) h2
   simp only [execOp,h1,h1',h1'',h13,Option.map_some]
   rw [Sem.run_bind,hx,h3]
   rfl
 · obtain ⟨s,t,h1,h1',h2,h3⟩:=o2_spec hs hg hC
   have hx:=sliceSV_sound (H:=H) (ν:=ν) (w:=w) h2 none (some (t.val ν)) (.inr ⟨rfl,rfl⟩) (.inl rfl)
   simp only [execOp,h1,h1',Option.map_some,Option.map_none]
   rw [Sem.run_bind,hx,h3]
   rfl
 · obtain ⟨s,t,h1,h1',h2,h3⟩:=o2_spec hs hg hC
   have hx:=sliceSV_sound (H:=H) (ν:=ν) (w:=w) h2 (some (t.val ν)) none (.inl rfl) (.inr ⟨rfl,rfl⟩)
   simp only [execOp,h1,h1',Option.map_some,Option.map_none]
   rw [Sem.run_bind,hx,h3]
   rfl
 · obtain ⟨s,h1,h2,h3⟩:=o1_spec hs hg hC
   simp only [execOp,h1,Sem.run_bind,fieldAddrSV_sound h2,Result.andThen_ok,Sem.run_pure,h3]
 · obtain ⟨s,h1,h2,h3⟩:=o1_spec hs hg hC
   simp only [execOp,h1,Sem.run_bind,fieldSV_sound h2,Result.andThen_ok,Sem.run_pure,h3]
 · obtain ⟨s,t,h1,h1',h2,h3⟩:=o2_spec hs hg hC
   simp only [execOp,h1,h1',Sem.run_bind,indexAddrSV_sound hh h2,Result.andThen_ok,Sem.run_pure,h3]
 · obtain ⟨s,t,h1,h1',h2,h3⟩:=o2_spec hs hg hC
   simp only [execOp,h1,h1',Sem.run_bind,indexSV_sound h2,Result.andThen_ok,Sem.run_pure,h3]
 · obtain ⟨s,h1,h2,h3⟩:=o1_spec hs hg hC
   rename_i x i
   cases s with
   | tup l=>
     have hlen:(SV.vals ν l).length=l.length:=by rw [SV.vals_map]; simp
     have h2':i < l.length:=h2
     have hi:i < (SV.vals ν l).length:=by omega
     rw [h3]
     show _=Result.ok (Next.value ((getSV l i).val ν)) w
     rw [getSV_val ν l _ h2']
     simp only [execOp,h1,SV.val,Instr.extract,Sem.run_bind]
     rw [List.getElem?_toArray,List.getElem?_eq_getElem hi]
     simp only [List.getD,List.getElem?_eq_getElem hi,Sem.run_pure,Result.andThen_ok,Option.getD_some]
   | _=>exact h2.elim
 · rename_i c
   obtain ⟨callee,args,tys⟩:=c
   simp only at hg hC ⊢
   split at hC
   · rename_i x t hx ht
     simp only [hx,ht] at hg
     obtain ⟨s,h1,h2,h3⟩:=o1_spec hs hg hC
     have ha:args = #[x]:=by apply Array.ext'; simpa using hx
     have hty:tys = #[t]:=by apply Array.ext'; simpa using ht
     subst ha hty
     simp only [execOp,resolve,Sem.run_bind,Sem.run_pure,Result.andThen_ok,invoke,builtin,lenSV_sound hh h2 _ (show Array.map a.eval #[x] = #[s.val ν] by simp [h1]),h3]
   · rename_i x l hx
     split at hC
     · rename_i g s g' l' ho ho'
       simp only [hx,ho,ho',Bool.and_eq_true] at hg ⊢
       have e1:=hs.opv ho hg.1
       have e2:=argsO_spec hs ho' hg.2
       have e3:(args.map a.eval).toList=s.val ν :: SV.vals ν l':=by simp [hx,e1,e2]
       have:=mnmx_sound (P:=P) (w:=w) (ν:=ν) false hC
       simp only [Bool.false_eq_true,if_false] at this
       simp only [execOp,resolve,Sem.run_bind,Sem.run_pure,Result.andThen_ok,invoke,builtin,Builtin.min_,e3,this]
     · exact hC.elim
   · rename_i x l hx
     split at hC
     · rename_i g s g' l' ho ho'
       simp only [hx,ho,ho',Bool.and_eq_true] at hg ⊢
       have e1:=hs.opv ho hg.1
       have e2:=argsO_spec hs ho' hg.2
       have e3:(args.map a.eval).toList=s.val ν :: SV.vals ν l':=by simp [hx,e1,e2]
       have:=mnmx_sound (P:=P) (w:=w) (ν:=ν) true hC
       simp only [if_true] at this
       simp only [execOp,resolve,Sem.run_bind,Sem.run_pure,Result.andThen_ok,invoke,builtin,Builtin.max_,e3,this]
     · exact hC.elim
   · exact hC.elim
 · exact hC.elim

end
end Go.X


