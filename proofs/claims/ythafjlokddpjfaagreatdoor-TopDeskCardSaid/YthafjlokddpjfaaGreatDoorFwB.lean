/- The logic, second part: regions, loops, calls, contracts; what simp is to use. Conditions: none. -/
import Derived.Laws.CopyRow
import Derived.Laws.MakeOwn
import Derived.Deep.AppendSrc
import Derived.Orders
import Derived.Test.YthafjlokddpjfaaGreatDoorFwA
set_option linter.unusedSimpArgs false
set_option linter.unusedVariables false
set_option maxHeartbeats 4000000
set_option maxRecDepth 20000
namespace Go.X
open Go Go.RowKit

abbrev KP:=Sig→HS→Mem→Prop
abbrev QP:=Exit→Sig→HS→Mem→Prop

/-- the guard of an operation -/
def gdOf (ops:List Oper) (σ:Sig):Option (Nat×Bool)→Option Bool
 | none=>some true
 | some (j,want)=>match (ops[j]?).bind (·.dst) with
   | none=>none
   | some d=>match lk σ d with
     | some (g,.v (.bool b))=>some (g && (b == want))
     | some (false,_)=>some false
     | _=>none

def Lift (E:Env) (Q:QP):Exit→Act→World→Prop:=fun e a w=>∃ σ H M,Rep E σ H M a w∧Q e σ H M

/-- One operation that is no quiet one: whatever knowledge it leaves. -/
def OpK (E:Env) (o:Oper) (K:KP) (σ:Sig) (H:HS) (M:Mem):Prop:=
 ∀ a w,Rep E σ H M a w→o.wp E.P a w (fun a' w'=>∃ σ' H' M',Rep E σ' H' M' a' w'∧K σ' H' M') (fun _ _ _=>False)

/-- A call of function f. -/
def CallK (E:Env) (f:FuncId) (args:List SV) (d:Nat) (K:KP) (σ:Sig) (H:HS) (M:Mem):Prop:=
 ∀ ν a w,Slots E.N ν σ a→Heap E ν H M w →
   ((∃ fn,E.P.funcs[f]? = some fn∧(fn.name == "runtime.NumGoroutine")=false∧fn.body.isNone=false) ∧
   Calls E.P f (SV.vals ν args).toArray w (fun e w'=>∃ v,e = .returned v ∧ ∃ σ' H' M',Rep E σ' H' M' (a.put (some d) v) w'∧K σ' H' M')) ∨
   ∃ v w',(callFunc f (SV.vals ν args).toArray).run E.P w = .ok (.value v) w' ∧ ∃ σ' H' M',Rep E σ' H' M' (a.put (some d) v) w'∧K σ' H' M'

def hdel (d:Nat):HS→HS
 | []=>[]
 | (k,p) :: H=>if k / 8=d then hdel d H else (k,p) :: hdel d H

def sigNoKey (d:Nat):Sig→Bool
 | []=>true
 | (_,_,s) :: σ=>s.noKey d && sigNoKey d σ
def noKeyss (d:Nat):List (List SV)→Bool
 | []=>true
 | e :: r=>SV.noKeys d e && noKeyss d r
def poNoKey (d:Nat):PO→Bool
 | .box cs _=>SV.noKeys d cs
 | .row _ _=>true
 | .tab _ es=>noKeyss d es
 | .mp _=>true
theorem noKeyss_vals {d:Nat} {ν ν':Nat→Value} (h : ∀ k,k / 8≠d→ν' k=ν k) : ∀ {es:List (List SV)},noKeyss d es=true→es.map (SV.vals ν')=es.map (SV.vals ν)
 | [],_=>rfl
 | e :: r,hn=>by
   simp only [noKeyss,Bool.and_eq_true] at hn
   rw [List.map_cons,List.map_cons,SV.vals_congr h e hn.1,noKeyss_vals h hn.2]
def hNoKey (d:Nat):HS→Bool
 | []=>true
 | (k,p) :: H=>!(k / 8 == d) && (poNoKey d p && hNoKey d H)

/-- a new box: slot d holds the pointer to private block 8 d -/
def boxK (d:Nat) (s:SV) (K:KP) (σ:Sig) (H:HS) (M:Mem):Prop:=
 ((oneS s=true∧SV.noKeys d (cellsSV s)=true)∧sigNoKey d σ=true∧hNoKey d H=true)∧K ((d,true,.ptr (8 * d) 0 0 0) :: σ) ((8 * d,.box (cellsSV s) none) :: H) M

def hset (k:Nat) (p:PO):HS→HS
 | []=>[]
 | (j,q) :: H=>if j=k then (j,p) :: H else (j,q) :: hset k p H

def layN:Option (Nat×Bool)→Option Nat
 | some (n,_)=>some n
 | none=>none
def one1:SV→Bool
 | .v x=>x.oneCell'
 | .ea x _ _ _=>someV x
 | .agg _=>false
 | .tup _=>false
 | .own _=>true
 | .ptr _ _ _ _=>true
 | .fn _ _=>true
def ones:List SV→Bool
 | []=>true
 | s :: l=>one1 s && ones l
def stBox (s:SV) (off:Nat) (cs:List SV) (L:Option (Nat×Bool)):List SV×Prop:=
 (putAt cs off (cellsSV s),((oneS s=true∧ones (cellsSV s)=true)∧layN L=some (cellsSV s).length)∧off+(cellsSV s).length≤cs.length)

def storeK (d:Option Nat) (L:Option (Nat×Bool)) (p s:SV) (stuck:Prop) (K:KP) (σ:Sig) (H:HS) (M:Mem):Prop:=
 match p with
 | .ptr k sz i off=>match hget H k with
   | some (.box cs t)=>((stBox s off cs L).2∧i=0)∧K (match d with | some d=>(d,true,.v undef) :: σ | none=>σ) (hset k (.box (stBox s off cs L).1 t) H) M
   | _=>stuck
 | _=>stuck

def dOk (N:Nat) (d:Option Nat):Prop:=∀ e,d=some e→e < N
def szOk (P:Program) (t:TypeId):Prop:=∀ n g,lay (shp P t)=some (n,g)→szT P t=n∧n≠0
/-- a quiet operation -/
def qK (E:Env) (op:Op) (g:Bool) (K:KP) (σ:Sig) (H:HS) (M:Mem):Option Nat→Prop
 | some d=>(d < E.N∧(g=true→(pev E.P H M σ op).1=true∧(pev E.P H M σ op).2.2))∧K ((d,g,(pev E.P H M σ op).2.1) :: σ) H M
 | none=>False
/-! ### rows of the call's own: literals, make, append, stores -/
/-- the element of a slice type: its type, cells, bytes, zero cells -/
def slT (P:Program) (t:TypeId):Option (Nat×Nat×Nat×List Value):=
 match P.underlying t with
 | some (.slice e)=>(P.info? e).bind fun i=>i.zero.map fun z=>(e,i.size,i.bytes,z.cells.toList)
 | _=>none
/-- a struct that begins with a pointer to its own type: strings.Builder; its cells are laid by rules of their own -/
def selfB (P:Program) (t:TypeId):Bool:=match P.underlying t with
 | some (.struct fs)=>match fs[0]? with
   | some f=>match P.underlying f.type with
     | some (.pointer u)=>u == t
     | _=>false
   | none=>false
 | _=>false
def zsT (P:Program) (t:TypeId):Option (List Value):=bif selfB P t then none else (P.info? t).bind fun i=>i.zero.map fun z=>z.cells.toList

def memN (j:Nat):List Nat→Bool
 | []=>false
 | k :: l=>if j=k then true else memN j l
def sigDropA (d:Nat):List Nat→Sig→Sig
 | _,[]=>[]
 | D,(j,g,s) :: σ=>bif memN j D then sigDropA d D σ else bif s.noKey d then (j,g,s) :: sigDropA d D σ else sigDropA d (j :: D) σ
def sigDrop (d:Nat) (σ:Sig):Sig:=sigDropA d [] σ
def hdelk (k:Nat):HS→HS
 | []=>[]
 | (j,p) :: H=>if j=k then hdelk k H else (j,p) :: hdelk k H
def hdelk? : Option Nat→HS→HS
 | some k,H=>hdelk k H
 | none,H=>H

def conc1:SV→Bool
 | .v _=>true
 | _=>false
def conc1s:List SV→Bool
 | []=>true
 | s :: l=>conc1 s && conc1s l
def concB:SV→Bool
 | .v _=>true
 | .agg l=>conc1s l
 | _=>false
def concP:List (Nat×SV)→Bool
 | []=>true
 | (_,s) :: l=>concB s && concP l
def cell1:SV→Value
 | .v x=>x
 | _=>undef
def cells1:List SV→List Value
 | []=>[]
 | s :: l=>cell1 s :: cells1 l
def cellsV:SV→List Value
 | .v x=>[x]
 | .agg l=>cells1 l
 | _=>[]
def onesV:List Value→Bool
 | []=>true
 | x :: l=>x.oneCell' && onesV l
def rowP (sz:Nat):Nat→List (Nat×SV)→List (List Value)×Prop
 | _,[]=>([],True)
 | j,(i,s) :: r=>(cellsV s :: (rowP sz (j+1) r).1,((i=j∧(cellsV s).length=sz)∧onesV (cellsV s)=true)∧(rowP sz (j+1) r).2)

def rowK (E:Env) (d sz:Nat) (es:List (List Value)) (K:KP) (σ:Sig) (H:HS) (M:Mem):Prop:=
 hNoKey d (hdel d H)=true∧K ((d,true,.own (8 * d)) :: sigDrop d σ) ((8 * d,.row sz es) :: hdel d H) M

def bsD (E:Env) (d sz n:Nat) (ps:List (Nat×SV)) (st:Prop) (K:KP) (σ:Sig) (H:HS) (M:Mem):Bool→Prop
 | true=>((d < E.N∧ps.length=n∧n * sz≤16777216∧n≤16777216)∧(rowP sz 0 ps).2)∧rowK E d sz (rowP sz 0 ps).1 K σ H M
 | false=>st
def bsC (E:Env) (st:Prop) (K:KP) (σ:Sig) (H:HS) (M:Mem) (n:Nat):Option Nat→Option (Nat×Nat×Nat×List Value)→Option (Bool×List (Nat×SV))→Prop
 | some d,some (_,sz,_,_),some (true,ps)=>bsD E d sz n ps st K σ H M (concP ps)
 | _,_,_=>st

def rowsM (M:Mem) (y:Value) (sz:Nat):List (List Value):=(List.range (lenV y)).map fun i=>(List.range sz).map fun j=>elE M y sz i j
def rowsOk (M:Mem) (y:Value) (sz:Nat):Prop:=(isSl y=true∧0 < sz) ∧ ∀ i,i < lenV y → ∀ j,j < sz→okE M y sz i j∧(elE M y sz i j).oneCell'=true
def encB (b:UInt8):List Value:=[.int .u8 b.toNat]

def rowC (k:Nat):Option PO→Option (Option Nat×Nat×List (List Value))
 | some (.row sz es)=>some (some k,sz,es)
 | _=>none
def rowOf (H:HS) (sz:Nat):SV→Option (Option Nat×Nat×List (List Value))
 | .own k=>rowC k (hget H k)
 | .v (.slice none 0 0)=>some (none,sz,[])
 | _=>none
def srcC (sz:Nat):Option PO→Option (List (List Value)×Prop)
 | some (.row sz' es)=>some (es,sz'=sz)
 | _=>none
def srcOf (H:HS) (M:Mem) (sz:Nat):Shp→SV→Option (List (List Value)×Prop)
 | .slice _ _ _,.own k=>srcC sz (hget H k)
 | .slice _ _ _,.v y=>some (rowsM M y sz,rowsOk M y sz)
 | .str,.v (.string s)=>some ((bl s).map encB,sz=1)
 | _,_=>none
def appD (E:Env) (d sz bt:Nat) (zs:List Value) (st:Prop) (K:KP) (σ:Sig) (H:HS) (M:Mem):Option (Option Nat×Nat×List (List Value))→Option (List (List Value)×Prop)→Prop
 | some (ok,sz',es),some (es',C)=>(((d < E.N∧bt≤4096)∧sz'=sz∧zs.length=sz)∧(es.length+es'.length≤70368744177664∧(es.length+es'.length) * bt≤70368744177664)∧C) ∧
    hNoKey d (hdelk? ok (hdel d H))=true∧K ((d,true,.own (8 * d)) :: sigDrop d σ) ((8 * d,.row sz (es++es')) :: hdelk? ok (hdel d H)) M
 | _,_=>st
def appC (E:Env) (st:Prop) (K:KP) (σ:Sig) (H:HS) (M:Mem) (S:Shp):Option Nat→Option (Nat×Nat×Nat×List Value)→Option (Bool×SV)→Option (Bool×SV)→Prop
 | some d,some (_,sz,bt,zs),some (true,s),some (true,x)=>appD E d sz bt zs st K σ H M (rowOf H sz s) (srcOf H M sz S x)
 | _,_,_,_=>st

def mkC (E:Env) (st:Prop) (K:KP) (σ:Sig) (H:HS) (M:Mem):Option Nat→Option (Nat×Nat×Nat×List Value)→Option (Bool×SV)→Option (Bool×SV)→Prop
 | some d,some (_,sz,bt,zs),some (true,.v (.int _ a)),some (true,.v (.int _ b))=>
    ((d < E.N∧zs.length=sz∧onesV zs=true)∧(0≤a∧a≤b)∧(b≤70368744177664∧bt * b≤281474976710656))∧rowK E d sz (List.replicate a.toNat zs) K σ H M
 | _,_,_,_=>st

def alC (E:Env) (st:Prop) (K:KP) (σ:Sig) (H:HS) (M:Mem):Option Nat→Option (List Value)→Prop
 | some d,some zs=>(d < E.N∧hNoKey d (hdel d H)=true)∧K ((d,true,.ptr (8 * d) 0 0 0) :: sigDrop d σ) ((8 * d,.box (zs.map .v) none) :: hdel d H) M
 | _,_=>st

def putV (e:List Value) (off:Nat) (cs:List Value):List Value:=e.take off++cs++e.drop (off+cs.length)
def stRowE (sz off:Nat) (cs e:List Value):List Value:=bif cs.length == sz then cs else putV e off cs
def stRC (d:Option Nat) (L:Option (Nat×Bool)) (k sz i off:Nat) (cs:List Value) (st:Prop) (K:KP) (σ:Sig) (H:HS) (M:Mem):Option PO→Prop
 | some (.row sz' es)=>(((onesV cs=true∧layN L=some cs.length)∧sz'=sz∧cs.length≠0)∧i < es.length∧off+cs.length≤sz) ∧
    K (match d with | some d=>(d,true,.v undef) :: σ | none=>σ) (hset k (.row sz (es.set i (stRowE sz off cs (es.getD i [])))) H) M
 | _=>st
def stRB (d:Option Nat) (L:Option (Nat×Bool)) (k sz i off:Nat) (s:SV) (st:Prop) (K:KP) (σ:Sig) (H:HS) (M:Mem):Bool→Prop
 | true=>stRC d L k sz i off (cellsV s) st K σ H M (hget H k)
 | false=>st
def stRD (d:Option Nat) (L:Option (Nat×Bool)) (st:Prop) (K:KP) (σ:Sig) (H:HS) (M:Mem):Option (Bool×SV)→Option (Bool×SV)→Prop
 | some (true,.ptr k sz i off),some (true,s)=>stRB d L k sz i off s st K σ H M (concB s)
 | _,_=>st

def OpX (E:Env) (o:Oper) (K:KP) (σ:Sig) (H:HS) (M:Mem):Prop:=
 match o.op with
 | .buildSlice t n ps=>bsC E (OpK E o K σ H M) K σ H M n o.dst (slT E.P t) (partsO σ ps.toList)
 | .makeSlice t a b=>mkC E (OpK E o K σ H M) K σ H M o.dst (slT E.P t) (opv σ a) (opv σ b)
 | .alloc t=>alC E (OpK E o K σ H M) K σ H M o.dst (zsT E.P t)
 | .store t p x=>stRD o.dst (lay (shp E.P t)) (OpK E o K σ H M) K σ H M (opv σ p) (opv σ x)
 | .call ⟨.builtin .append,args,tys⟩=>match args.toList,tys.toList with
   | [s,x],[t,tx]=>appC E (OpK E o K σ H M) K σ H M (shp E.P tx) o.dst (slT E.P t) (opv σ s) (opv σ x)
   | _,_=>OpK E o K σ H M
 | _=>OpK E o K σ H M

/-- a conversion to a slice type makes memory; any other is a value -/
def cvK (S:Shp) (st q:Prop):Prop:=match S with
 | .slice _ _ _=>st
 | _=>q
/-- one operation, at its guard -/
def stepK (E:Env) (o:Oper) (g:Bool) (K:KP) (σ:Sig) (H:HS) (M:Mem):Prop:=
 match o.op with
 | .box t x=>match o.dst,opv σ x with
   | some d,some (g',s)=>(g=true∧g'=true∧d < E.N)∧boxK d s K σ H M
   | _,_=>False
 | .store t p x=>match opv σ p,opv σ x with
   | some (g1,p),some (g2,s)=>(g=true∧g1=true∧g2=true∧dOk E.N o.dst)∧szOk E.P t∧storeK o.dst (lay (shp E.P t)) p s (OpX E o K σ H M) K σ H M
   | _,_=>False
 | .call c=>match c.callee with
   | .builtin b=>match b with
     | .len | .min | .max=>qK E o.op g K σ H M o.dst
     | _=>g=true∧OpX E o K σ H M
   | .value f=>match o.dst,opv σ f,argsO σ c.args.toList with
     | some d,some (g1,.fn f caps),some (g2,l)=>d < E.N∧((g=true→(g1=true∧g2=true)∧CallK E f (l++caps) d K σ H M)∧(g=false→K ((d,true,.v undef) :: σ) H M))
     | _,_,_=>g=true∧OpX E o K σ H M
   | .invoke _ _=>g=true∧OpX E o K σ H M
 | .alloc _ | .buildSlice _ _ _ | .insert _ _ _ _ | .ready _ | .waits _ | .sliceToArrayPointer _ _ | .makeInterface _ _ | .makeFunc _ _ _ | .makeMap _ _ | .makeChan _ _
 | .makeSlice _ _ _ | .lookup _ _ _ _ | .mapUpdate _ _ _ _ | .mapEntry _ _ _ | .entryStore _ _ _ _ | .range _ _ | .next _ _ | .entry _ | .typeAssert _ _ _ _ | .go _ | .defer _ | .panic _
 | .send _ _ | .recv _ _ _ | .select _ _=>g=true∧OpX E o K σ H M
 | .convert _ t _=>cvK (shp E.P t) (g=true∧OpX E o K σ H M) (qK E o.op g K σ H M o.dst)
 | .move _ | .assign _ | .pick _ _ _ | .build _ _ | .load _ _ | .nilCheck _ | .binOp _ _ _ _ _ | .unOp _ _ _ | .slice _ _ _ _ _ | .fieldAddr _ _ _ | .field _ _ _
 | .indexAddr _ _ _ | .index _ _ _ | .extract _ _=>qK E o.op g K σ H M o.dst

def wpR (E:Env) (ops:List Oper) (K:KP):List Oper→Sig→HS→Mem→Prop
 | [],σ,H,M=>K σ H M
 | o :: rest,σ,H,M=>match gdOf ops σ o.guard with
   | none=>False
   | some g=>stepK E o g (wpR E ops K rest) σ H M

def LoopK (E:Env) (live:List Nat) (body:Code) (Q:QP) (σ:Sig) (H:HS) (M:Mem):Prop:=
 ∀ a w,Rep E σ H M a w→(Code.loop body).wp E.P (Lift E Q) a w
def CodeK (E:Env) (c:Code) (Q:QP) (σ:Sig) (H:HS) (M:Mem):Prop:=
 ∀ a w,Rep E σ H M a w→c.wp E.P (Lift E Q) a w
def DrawK (E:Env) (id:Nat) (ops:Array Oper) (K:KP) (σ:Sig) (H:HS) (M:Mem):Prop:=
 ∀ a w,Rep E σ H M a w→(Code.region id ops true).wp E.P (fun e a w=>e = .normal ∧ ∃ σ H M,Rep E σ H M a w∧K σ H M) a w

def wpC (E:Env) (live:List Nat):Code→QP→Sig→HS→Mem→Prop
 | .skip,Q,σ,H,M=>Q .normal σ H M
 | .ret,Q,σ,H,M=>Q .ret σ H M
 | .exit i,Q,σ,H,M=>Q (.exit i) σ H M
 | .region id ops draw,Q,σ,H,M=>bif draw then DrawK E id ops (fun σ H M=>Q .normal (keep live σ) H M) σ H M else wpR E ops.toList (fun σ H M=>Q .normal (keep live σ) H M) ops.toList σ H M
 | .seq a b,Q,σ,H,M=>wpC E live a (fun e σ H M=>match e with | .normal=>wpC E live b Q σ H M | e=>Q e σ H M) σ H M
 | .block i b,Q,σ,H,M=>wpC E live b (fun e σ H M=>match e with | .exit j=>if j=i then Q .normal σ H M else Q (.exit j) σ H M | e=>Q e σ H M) σ H M
 | .cond c t e,Q,σ,H,M=>match opv σ c with
   | some (true,.v (.bool b))=>(b=true→wpC E live t Q σ H M)∧(b=false→wpC E live e Q σ H M)
   | _=>False
 | .loop b,Q,σ,H,M=>LoopK E live b Q σ H M
 | .rangeFunc f p a b,Q,σ,H,M=>CodeK E (.rangeFunc f p a b) Q σ H M
 | .scope b,Q,σ,H,M=>CodeK E (.scope b) Q σ H M
 | .label l,Q,σ,H,M=>CodeK E (.label l) Q σ H M
 | .goto l,Q,σ,H,M=>CodeK E (.goto l) Q σ H M
 | .refuse r,Q,σ,H,M=>False

end Go.X

namespace Go.X
open Go Go.RowKit

section
variable {E:Env} {σ:Sig} {H:HS} {M:Mem} {a:Act} {w:World} {ν:Nat→Value}

theorem gd_spec {ops:List Oper} {gd:Option (Nat×Bool)} {g:Bool} (hs:Slots E.N ν σ a) (h:gdOf ops σ gd=some g) (o:Oper) (ho:o.guard=gd) :
  Region.wanted o (yielded ops.toArray a.tmps)=g:=by
 unfold gdOf at h
 split at h
 · simp only [Option.some.injEq] at h
   subst h
   simp [Region.wanted,ho]
 · rename_i j want
   split at h
   · cases h
   · rename_i d hd
     split at h
     · rename_i g' b hl
       simp only [Option.some.injEq] at h
       subst h
       have:=hs.2.2 d g' _ hl
       simp only [Region.wanted,ho,yielded,List.getElem?_toArray,hd,Option.bind_some,this,SV.val]
       cases g' <;> simp [undef]
     · rename_i s _ hl
       simp only [Option.some.injEq] at h
       subst h
       have:=hs.2.2 d false _ hl
       simp only [Region.wanted,ho,yielded,List.getElem?_toArray,hd,Option.bind_some,this,cond_false]
       simp [undef]
     · cases h

/-! memory steps -/
theorem PO.holds_mono {p:PO} {x:Value} {w':World} (h : ∀ b,b < w.heap.size→w'.heap[b]? = w.heap[b]?) (hp:p.holds ν w x):p.holds ν w' x:=by
 have lt : ∀ {b:Nat} {o:Obj},w.heap[b]? = some o→w'.heap[b]? = some o:=by
  intro b o hb
  rw [h b (Array.getElem?_eq_some_iff.1 hb).1,hb]
 cases p with
 | box cs t=>
   obtain ⟨⟨b,T,e,hb⟩,ht⟩:=hp
   exact ⟨⟨b,T,e,lt hb⟩,ht⟩
 | row sz es=>
   obtain ⟨h1,h2⟩:=hp
   refine ⟨h1,h2.imp id ?_⟩
   rintro ⟨b,cap,T,sp,e,h3,h4,h5,hb⟩
   exact ⟨b,cap,T,sp,e,h3,h4,h5,lt hb⟩
 | tab sz es=>
   obtain ⟨h1,h2⟩:=hp
   refine ⟨h1,h2.imp id ?_⟩
   rintro ⟨b,cap,T,sp,e,h3,h4,h5,hb⟩
   exact ⟨b,cap,T,sp,e,h3,h4,h5,lt hb⟩
 | mp es=>
   obtain ⟨b,m,c,e,hb,he⟩:=hp
   exact ⟨b,m,c,e,lt hb,he⟩

theorem PO.holds_lt {p:PO} {x:Value} {b:Nat} (hp:p.holds ν w x) (hb:blk? x=some b):b < w.heap.size:=by
 cases p with
 | box cs t=>
   obtain ⟨⟨b',T,e,h⟩,_⟩:=hp
   subst e
   simp only [blk?,Option.some.injEq] at hb
   subst hb
   exact (Array.getElem?_eq_some_iff.1 h).1
 | row sz es=>
   obtain ⟨h1,h2⟩:=hp
   rcases h2 with ⟨e,_⟩ | ⟨b',cap,T,sp,e,h3,h4,h5,h⟩
   · subst e; simp [blk?] at hb
   · subst e
     simp only [blk?,Option.some.injEq] at hb
     subst hb
     exact (Array.getElem?_eq_some_iff.1 h).1
 | tab sz es=>
   obtain ⟨h1,h2⟩:=hp
   rcases h2 with ⟨e,_⟩ | ⟨b',cap,T,sp,e,h3,h4,h5,h⟩
   · subst e; simp [blk?] at hb
   · subst e
     simp only [blk?,Option.some.injEq] at hb
     subst hb
     exact (Array.getElem?_eq_some_iff.1 h).1
 | mp es=>
   obtain ⟨b',m,c,e,h,he⟩:=hp
   subst e
   simp only [blk?,Option.some.injEq] at hb
   subst hb
   exact (Array.getElem?_eq_some_iff.1 h).1

theorem Heap.fp_lt (hh:Heap E ν H M w) {b:Nat} (hb:b ∈ fp ν H):b < w.heap.size:=by
 simp only [fp,List.mem_filterMap] at hb
 obtain ⟨p,hp,hb⟩:=hb
 exact PO.holds_lt (hh.holds p hp) hb

theorem Mem.on.lt (h:M.on w) {b:Nat} {o:Obj} (hb:M b=some o):b < w.heap.size:=(Array.getElem?_eq_some_iff.1 (h b o hb)).1

/-- the world may go on: new blocks, draws -/
theorem Heap.grow (hh:Heap E ν H M w) {w':World} (hb:Below w.heap.size w w'):Heap E ν H M w':=
 ⟨fun p hp=>PO.holds_mono hb.block (hh.holds p hp),hh.nodup,hh.apart,fun b o h=>by rw [hb.block b (hh.mem.lt h)]; exact hh.mem b o h,
  hh.below.trans (hb.mono hh.below.size),hh.le0,hh.fresh,hh.one⟩

theorem blk_ne (hh:Heap E ν H M w) {k:Nat} {p:PO} {b:Nat} (hk:hget H k=some p) (hb:blk? (ν k)=some b) : ∀ q ∈ H,q.1≠k→blk? (ν q.1)≠some b:=by
 have hn:=hh.nodup
 clear hh
 induction H with
 | nil=>simp [hget] at hk
 | cons q H ih=>
   intro r hr hne
   simp only [fp,List.filterMap_cons] at hn
   simp only [hget] at hk
   split at hk
   · rename_i e
     rw [← e,hb] at hn
     rcases List.mem_cons.1 hr with rfl | hr
     · exact absurd e.symm hne
     · intro h
       have:b ∈ List.filterMap (fun p=>blk? (ν p.1)) H:=List.mem_filterMap.2 ⟨r,hr,h⟩
       simp only [List.nodup_cons] at hn
       exact hn.1 this
   · rename_i e
     have hn':(fp ν H).Nodup:=by
      split at hn
      · exact hn
      · exact (List.nodup_cons.1 hn).2
     rcases List.mem_cons.1 hr with rfl | hr
     · intro h
       rw [h] at hn
       have hm:b ∈ List.filterMap (fun p=>blk? (ν p.1)) H:=List.mem_filterMap.2 ⟨(k,p),hget_mem hk,hb⟩
       simp only [List.nodup_cons] at hn
       exact hn.1 hm
     · exact ih hk hn' r hr hne

theorem noKey_fp {d:Nat} {ν':Nat→Value} (h : ∀ k,k / 8≠d→ν' k=ν k) (hn:hNoKey d H=true):fp ν' H=fp ν H:=by
 induction H with
 | nil=>rfl
 | cons q H ih=>
   simp only [hNoKey,Bool.and_eq_true,Bool.not_eq_true',beq_eq_false_iff_ne] at hn
   simp only [fp,List.filterMap_cons,h q.1 hn.1]
   have:=ih hn.2.2
   simp only [fp] at this
   rw [this]

theorem PO.holds_congr {d:Nat} {ν':Nat→Value} (h : ∀ k,k / 8≠d→ν' k=ν k) {p:PO} (hn:poNoKey d p=true) {x:Value} (hp:p.holds ν w x):p.holds ν' w x:=by
 cases p with
 | box cs t=>
   obtain ⟨⟨b,T,e,hb⟩,ht⟩:=hp
   exact ⟨⟨b,T,e,by rw [SV.vals_congr h cs hn]; exact hb⟩,ht⟩
 | row sz es=>exact hp
 | tab sz es=>
   rw [PO.tab_row] at hp ⊢
   rw [noKeyss_vals h hn]
   exact hp
 | mp es=>exact hp

theorem hNoKey_mem {d:Nat} (hn:hNoKey d H=true) : ∀ q ∈ H,q.1 / 8≠d∧poNoKey d q.2=true:=by
 induction H with
 | nil=>simp
 | cons q H ih=>
   simp only [hNoKey,Bool.and_eq_true,Bool.not_eq_true',beq_eq_false_iff_ne] at hn
   intro r hr
   rcases List.mem_cons.1 hr with rfl | hr
   · exact ⟨hn.1,hn.2.1⟩
   · exact ih hn.2.2 r hr

theorem sigNoKey_lk {d:Nat} (hn:sigNoKey d σ=true) {k:Nat} {g:Bool} {s:SV} (h:lk σ k=some (g,s)):s.noKey d=true:=by
 induction σ with
 | nil=>simp [lk] at h
 | cons q σ ih=>
   obtain ⟨j,g',s'⟩:=q
   simp only [sigNoKey,Bool.and_eq_true] at hn
   simp only [lk] at h
   split at h
   · simp only [Option.some.injEq,Prod.mk.injEq] at h; obtain ⟨rfl,rfl⟩:=h; exact hn.1
   · exact ih hn.2 h

theorem Slots.congr {d:Nat} {ν':Nat→Value} (h : ∀ k,k / 8≠d→ν' k=ν k) {N:Nat} (hn:sigNoKey d σ=true) (hs:Slots N ν σ a):Slots N ν' σ a:=
 ⟨hs.1,hs.2.1,fun k g s hk=>by rw [SV.val_congr h s (sigNoKey_lk hn hk)]; exact hs.2.2 k g s hk⟩

/-- a new private block, whatever it is, under the keys of slot d -/
theorem Heap.new (hh:Heap E ν H M w) {d:Nat} (hn:hNoKey d H=true) {ν':Nat→Value} (hν : ∀ k,k / 8≠d→ν' k=ν k) (h1 : ∀ k,(ν' k).oneCell'=true) {w':World} (hb:Below w.heap.size w w') {p:PO}
  (hk:(8 * d) / 8=d) (hp:p.holds ν' w' (ν' (8 * d))) (hbk : ∀ b,blk? (ν' (8 * d))=some b→w.heap.size≤b):Heap E ν' ((8 * d,p) :: H) M w':=by
 have hw:=hh.grow hb
 have hfp:=noKey_fp hν hn
 refine ⟨fun q hq=>?_,?_,fun b hb'=>?_,hw.mem,hw.below,hw.le0,hw.fresh,h1⟩
 · rcases List.mem_cons.1 hq with rfl | hq
   · exact hp
   · obtain ⟨h2,h3⟩:=hNoKey_mem hn q hq
     rw [hν q.1 h2]
     exact PO.holds_congr hν h3 (hw.holds q hq)
 · show (List.filterMap _ _).Nodup
   rw [List.filterMap_cons]
   have hfp':List.filterMap (fun p=>blk? (ν' p.1)) H=fp ν H:=hfp
   rw [hfp']
   split
   · exact hh.nodup
   · rename_i b hb'
     exact List.nodup_cons.2 ⟨fun hm=>by have:=hh.fp_lt hm; have:=hbk b hb'; omega,hh.nodup⟩
 · have hb2:b ∈ List.filterMap (fun p=>blk? (ν' p.1)) ((8 * d,p) :: H):=hb'
   rw [List.filterMap_cons] at hb2
   have hfp':List.filterMap (fun p=>blk? (ν' p.1)) H=fp ν H:=hfp
   rw [hfp'] at hb2
   split at hb2
   · exact hh.apart b hb2
   · rename_i b' hb'
     rcases List.mem_cons.1 hb2 with rfl | hb2
     · refine ⟨?_,Nat.le_trans hh.below.size (hbk _ hb')⟩
       cases hM:M b with
       | none=>rfl
       | some o=>have:=hh.mem.lt hM; have:=hbk _ hb'; omega
     · exact hh.apart b hb2

theorem below_alloc (w:World) (o:Obj):Below w.heap.size w (w.alloc o):=(Below.refl _ _).alloc (Nat.le_refl _) o

theorem heap_alloc_at (w:World) (o:Obj):(w.alloc o).heap[w.heap.size]? = some o:=by
 show (w.heap.push o)[w.heap.size]? = _
 simp

/-! storing into a private box -/
theorem setRow_other (w:World) (g:Nat) (cs:Array Value) {b:Nat} (h:b≠g):(w.setRow g cs).heap[b]? = w.heap[b]?:=by
 simp only [World.setRow,Array.getElem?_modify]
 rw [if_neg (fun e=>h e.symm)]

theorem setRow_at (w:World) (g:Nat) (cs old:Array Value) (T:TypeId) (fr:Nat×Nat) (h:w.heap[g]? = some (.cells old T fr)):(w.setRow g cs).heap[g]? = some (.cells cs T fr):=by
 simp [World.setRow,Array.getElem?_modify,h]

theorem putAt_take : ∀ (l cs:List SV) (off:Nat),off+l.length≤cs.length→putAt cs off l=cs.take off++l++cs.drop (off+l.length)
 | [],cs,off,_=>by simp [putAt]
 | s :: l,cs,off,h=>by
   simp only [putAt]
   rw [putAt_take l (cs.set off s) (off+1) (by simp at h ⊢; omega)]
   simp only [List.length_cons] at h
   apply List.ext_getElem?
   intro j
   simp only [List.append_assoc,List.getElem?_append,List.length_take,List.length_set,List.getElem?_take,List.getElem?_drop,List.getElem?_set,List.length_cons,List.getElem?_cons,List.length_append]
   by_cases h1:j < off
   · have:j < min (off+1) cs.length:=by omega
     have h2:j < min off cs.length:=by omega
     simp [this,h2,h1]
     rw [if_pos (by omega),if_neg (by omega)]
   · by_cases h2:j=off
     · subst h2
       have:j < min (j+1) cs.length:=by omega
       have h3 : ¬ j < min j cs.length:=by omega
       have h4:j < cs.length:=by omega
       have h5:j - min j cs.length=0:=by omega
       simp [this,h3,h4,h5]
     · have h3 : ¬ j < min (off+1) cs.length:=by omega
       have h4 : ¬ j < min off cs.length:=by omega
       have h5:j - min off cs.length≠0:=by omega
       have h6:j - min (off+1) cs.length=j - min off cs.length - 1:=by omega
       simp only [h3,h4,if_false,h6,h5]
       have h7:(j - min off cs.length < l.length+1)↔(j - min off cs.length - 1 < l.length):=by omega
       simp only [h7]
       split
       · rfl
       · have h8:off≠off+1+l.length+(j - min off cs.length - 1 - l.length):=by omega
         simp [h8]
         congr 1
         omega

theorem ones_mem {l:List SV} (h:ones l=true) (h1 : ∀ k,(ν k).oneCell'=true) : ∀ v ∈ SV.vals ν l,v.oneCell'=true:=by
 induction l with
 | nil=>simp [SV.vals]
 | cons s l ih=>
   simp only [ones,Bool.and_eq_true] at h
   intro v hv
   simp only [SV.vals,List.mem_cons] at hv
   rcases hv with rfl | hv
   · cases s with
     | v x=>exact h.1
     | own k=>exact h1 k
     | ptr k sz i off=>rfl
     | ea x sz i off=>
       cases x with
       | slice ad n c=>
         cases ad with
         | some ad=>rfl
         | none=>simp [one1,someV] at h
       | _=>simp [one1,someV] at h
     | agg l=>simp [one1] at h
     | tup l=>simp [one1] at h
     | fn f l=>rfl
   · exact ih h.2 v hv

theorem hset_mem {k:Nat} {p:PO} : ∀ {H:HS} {q:Nat×PO},q ∈ hset k p H→q=(k,p)∨q ∈ H
 | [],q,h=>by simp [hset] at h
 | (j,r) :: H,q,h=>by
  simp only [hset] at h
  split at h
  · rename_i e
    rcases List.mem_cons.1 h with rfl | h
    · left; rw [e]
    · exact .inr (List.mem_cons_of_mem _ h)
  · rcases List.mem_cons.1 h with rfl | h
    · exact .inr List.mem_cons_self
    · exact (hset_mem h).imp id (List.mem_cons_of_mem _)

theorem hset_fp (ν:Nat→Value) (k:Nat) (p:PO) : ∀ H:HS,fp ν (hset k p H)=fp ν H
 | []=>rfl
 | (j,r) :: H=>by
  simp only [hset]
  split
  · rfl
  · have:=hset_fp ν k p H
    simp only [fp,List.filterMap_cons] at this ⊢
    rw [this]

/-- members of hset other than the set one have another key, where the blocks are apart -/
theorem hset_mem_ne {k:Nat} {p old:PO} {b:Nat} (hh:Heap E ν H M w) (hk:hget H k=some old) (hb:blk? (ν k)=some b) {q:Nat×PO} (hq:q ∈ hset k p H):q=(k,p)∨(q ∈ H∧blk? (ν q.1)≠some b):=by
 have hn:=hh.nodup
 have hm:=hh.holds
 clear hh
 induction H with
 | nil=>simp [hget] at hk
 | cons r H ih=>
   obtain ⟨j,r⟩:=r
   simp only [hget] at hk
   simp only [hset] at hq
   simp only [fp,List.filterMap_cons] at hn
   split at hk
   · rename_i e
     subst e
     rw [if_pos rfl] at hq
     rw [hb] at hn
     simp only [List.nodup_cons] at hn
     rcases List.mem_cons.1 hq with rfl | hq
     · exact .inl rfl
     · exact .inr ⟨List.mem_cons_of_mem _ hq,fun h=>hn.1 (List.mem_filterMap.2 ⟨q,hq,h⟩)⟩
   · rename_i e
     rw [if_neg (fun h=>e h.symm)] at hq
     have hn':(fp ν H).Nodup:=by
      split at hn
      · exact hn
      · exact (List.nodup_cons.1 hn).2
     rcases List.mem_cons.1 hq with rfl | hq
     · refine .inr ⟨List.mem_cons_self,fun h=>?_⟩
       simp only at h
       rw [h] at hn
       simp only [List.nodup_cons] at hn
       exact hn.1 (List.mem_filterMap.2 ⟨(k,old),hget_mem hk,hb⟩)
     · exact (ih hk hq hn' (fun p hp=>hm p (List.mem_cons_of_mem _ hp))).imp id (fun h=>⟨List.mem_cons_of_mem _ h.1,h.2⟩)

/-- the content of a private block is another one -/
theorem Heap.upd (hh:Heap E ν H M w) {k b:Nat} {old p:PO} (hk:hget H k=some old) (hb:blk? (ν k)=some b) {w':World} (hw : ∀ j,j≠b→w'.heap[j]? = w.heap[j]?) (hz:w'.heap.size=w.heap.size)
  (ho:w'.os=w.os∧w'.tape=w.tape∧w'.output=w.output) (hp:p.holds ν w' (ν k)):Heap E ν (hset k p H) M w':=by
 have hbm:b ∈ fp ν H:=List.mem_filterMap.2 ⟨(k,old),hget_mem hk,hb⟩
 obtain ⟨hM,hB⟩:=hh.apart b hbm
 refine ⟨fun q hq=>?_,by rw [hset_fp]; exact hh.nodup,fun c hc=>hh.apart c (by rw [hset_fp] at hc; exact hc),fun c o hc=>?_,?_,hh.le0,hh.fresh,hh.one⟩
 · rcases hset_mem_ne hh hk hb hq with rfl | ⟨hq,hne⟩
   · exact hp
   · have h0:=hh.holds q hq
     obtain ⟨j,po⟩:=q
     cases po with
     | box cs t=>
       obtain ⟨⟨b',T,e,h⟩,ht⟩:=h0
       refine ⟨⟨b',T,e,?_⟩,ht⟩
       simp only at e hne
       rw [hw b' (fun e'=>hne (by rw [e,e']; rfl))]
       exact h
     | row sz es=>
       obtain ⟨h1,h2⟩:=h0
       refine ⟨h1,h2.imp id ?_⟩
       rintro ⟨b',cap,T,sp,e,h3,h4,h5,h⟩
       refine ⟨b',cap,T,sp,e,h3,h4,h5,?_⟩
       simp only at e hne
       rw [hw b' (fun e'=>hne (by rw [e,e']; rfl))]
       exact h
     | tab sz es=>
       obtain ⟨h1,h2⟩:=h0
       refine ⟨h1,h2.imp id ?_⟩
       rintro ⟨b',cap,T,sp,e,h3,h4,h5,h⟩
       refine ⟨b',cap,T,sp,e,h3,h4,h5,?_⟩
       simp only at e hne
       rw [hw b' (fun e'=>hne (by rw [e,e']; rfl))]
       exact h
     | mp es=>
       obtain ⟨b',m,c,e,h,he⟩:=h0
       refine ⟨b',m,c,e,?_,he⟩
       simp only at e hne
       rw [hw b' (fun e'=>hne (by rw [e,e']; rfl))]
       exact h
 · rw [hw c (fun e=>by rw [e,hM] at hc; cases hc)]
   exact hh.mem c o hc
 · exact ⟨ho.1.trans hh.below.os,ho.2.1.trans hh.below.tape,ho.2.2.trans hh.below.output,by rw [hz]; exact hh.below.size,fun j hj=>by rw [hw j (by omega)]; exact hh.below.block j hj⟩

end
end Go.X

namespace Go.X
open Go Go.RowKit

section
variable {E:Env} {σ:Sig} {H:HS} {M:Mem} {a:Act} {w:World} {ν:Nat→Value}

theorem wp_weaken {P:Program} {o:Oper} {a:Act} {w:World} {K K':Act→World→Prop} {Q Q':Exit→Act→World→Prop} (h : ∀ a w,K a w→K' a w) (hq : ∀ e a w,Q e a w→Q' e a w)
  (hh:o.wp P a w K Q):o.wp P a w K' Q':=by
 have h2:o.wp P a w K' Q:=Oper.wp_mono h hh
 clear hh h
 unfold Oper.wp at *
 generalize (execOp a.eval o).run P w=r at *
 cases r with
 | ok n w'=>
   cases n <;> simp only [Oper.upon] at h2 ⊢ <;>
    first
     | exact h2
     | exact Calls.mono h2 (fun e w'' he=>by cases e <;> first | exact he | exact hq _ _ _ he | exact he.imp fun a h=>h.imp fun w h=>hq _ _ _ h)
 | halt x w'=>cases x <;> simp only [Oper.upon] at h2 ⊢ <;> first | exact hq _ _ _ h2 | exact h2

theorem boxK_sound {d:Nat} {s:SV} {K:KP} (hs:Slots E.N ν σ a) (hh:Heap E ν H M w) (hd:d < E.N) (h:boxK d s K σ H M) (t:TypeId) :
  ∃ w',(Instr.box t (s.val ν)).run E.P w = .ok (.pointer (some ⟨w.heap.size,0,none⟩)) w' ∧ ∃ σ' H' M',Rep E σ' H' M' (a.put (some d) (.pointer (some ⟨w.heap.size,0,none⟩))) w'∧K σ' H' M':=by
 obtain ⟨⟨⟨h1,h1'⟩,h2,h3⟩,h4⟩:=h
 have hone : ∀ k,(ν k).cells = #[ν k]:=fun k=>cells_one (hh.one k)
 have hcells:=cells_of_one h1 ν hone
 refine ⟨w.alloc (.cells (SV.vals ν (cellsSV s)).toArray t),?_,_,_,_,?_,h4⟩
 · simp only [Instr.box,newVar,newRow,hcells,Sem.run_bind,run_newObj,Result.andThen_ok,Sem.run_pure]; rfl
 · let ν':Nat→Value:=fun k=>if k / 8=d then .pointer (some ⟨w.heap.size,0,none⟩) else ν k
   have hν : ∀ k,k / 8≠d→ν' k=ν k:=fun k hk=>by simp [ν',hk]
   have hk8:(8 * d) / 8=d:=by omega
   have hν8:ν' (8 * d) = .pointer (some ⟨w.heap.size,0,none⟩):=by simp [ν',hk8]
   refine ⟨ν',?_,?_⟩
   · refine (hs.congr hν h2).put hd ?_
     simp [SV.val,hν8,bOf]
   · refine hh.new h3 hν (fun k=>?_) (below_alloc w _) hk8 ?_ ?_
     · by_cases hk:k / 8=d
       · simp [ν',hk,Value.oneCell']
       · simp only [ν',hk,if_false]; exact hh.one k
     · refine ⟨⟨w.heap.size,t,hν8,?_⟩,fun _ h=>by cases h⟩
       rw [heap_alloc_at,SV.vals_congr hν _ h1']
     · intro b hb
       rw [hν8] at hb
       simp only [blk?,Option.some.injEq] at hb
       omega

theorem run_storeVar_box {P:Program} {t b off:Nat} {v:Value} {cur:Array Value} {T:TypeId} (hi : ∃ i,P.info? t=some i) (hz:szT P t=v.cells.size) (hb:w.heap[b]? = some (.cells cur T (0,0)))
  (ho:off+v.cells.size≤cur.size) (h1 : ∀ u ∈ v.cells.toList,u.oneCell'=true) :
  (storeVar t ⟨b,off,none⟩ v).run P w = .ok () (w.setRow b (cur.toList.take off++v.cells.toList++cur.toList.drop (off+v.cells.size)).toArray):=by
 obtain ⟨i,hi⟩:=hi
 have:=run_storeCells_at P b off T v.cells.toList 0 cur w hb (by simpa using ho) h1
 simp only [Nat.add_zero,Array.length_toList] at this
 simp only [storeVar,Sem.run_bind,run_sizeOf hi,Result.andThen_ok,hz,ne_eq,not_true_eq_false,if_false,Sem.run_ite,this]

theorem storeK_sound {d:Option Nat} {t:TypeId} {p s:SV} {stuck:Prop} {K:KP} {x:Operand} {y:Operand} {o:Oper} (ho:o.op = .store t x y) (hdst:o.dst=d) (hs:Slots E.N ν σ a) (hh:Heap E ν H M w) (hx:a.eval x=p.val ν) (hy:a.eval y=s.val ν)
  (hd : ∀ e,d=some e→e < E.N) (hst:stuck→OpK E o K σ H M) (h:storeK d (lay (shp E.P t)) p s stuck K σ H M) (hi:(∃ n g,lay (shp E.P t)=some (n,g)) → ∃ i,E.P.info? t=some i ∧ ∀ n g,lay (shp E.P t)=some (n,g)→szT E.P t=n) :
  o.wp E.P a w (fun a' w'=>∃ σ' H' M',Rep E σ' H' M' a' w'∧K σ' H' M') (fun _ _ _=>False):=by
 unfold storeK at h
 split at h
 · rename_i k sz i off
   split at h
   · rename_i cs tt hk
     obtain ⟨⟨⟨⟨⟨h1,h1'⟩,hL⟩,h2⟩,rfl⟩,hK⟩:=h
     obtain ⟨⟨b,T,hν,hb⟩,htie⟩:=hh.holds _ (hget_mem hk)
     simp only at hν
     have hone : ∀ k,(ν k).cells = #[ν k]:=fun k=>cells_one (hh.one k)
     have hcells:=cells_of_one h1 ν hone
     have hlenv:(SV.vals ν cs).length=cs.length:=by rw [SV.vals_map]; simp
     have hlens:(SV.vals ν (cellsSV s)).length=(cellsSV s).length:=by rw [SV.vals_map]; simp
     obtain ⟨n,g,hl,hn⟩ : ∃ n g,lay (shp E.P t)=some (n,g)∧(cellsSV s).length=n:=by
      cases hl:lay (shp E.P t) with
      | none=>rw [hl] at hL; cases hL
      | some q=>obtain ⟨n,g⟩:=q; rw [hl] at hL; simp only [layN,Option.some.injEq] at hL; exact ⟨n,g,rfl,hL.symm⟩
     obtain ⟨i0,hi0,hsz⟩:=hi ⟨n,g,hl⟩
     have hrun:=run_storeVar_box (w:=w) (v:=s.val ν) (off:=off) ⟨i0,hi0⟩ (by rw [hsz n g hl,hcells]; simp [hlens,hn]) hb (by rw [hcells]; simp only [List.size_toArray,hlenv,hlens]; omega) (by rw [hcells]; exact ones_mem h1' hh.one)
     rw [hcells] at hrun
     simp only [List.size_toArray,hlens] at hrun
     have hval:(SV.ptr k sz 0 off).val ν = .pointer (some ⟨b,off,none⟩):=by simp [SV.val,hν,bOf]
     have hw':(execOp a.eval o).run E.P w = .ok .skip (w.setRow b (SV.vals ν (putAt cs off (cellsSV s))).toArray):=by
      rw [putAt_take _ _ _ h2]
      simp only [execOp,ho,hx,hy,hval,Instr.storeAt,Instr.sureAddr,Sem.run_bind,Sem.run_pure,Result.andThen_ok,hrun]
      congr 3
      simp [SV.vals_map,List.map_take,List.map_drop]
     unfold Oper.wp
     rw [hw']
     simp only [Oper.upon]
     refine ⟨_,_,_,⟨ν,?_,hh.upd hk (b:=b) (by rw [hν]; rfl) (fun j hj=>setRow_other w b _ hj) (by simp [World.setRow]) ⟨rfl,rfl,rfl⟩ (p:=.box (stBox s off cs (lay (shp E.P t))).1 tt) ⟨⟨b,T,hν,setRow_at w b _ _ T _ hb⟩,htie⟩⟩,hK⟩
     rw [hdst]
     cases d with
     | none=>exact hs
     | some d=>exact hs.put (hd d rfl) rfl
   · exact hst h a w ⟨ν,hs,hh⟩
 · exact hst h a w ⟨ν,hs,hh⟩

theorem lay_info {P:Program} {t:TypeId} (hx : ∀ n g,lay (shp P t)=some (n,g)→szT P t=n∧n≠0) (h : ∃ n g,lay (shp P t)=some (n,g)) : ∃ i,P.info? t=some i ∧ ∀ n g,lay (shp P t)=some (n,g)→szT P t=n:=by
 obtain ⟨n,g,hl⟩:=h
 obtain ⟨h1,h2⟩:=hx n g hl
 cases hi:P.info? t with
 | some i=>exact ⟨i,rfl,fun n g h=>(hx n g h).1⟩
 | none=>simp [szT,hi] at h1; omega

/-! rows: soundness -/
section
variable {o:Oper} {K:KP}
theorem sigDropA_lk {d:Nat} : ∀ {σ:Sig} {D:List Nat} {k:Nat} {p:Bool×SV},lk (sigDropA d D σ) k=some p→memN k D=false∧lk σ k=some p∧p.2.noKey d=true
 | [],D,k,p,h=>by simp [sigDropA,lk] at h
 | (j,g,s) :: σ,D,k,p,h=>by
  simp only [sigDropA] at h
  cases hm:memN j D with
  | true=>
    rw [hm] at h
    simp only [cond_true] at h
    obtain ⟨h1,h2,h3⟩:=sigDropA_lk h
    refine ⟨h1,?_,h3⟩
    simp only [lk]
    rw [if_neg (fun e=>by rw [e,hm] at h1; cases h1)]
    exact h2
  | false=>
    rw [hm] at h
    simp only [cond_false] at h
    cases hn:s.noKey d with
    | true=>
      rw [hn] at h
      simp only [cond_true,lk] at h
      simp only [lk]
      split at h
      · rename_i e
        rw [if_pos e]
        simp only [Option.some.injEq] at h
        subst h e
        exact ⟨hm,rfl,hn⟩
      · rename_i e
        rw [if_neg e]
        exact sigDropA_lk h
    | false=>
      rw [hn] at h
      simp only [cond_false] at h
      obtain ⟨h1,h2,h3⟩:=sigDropA_lk h
      simp only [memN] at h1
      split at h1
      · cases h1
      · rename_i e
        refine ⟨h1,?_,h3⟩
        simp only [lk]
        rw [if_neg e]
        exact h2

theorem Slots.drop {N:Nat} {d:Nat} {ν':Nat→Value} (hs:Slots N ν σ a) (hν : ∀ k,k / 8≠d→ν' k=ν k):Slots N ν' (sigDrop d σ) a:=
 ⟨hs.1,hs.2.1,fun k g s hk=>by
  obtain ⟨_,h2,h3⟩:=sigDropA_lk hk
  rw [SV.val_congr hν s h3]
  exact hs.2.2 k g s h2⟩

theorem hdel_sub (d:Nat) : ∀ H:HS,(hdel d H).Sublist H
 | []=>List.Sublist.refl _
 | (k,p) :: H=>by
  simp only [hdel]
  split
  · exact (hdel_sub d H).cons _
  · exact (hdel_sub d H).cons_cons _
theorem hdelk_sub (k:Nat) : ∀ H:HS,(hdelk k H).Sublist H
 | []=>List.Sublist.refl _
 | (j,p) :: H=>by
  simp only [hdelk]
  split
  · exact (hdelk_sub k H).cons _
  · exact (hdelk_sub k H).cons_cons _
theorem hdelk?_sub (k:Option Nat) (H:HS):(hdelk? k H).Sublist H:=by
 cases k with
 | none=>exact List.Sublist.refl _
 | some k=>exact hdelk_sub k H
theorem hdelk_ne (k:Nat) : ∀ (H:HS) (q:Nat×PO),q ∈ hdelk k H→q.1≠k
 | [],q,h=>by simp [hdelk] at h
 | (j,p) :: H,q,h=>by
  simp only [hdelk] at h
  split at h
  · exact hdelk_ne k H q h
  · rename_i e
    rcases List.mem_cons.1 h with rfl | h
    · exact e
    · exact hdelk_ne k H q h

theorem Heap.sublist (hh:Heap E ν H M w) {H':HS} (h:H'.Sublist H):Heap E ν H' M w:=
 ⟨fun p hp=>hh.holds p (h.subset hp),hh.nodup.sublist (h.filterMap _),fun b hb=>hh.apart b ((h.filterMap _).subset hb),hh.mem,hh.below,hh.le0,hh.fresh,hh.one⟩

/-- a new private row or box under slot d -/
theorem Rep.fresh (hs:Slots E.N ν σ a) (hh:Heap E ν H M w) {d:Nat} (hd:d < E.N) {H':HS} (hsub:H'.Sublist H) (hn:hNoKey d H'=true) {w':World} (hb:Below w.heap.size w w') {v:Value} (h1:v.oneCell'=true) {p:PO} {s:SV}
  (hp : ∀ ν',(∀ k,k / 8≠d→ν' k=ν k)→p.holds ν' w' v) (hbk : ∀ b,blk? v=some b→w.heap.size≤b) (hv : ∀ ν':Nat→Value,ν' (8 * d)=v→s.val ν'=v) :
  Rep E ((d,true,s) :: sigDrop d σ) ((8 * d,p) :: H') M (a.put (some d) v) w':=by
 let ν':Nat→Value:=fun k=>if k / 8=d then v else ν k
 have hν : ∀ k,k / 8≠d→ν' k=ν k:=fun k hk=>by simp [ν',hk]
 have hk8:(8 * d) / 8=d:=by omega
 have hν8:ν' (8 * d)=v:=by simp [ν',hk8]
 refine ⟨ν',(hs.drop hν).put hd (by rw [cond_true,hv ν' hν8]),(hh.sublist hsub).new hn hν (fun k=>?_) hb hk8 (by rw [hν8]; exact hp ν' hν) (fun b hb=>by rw [hν8] at hb; exact hbk b hb)⟩
 by_cases hk:k / 8=d
 · simp [ν',hk,h1]
 · simp only [ν',hk,if_false]; exact hh.one k

theorem slT_spec {P:Program} {t e sz bt:Nat} {zs:List Value} (h:slT P t=some (e,sz,bt,zs)) :
  ∃ i z,P.underlying t=some (.slice e)∧P.info? e=some i∧i.zero=some z∧i.size=sz∧i.bytes=bt∧z.cells.toList=zs:=by
 unfold slT at h
 split at h
 · rename_i e' hu
   cases hi:P.info? e' with
   | none=>rw [hi] at h; cases h
   | some i=>
     rw [hi] at h
     simp only [Option.bind_some,Option.map_eq_some_iff,Prod.mk.injEq] at h
     obtain ⟨z,hz,rfl,rfl,rfl,rfl⟩:=h
     exact ⟨i,z,hu,hi,hz,rfl,rfl,rfl⟩
 · cases h

theorem cells1_vals (ν:Nat→Value) : ∀ l:List SV,conc1s l=true→SV.vals ν l=cells1 l
 | [],_=>rfl
 | s :: l,h=>by
   simp only [conc1s,Bool.and_eq_true] at h
   simp only [SV.vals,cells1,cells1_vals ν l h.2]
   cases s <;> first | rfl | (simp [conc1] at h)
theorem onesV_mem {l:List Value} (h:onesV l=true) : ∀ c ∈ l,c.oneCell'=true:=by
 induction l with
 | nil=>simp
 | cons x l ih=>
   simp only [onesV,Bool.and_eq_true] at h
   intro c hc
   rcases List.mem_cons.1 hc with rfl | hc
   · exact h.1
   · exact ih h.2 c hc
theorem concB_cells (ν:Nat→Value) {s:SV} (h:concB s=true) (h1:onesV (cellsV s)=true):(s.val ν).cells.toList=cellsV s:=by
 cases s with
 | v x=>
   simp only [cellsV,onesV,Bool.and_true] at h1
   simp only [SV.val,cellsV,cells_one h1]
 | agg l=>
   simp only [concB] at h
   simp only [SV.val,cellsV,Value.cells,cells1_vals ν l h]
 | _=>simp [concB] at h

theorem fillRow {sz:Nat} : ∀ (ps:List (Nat×Value)) (es:List (List Value)) (j:Nat) (pre tail:List Value),ps.map (fun p=>p.2.cells.toList)=es→(∀ i (p:Nat×Value),ps[i]? = some p→p.1=j+i)→(∀ e ∈ es,e.length=sz) →
  pre.length=j * sz→tail.length=ps.length * sz→Instr.fill (fun i=>some (i * sz,sz)) (pre++tail).toArray ps=some (pre++es.flatten).toArray
 | [],es,j,pre,tail,he,_,_,_,ht=>by
   simp only [List.map_nil] at he
   subst he
   simp only [List.length_nil,Nat.zero_mul,List.length_eq_zero_iff] at ht
   subst ht
   simp [Instr.fill]
 | (i,v) :: ps,es,j,pre,tail,he,hi,hl,hp,ht=>by
  have h0:=hi 0 (i,v) rfl
  simp only [Nat.add_zero] at h0
  subst h0
  cases es with
  | nil=>simp at he
  | cons e es=>
    simp only [List.map_cons,List.cons.injEq] at he
    obtain ⟨he1,he2⟩:=he
    have hle:e.length=sz:=hl e List.mem_cons_self
    have hvs:v.cells.size=sz:=by rw [← hle,← he1]; simp
    have ht':tail.length=sz+ps.length * sz:=by rw [ht,List.length_cons,Nat.add_mul]; omega
    unfold Instr.fill
    simp only [hvs]
    rw [if_neg (by simp; omega)]
    have key:(v.cells.zipIdx.foldl (fun cs (x:Value×Nat)=>cs.setIfInBounds (i * sz+x.2) x.1) (pre++tail).toArray)=((pre++e)++tail.drop sz).toArray:=by
     have h1:=fold_put (fun _=>Value.bool false) (e.map .v) ((pre++tail).map .v) (i * sz) 0
     have h2 : ∀ l:List Value,SV.vals (fun _=>Value.bool false) (l.map .v)=l:=fun l=>by
      rw [SV.vals_map,List.map_map]
      conv=>rhs; rw [← List.map_id l]
      rfl
     rw [h2,h2] at h1
     rw [putAt_take _ _ _ (by simp; omega)] at h1
     rw [← Array.foldl_toList,Array.toList_zipIdx,he1]
     refine h1.trans ?_
     congr 1
     simp only [Nat.add_zero,List.length_map,← List.map_take,← List.map_drop,← List.map_append,h2]
     rw [← hp,hle,List.take_left]
     congr 1
     rw [List.drop_append]
     simp
    show Instr.fill _ (v.cells.zipIdx.foldl (fun cs (x:Value×Nat)=>cs.setIfInBounds (i * sz+x.2) x.1) (pre++tail).toArray) ps=_
    rw [key]
    have:=fillRow ps es (i+1) (pre++e) (tail.drop sz) he2 (fun k p hk=>by have:=hi (k+1) p hk; omega) (fun e' h'=>hl e' (List.mem_cons_of_mem _ h'))
     (by rw [List.length_append,hp,hle,Nat.add_mul,Nat.one_mul]) (by rw [List.length_drop,ht']; omega)
    rw [this]
    simp

theorem rowP_spec {sz:Nat} {ν:Nat→Value} : ∀ {ps:List (Nat×SV)} {j:Nat},concP ps=true→(rowP sz j ps).2 →
  (ps.map fun p=>(p.2.val ν).cells.toList)=(rowP sz j ps).1∧(∀ i (p:Nat×SV),ps[i]? = some p→p.1=j+i) ∧ ∀ e ∈ (rowP sz j ps).1,e.length=sz ∧ ∀ c ∈ e,c.oneCell'=true
 | [],j,_,_=>by simp [rowP]
 | (i,s) :: r,j,hc,h=>by
  simp only [concP,Bool.and_eq_true] at hc
  obtain ⟨⟨⟨rfl,h1⟩,h2⟩,h3⟩:=h
  obtain ⟨g1,g2,g3⟩:=rowP_spec (ν:=ν) hc.2 h3
  refine ⟨?_,fun k p hk=>?_,fun e he=>?_⟩
  · simp only [List.map_cons,rowP,concB_cells ν hc.1 h2,g1]
  · cases k with
    | zero=>simp only [List.getElem?_cons_zero,Option.some.injEq] at hk; subst hk; rfl
    | succ k=>have:=g2 k p hk; omega
  · simp only [rowP,List.mem_cons] at he
    rcases he with rfl | he
    · exact ⟨h1,onesV_mem h2⟩
    · exact g3 e he

theorem opK_of (h : ∀ ν a w,Slots E.N ν σ a→Heap E ν H M w → ∃ n w',(execOp a.eval o).run E.P w = .ok (.value n) w' ∧ ∃ σ' H' M',Rep E σ' H' M' (a.put o.dst n) w'∧K σ' H' M'):OpK E o K σ H M:=by
 rintro a w ⟨ν,hs,hh⟩
 obtain ⟨n,w',hr,hx⟩:=h ν a w hs hh
 unfold Oper.wp
 rw [hr]
 exact hx

theorem flatten_len {sz:Nat} {es:List (List Value)} (h : ∀ e ∈ es,e.length=sz):es.flatten.length=es.length * sz:=by
 induction es with
 | nil=>simp
 | cons e es ih=>
   rw [List.flatten_cons,List.length_append,ih (fun e' h'=>h e' (List.mem_cons_of_mem _ h')),h e List.mem_cons_self,List.length_cons,Nat.add_mul]
   omega

theorem bs_sound {t n:Nat} {ps:Array (Nat×Operand)} (ho:o.op = .buildSlice t n ps) (h:bsC E (OpK E o K σ H M) K σ H M n o.dst (slT E.P t) (partsO σ ps.toList)):OpK E o K σ H M:=by
 unfold bsC at h
 split at h
 · rename_i d e sz bt zs l hd hsl hp
   unfold bsD at h
   split at h
   · rename_i hc
     obtain ⟨⟨⟨hN,hlen,hsm,hsm2⟩,hrow⟩,hn,hK⟩:=h
     obtain ⟨i,z,hu,hi,hz,rfl,rfl,rfl⟩:=slT_spec hsl
     refine opK_of fun ν a w hs hh=>?_
     obtain ⟨g1,g2,g3⟩:=rowP_spec (ν:=ν) hc hrow
     have e1:=partsO_spec hs hp rfl
     have hps:(ps.map fun (x:Nat×Operand)=>match x with | (i,x)=>(i,a.eval x)).toList=l.map fun p=>(p.1,p.2.val ν):=by
      rw [← e1,Array.toList_map]
     have hesl:(rowP i.size 0 l).1.length=n:=by rw [← g1,List.length_map,hlen]
     have hfl:=flatten_len (fun e he=>(g3 e he).1)
     have hfill : ∀ cs:Array Value,cs.size=n * i.size→Instr.fill (fun j=>some (j * i.size,i.size)) cs (l.map fun p=>(p.1,p.2.val ν))=some ((rowP i.size 0 l).1.flatten).toArray:=by
      intro cs hcs
      have:=fillRow (sz:=i.size) (l.map fun p=>(p.1,p.2.val ν)) (rowP i.size 0 l).1 0 [] cs.toList (by rw [List.map_map]; exact g1)
       (fun k p hk=>by
         rw [List.getElem?_map,Option.map_eq_some_iff] at hk
         obtain ⟨q,hq,rfl⟩:=hk
         exact g2 k q hq) (fun e he=>(g3 e he).1) (by simp) (by simp [hcs,hlen])
      simpa using this
     refine ⟨.slice (some ⟨w.heap.size,0,none⟩) n n,w.alloc (.cells ((rowP i.size 0 l).1.flatten).toArray e),?_,_,_,_,?_,hK⟩
     · simp only [execOp,ho,Sem.run_bind]
       have:(Instr.buildSlice t n (ps.map fun (x:Nat×Operand)=>match x with | (i,x)=>(i,a.eval x))).run E.P w = .ok (.slice (some ⟨w.heap.size,0,none⟩) n n) (w.alloc (.cells ((rowP i.size 0 l).1.flatten).toArray e)):=by
        by_cases h0:n * i.size=0
        · have hf:=hfill (Array.map (fun x=>default) (Array.range 0)) (by simp [h0])
          simp [Instr.buildSlice,run_underlying hu,sizeOf,typeInfo,zeroValue,hi,hz,h0,newRow,e1,hf]
        · have hf:=hfill ((Array.range (n * i.size)).map (z.cells[· % z.cells.size]!)) (by simp)
          simp [Instr.buildSlice,run_underlying hu,sizeOf,typeInfo,zeroValue,hi,hz,h0,newRow,e1,hf,show ¬ 16777216 < n * i.size by omega]
       rw [this]
       rfl
     · rw [hd]
       refine Rep.fresh hs hh hN (hdel_sub d H) hn (below_alloc w _) rfl (fun ν' hν'=>⟨g3,.inr ⟨w.heap.size,n,e,[],by rw [hesl],by omega,by simp only [maxLen]; omega,by simp [hesl],?_⟩⟩) (fun b hb=>by simp only [blk?,Option.some.injEq] at hb; omega) (fun ν' h=>h)
       rw [List.append_nil]
       exact heap_alloc_at w _
   · exact h
 · exact h
theorem made_flat (zs:Array Value) : ∀ n:Nat,(madeCells zs (n * zs.size)).toList=(List.replicate n zs.toList).flatten:=by
 intro n
 have key : ∀ (n k:Nat),(List.replicate n zs.toList).flatten[k]? = if k < n * zs.size then some (zs[k % zs.size]!) else none:=by
  intro n
  induction n with
  | zero=>intro k; simp
  | succ n ih=>
    intro k
    rw [List.replicate_succ,List.flatten_cons,List.getElem?_append]
    simp only [Array.length_toList]
    have e:(n+1) * zs.size=zs.size+n * zs.size:=by rw [Nat.add_mul]; omega
    split
    · rename_i h
      rw [if_pos (by omega),Nat.mod_eq_of_lt h]
      rw [Array.getElem?_toList,Array.getElem?_eq_getElem h]
      simp [h]
    · rename_i h
      rw [ih (k - zs.size),e]
      have e2:k % zs.size=(k - zs.size) % zs.size:=by rw [Nat.mod_eq_sub_mod (by omega)]
      rw [e2]
      by_cases hk:k - zs.size < n * zs.size
      · rw [if_pos hk,if_pos (by omega)]
      · rw [if_neg hk,if_neg (by omega)]
 apply List.ext_getElem?
 intro k
 rw [key n k]
 simp only [madeCells,Array.toList_map,List.getElem?_map,Array.toList_range]
 split
 · rename_i h
   rw [List.getElem?_range h]
   rfl
 · rename_i h
   rw [List.getElem?_eq_none (by simp; omega)]
   rfl

theorem mk_sound {t:TypeId} {x y:Operand} (ho:o.op = .makeSlice t x y) (h:mkC E (OpK E o K σ H M) K σ H M o.dst (slT E.P t) (opv σ x) (opv σ y)):OpK E o K σ H M:=by
 unfold mkC at h
 split at h
 · rename_i d e sz bt zs ka A kb B hd hsl hx hy
   obtain ⟨⟨⟨hN,hzl,hz1⟩,⟨hA,hAB⟩,hB1,hB2⟩,hn,hK⟩:=h
   obtain ⟨i,z,hu,hi,hz,rfl,rfl,rfl⟩:=slT_spec hsl
   refine opK_of fun ν a w hs hh=>?_
   have ex:=hs.opv hx rfl
   have ey:=hs.opv hy rfl
   have hr:=run_make (P:=E.P) w t e i z hu hi hz ka kb A B hA hAB hB2 (by omega)
   have hsz:z.cells.size=i.size:=by rw [← hzl]; simp
   have hc:(madeCells z.cells (B.toNat * i.size)).toList=(List.replicate A.toNat z.cells.toList).flatten++(List.replicate (B.toNat - A.toNat) z.cells.toList).flatten:=by
    rw [← hsz,made_flat,← List.flatten_append,List.replicate_append_replicate,show A.toNat+(B.toNat - A.toNat)=B.toNat by omega]
   refine ⟨.slice (some ⟨w.heap.size,0,none⟩) A.toNat B.toNat,w.alloc (.cells (madeCells z.cells (B.toNat * i.size)) e),?_,_,_,_,?_,hK⟩
   · simp only [execOp,ho,ex,ey,SV.val,Sem.run_bind,hr,Result.andThen_ok,Sem.run_pure]
   · rw [hd]
     refine Rep.fresh hs hh hN (hdel_sub d H) hn (below_alloc w _) rfl (fun ν' hν'=>⟨fun e' he=>?_,.inr ⟨w.heap.size,B.toNat,e,(List.replicate (B.toNat - A.toNat) z.cells.toList).flatten,by rw [List.length_replicate],by rw [List.length_replicate]; omega,by simp only [maxLen]; omega,?_,?_⟩⟩) (fun b hb=>by simp only [blk?,Option.some.injEq] at hb; omega) (fun ν' h=>h)
     · rw [List.mem_replicate] at he
       obtain ⟨_,rfl⟩:=he
       exact ⟨hzl,onesV_mem hz1⟩
     · rw [flatten_len (sz:=i.size) (fun e' he=>by rw [List.mem_replicate] at he; rw [he.2]; exact hzl),List.length_replicate,List.length_replicate]
     · rw [← hc]
       exact heap_alloc_at w _
 · exact h

theorem zsT_spec {P:Program} {t:TypeId} {zs:List Value} (h:zsT P t=some zs) : ∃ i z,P.info? t=some i∧i.zero=some z∧z.cells.toList=zs:=by
 unfold zsT at h
 cases hsb:selfB P t with
 | true=>rw [hsb] at h; cases h
 | false=>
 rw [hsb] at h
 simp only [cond_false] at h
 cases hi:P.info? t with
 | none=>rw [hi] at h; cases h
 | some i=>
   rw [hi] at h
   simp only [Option.bind_some,Option.map_eq_some_iff] at h
   obtain ⟨z,hz,rfl⟩:=h
   exact ⟨i,z,rfl,hz,rfl⟩

theorem al_sound {t:TypeId} (ho:o.op = .alloc t) (h:alC E (OpK E o K σ H M) K σ H M o.dst (zsT E.P t)):OpK E o K σ H M:=by
 unfold alC at h
 split at h
 · rename_i d zs hd hzs
   obtain ⟨⟨hN,hn⟩,hK⟩:=h
   obtain ⟨i,z,hi,hz,rfl⟩:=zsT_spec hzs
   refine opK_of fun ν a w hs hh=>?_
   refine ⟨.pointer (some ⟨w.heap.size,0,none⟩),w.alloc (.cells z.cells t),?_,_,_,_,?_,hK⟩
   · simp [execOp,ho,Instr.alloc,zeroValue,typeInfo,hi,hz,newVar,newRow]
   · rw [hd]
     refine Rep.fresh hs hh hN (hdel_sub d H) hn (below_alloc w _) rfl (fun ν' hν'=>⟨⟨w.heap.size,t,rfl,?_⟩,fun _ h=>by cases h⟩) (fun b hb=>by simp only [blk?,Option.some.injEq] at hb; omega) (fun ν' h=>by simp [SV.val,h,bOf])
     rw [heap_alloc_at,SV.vals_map,List.map_map]
     have:(z.cells.toList.map (SV.val ν' ∘ SV.v)).toArray=z.cells:=by
      apply Array.ext'
      conv=>rhs; rw [← List.map_id z.cells.toList]
      rfl
     rw [this]
 · exact h

theorem flatten_set {sz:Nat} {cs sp:List Value} : ∀ {es:List (List Value)} {i off:Nat},(∀ e ∈ es,e.length=sz)→i < es.length→off+cs.length≤sz →
  (es.flatten++sp).take (i * sz+off)++cs++(es.flatten++sp).drop (i * sz+off+cs.length)=(es.set i (putV (es.getD i []) off cs)).flatten++sp
 | [],i,off,_,hi,_=>by simp at hi
 | e :: es,0,off,hl,_,ho=>by
   have he:e.length=sz:=hl e List.mem_cons_self
   simp only [Nat.zero_mul,Nat.zero_add,List.set_cons_zero,List.getD_cons_zero,List.flatten_cons,putV,List.append_assoc]
   rw [List.take_append_of_le_length (by omega),List.drop_append_of_le_length (by omega)]
 | e :: es,i+1,off,hl,hi,ho=>by
   have he:e.length=sz:=hl e List.mem_cons_self
   have ih:=flatten_set (sp:=sp) (es:=es) (i:=i) (off:=off) (fun e' h'=>hl e' (List.mem_cons_of_mem _ h')) (by simpa using hi) ho
   simp only [List.set_cons_succ,List.getD_cons_succ,List.flatten_cons,List.append_assoc] at ih ⊢
   rw [show (i+1) * sz+off=e.length+(i * sz+off) by rw [Nat.add_mul,he]; omega,show e.length+(i * sz+off)+cs.length=e.length+(i * sz+off+cs.length) by omega]
   rw [List.take_length_add_append,List.drop_length_add_append,List.append_assoc,ih]

theorem stR_sound {t:TypeId} {x y:Operand} (ho:o.op = .store t x y) (hz:szOk E.P t) (hdN:dOk E.N o.dst) (h:stRD o.dst (lay (shp E.P t)) (OpK E o K σ H M) K σ H M (opv σ x) (opv σ y)):OpK E o K σ H M:=by
 unfold stRD at h
 split at h
 · rename_i k sz i off s hx hy
   unfold stRB at h
   split at h
   · rename_i hc
     unfold stRC at h
     split at h
     · rename_i sz' es hk
       obtain ⟨⟨⟨⟨h1,hL⟩,rfl,h0⟩,h2,h3⟩,hK⟩:=h
       rintro a w ⟨ν,hs,hh⟩
       have ex:=hs.opv hx rfl
       have ey:=hs.opv hy rfl
       have hcells:=concB_cells ν hc h1
       have hcl:(s.val ν).cells.size=(cellsV s).length:=by rw [← hcells]; simp
       obtain ⟨g1,g2⟩:=hh.holds _ (hget_mem hk)
       rcases g2 with ⟨_,rfl⟩ | ⟨b,cap,T,sp,hν,g3,g4,g5,hb⟩
       · simp at h2
       simp only at hν
       have hfl:=flatten_len (fun e he=>(g1 e he).1)
       obtain ⟨n,g,hl,hn⟩ : ∃ n g,lay (shp E.P t)=some (n,g)∧(cellsV s).length=n:=by
        cases hl:lay (shp E.P t) with
        | none=>rw [hl] at hL; cases hL
        | some q=>obtain ⟨n,g⟩:=q; rw [hl] at hL; simp only [layN,Option.some.injEq] at hL; exact ⟨n,g,rfl,hL.symm⟩
       obtain ⟨i0,hi0,hsz⟩:=lay_info hz ⟨n,g,hl⟩
       have hle:i * sz'+sz'≤es.length * sz':=by
        have:=Nat.mul_le_mul_right sz' (show i+1≤es.length by omega)
        rw [Nat.add_mul,Nat.one_mul] at this
        exact this
       have hrun:=run_storeVar_box (P:=E.P) (t:=t) (w:=w) (v:=s.val ν) (off:=i * sz'+off) ⟨i0,hi0⟩ (by rw [hsz n g hl,hcl,hn]) hb (by rw [hcl]; simp only [List.size_toArray,List.length_append,hfl]; omega) (by rw [hcells]; exact onesV_mem h1)
       rw [hcells,hcl] at hrun
       have hset:(es.set i (stRowE sz' off (cellsV s) (es.getD i []))).flatten++sp=(es.flatten++sp).take (i * sz'+off)++cellsV s++(es.flatten++sp).drop (i * sz'+off+(cellsV s).length):=by
        rw [flatten_set (fun e he=>(g1 e he).1) h2 h3]
        congr 3
        unfold stRowE
        cases hq:(cellsV s).length == sz' with
        | false=>rfl
        | true=>
          simp only [beq_iff_eq] at hq
          obtain rfl:off=0:=by omega
          have hlen:(es.getD i []).length=sz':=by
           rw [List.getD_eq_getElem?_getD,List.getElem?_eq_getElem h2]
           exact (g1 _ (List.getElem_mem h2)).1
          simp only [cond_true,putV,List.take_zero,List.nil_append,Nat.zero_add]
          rw [List.drop_eq_nil_of_le (by omega),List.append_nil]
       have hval:(SV.ptr k sz' i off).val ν = .pointer (some ⟨b,i * sz'+off,none⟩):=by simp [SV.val,hν,bOf]
       have hw':(execOp a.eval o).run E.P w = .ok .skip (w.setRow b ((es.set i (stRowE sz' off (cellsV s) (es.getD i []))).flatten++sp).toArray):=by
        rw [hset]
        simp only [execOp,ho,ex,ey,hval,Instr.storeAt,Instr.sureAddr,Sem.run_bind,Sem.run_pure,Result.andThen_ok,hrun]
       unfold Oper.wp
       rw [hw']
       simp only [Oper.upon]
       have hnew : ∀ e ∈ es.set i (stRowE sz' off (cellsV s) (es.getD i [])),e.length=sz' ∧ ∀ c ∈ e,c.oneCell'=true:=by
        intro e he
        rcases List.mem_or_eq_of_mem_set he with he | rfl
        · exact g1 e he
        · have hlen:(es.getD i []).length=sz' ∧ ∀ c ∈ es.getD i [],c.oneCell'=true:=by
           rw [List.getD_eq_getElem?_getD,List.getElem?_eq_getElem h2]
           exact g1 _ (List.getElem_mem h2)
          unfold stRowE
          cases hq:(cellsV s).length == sz' with
          | true=>simp only [beq_iff_eq] at hq; exact ⟨hq,onesV_mem h1⟩
          | false=>
            simp only [cond_false,putV]
            refine ⟨by simp only [List.length_append,List.length_take,List.length_drop]; omega,fun c hc=>?_⟩
            simp only [List.mem_append] at hc
            rcases hc with (hc | hc) | hc
            · exact hlen.2 c (List.mem_of_mem_take hc)
            · exact onesV_mem h1 c hc
            · exact hlen.2 c (List.mem_of_mem_drop hc)
       refine ⟨_,_,_,⟨ν,?_,hh.upd hk (b:=b) (by rw [hν]; rfl) (fun j hj=>setRow_other w b _ hj) (by simp [World.setRow]) ⟨rfl,rfl,rfl⟩ (p:=.row sz' (es.set i (stRowE sz' off (cellsV s) (es.getD i [])))) ⟨hnew,.inr ⟨b,cap,T,sp,by rw [List.length_set]; exact hν,by rw [List.length_set]; exact g3,g4,by rw [List.length_set]; exact g5,setRow_at w b _ _ T _ hb⟩⟩⟩,hK⟩
       cases hd:o.dst with
       | none=>exact hs
       | some d=>exact hs.put (hdN d hd) rfl
     · exact h
   · exact h
 · exact h
theorem flat_range (f:Nat→Value) (sz:Nat) : ∀ n:Nat,((List.range n).map fun i=>(List.range sz).map fun j=>f (i * sz+j)).flatten=(List.range (n * sz)).map f
 | 0=>by simp
 | n+1=>by
   rw [List.range_succ,List.map_append,List.flatten_append,flat_range f sz n,Nat.add_mul,Nat.one_mul,List.range_add,List.map_append]
   simp [List.map_map,Function.comp_def]

theorem src_spec {P:Program} {sz:Nat} {tx:TypeId} {x:SV} {es:List (List Value)} {C:Prop} (hh:Heap E ν H M w) (h:srcOf H M sz (shp P tx) x=some (es,C)) (hC:C) :
  Src P sz tx (x.val ν) es.length es.flatten w ∧ ∀ e ∈ es,e.length=sz ∧ ∀ c ∈ e,c.oneCell'=true:=by
 unfold srcOf at h
 split at h
 · rename_i e' sz' g k hs
   obtain ⟨hu,_,_⟩:=shp_slice hs
   unfold srcC at h
   split at h
   · rename_i sz2 es2 hk
     simp only [Option.some.injEq,Prod.mk.injEq] at h
     obtain ⟨rfl,rfl⟩:=h
     subst hC
     obtain ⟨g1,g2⟩:=hh.holds _ (hget_mem hk)
     refine ⟨?_,g1⟩
     have hfl:=flatten_len (fun e he=>(g1 e he).1)
     rcases g2 with ⟨hν,rfl⟩ | ⟨b,cap,T,sp,hν,g3,g4,g5,hb⟩
     · simp only at hν
       simp only [SV.val,hν]
       exact Src.ofNil w hu 0
     · simp only at hν
       simp only [SV.val,hν]
       refine Src.ofSlice w hu _ _ _ _ hfl (fun j u hj=>?_) (fun u hu=>?_)
       · have hadd:(⟨b,0,none⟩:Addr).add j=⟨b,j,none⟩:=by unfold Addr.add; split <;> simp_all
         rw [hadd,cell_of_row w b j _ T (0,0) hb]
         simp only [List.getElem?_toArray,List.getElem?_append]
         rw [if_pos (List.getElem?_eq_some_iff.1 hj).1,hj]
       · obtain ⟨e,he,hc⟩:=List.mem_flatten.1 hu
         exact (g1 e he).2 u hc
   · cases h
 · rename_i e' sz' g y hs
   obtain ⟨hu,_,_⟩:=shp_slice hs
   simp only [Option.some.injEq,Prod.mk.injEq] at h
   obtain ⟨rfl,rfl⟩:=h
   obtain ⟨⟨h1,h0⟩,h2⟩:=hC
   have hlen : ∀ e ∈ rowsM M y sz,e.length=sz ∧ ∀ c ∈ e,c.oneCell'=true:=by
    intro e he
    simp only [rowsM,List.mem_map,List.mem_range] at he
    obtain ⟨i,hi,rfl⟩:=he
    refine ⟨by simp,fun c hc=>?_⟩
    simp only [List.mem_map,List.mem_range] at hc
    obtain ⟨j,hj,rfl⟩:=hc
    exact (h2 i hi j hj).2
   refine ⟨?_,hlen⟩
   have hfl:=flatten_len (fun e he=>(hlen e he).1)
   have hone : ∀ u ∈ (rowsM M y sz).flatten,u.oneCell'=true:=by
    intro u hu
    obtain ⟨e,he,hc⟩:=List.mem_flatten.1 hu
    exact (hlen e he).2 u hc
   cases y with
   | slice ad n c=>
     have hn:(rowsM M (.slice ad n c) sz).length=n:=by simp [rowsM,lenV]
     rw [hn] at hfl
     cases ad with
     | none=>
       cases n with
       | zero=>
         have:(rowsM M (.slice none 0 c) sz)=[]:=by simp [rowsM,lenV]
         rw [this]
         exact Src.ofNil w hu c
       | succ n=>
         have:=(h2 0 (by simp [lenV]) 0 h0).1
         simp [okE,cellE] at this
     | some ad=>
       simp only [SV.val]
       rw [hn]
       refine Src.ofSlice w hu ad n c _ hfl (fun j u hj=>?_) hone
       have hj':j < n * sz:=by rw [← hfl]; exact (List.getElem?_eq_some_iff.1 hj).1
       have hr:(rowsM M (.slice (some ad) n c) sz).flatten=(List.range (n * sz)).map fun j=>(cellE M (.slice (some ad) n c) j).getD undef:=flat_range (fun j=>(cellE M (.slice (some ad) n c) j).getD undef) sz n
       rw [hr,List.getElem?_map,List.getElem?_range hj'] at hj
       simp only [Option.map_some,Option.some.injEq] at hj
       have h3:=(h2 (j / sz) (by simp only [lenV]; exact Nat.div_lt_of_lt_mul (by rw [Nat.mul_comm]; exact hj')) (j % sz) (Nat.mod_lt _ h0)).1
       simp only [okE] at h3
       rw [Nat.mul_comm,Nat.div_add_mod] at h3
       obtain ⟨v,hv⟩:=Option.isSome_iff_exists.1 h3
       rw [hv] at hj
       simp only [Option.getD_some] at hj
       subst hj
       exact cellM_on hh.mem hv
   | _=>simp [isSl] at h1
 · rename_i s hs
   have hu:P.underlying tx=some .string:=by
    unfold shp at hs
    split at hs <;> (try split at hs) <;> first | assumption | cases hs
   simp only [Option.some.injEq,Prod.mk.injEq] at h
   obtain ⟨rfl,rfl⟩:=h
   subst hC
   have e1:((bl s).map encB).flatten=byteCells s:=by
    unfold byteCells bl
    induction s.data.toList with
    | nil=>rfl
    | cons b l ih=>simp only [List.map_cons,List.flatten_cons,ih]; rfl
   refine ⟨?_,fun e he=>?_⟩
   · rw [e1,List.length_map,← size_bl]
     exact Src.ofString w hu s
   · obtain ⟨b,_,rfl⟩:=List.mem_map.1 he
     exact ⟨rfl,fun c hc=>by simp only [encB,List.mem_singleton] at hc; subst hc; rfl⟩
 · cases h

theorem Heap.add (hh:Heap E ν H M w) {d:Nat} (hn:hNoKey d H=true) {ν':Nat→Value} (hν : ∀ k,k / 8≠d→ν' k=ν k) (h1 : ∀ k,(ν' k).oneCell'=true) {p:PO}
  (hp:p.holds ν' w (ν' (8 * d))) (hbk : ∀ b,blk? (ν' (8 * d))=some b→b ∉ fp ν H∧M b=none∧E.w0.heap.size≤b):Heap E ν' ((8 * d,p) :: H) M w:=by
 have hfp:=noKey_fp hν hn
 have hfp':List.filterMap (fun p=>blk? (ν' p.1)) H=fp ν H:=hfp
 refine ⟨fun q hq=>?_,?_,fun b hb'=>?_,hh.mem,hh.below,hh.le0,hh.fresh,h1⟩
 · rcases List.mem_cons.1 hq with rfl | hq
   · exact hp
   · obtain ⟨h2,h3⟩:=hNoKey_mem hn q hq
     rw [hν q.1 h2]
     exact PO.holds_congr hν h3 (hh.holds q hq)
 · show (List.filterMap _ _).Nodup
   rw [List.filterMap_cons,hfp']
   split
   · exact hh.nodup
   · rename_i b hb'
     exact List.nodup_cons.2 ⟨(hbk b hb').1,hh.nodup⟩
 · have hb2:b ∈ List.filterMap (fun p=>blk? (ν' p.1)) ((8 * d,p) :: H):=hb'
   rw [List.filterMap_cons,hfp'] at hb2
   split at hb2
   · exact hh.apart b hb2
   · rename_i b' hb'
     rcases List.mem_cons.1 hb2 with rfl | hb2
     · exact (hbk b hb').2
     · exact hh.apart b hb2

theorem Heap.turn (hh:Heap E ν H M w) {b:Nat} (hf:b ∉ fp ν H) (hM:M b=none) (hB:E.w0.heap.size≤b) {w':World} (hw : ∀ j,j≠b→w'.heap[j]? = w.heap[j]?) (hz:w'.heap.size=w.heap.size)
  (ho:w'.os=w.os∧w'.tape=w.tape∧w'.output=w.output):Heap E ν H M w':=by
 refine ⟨fun q hq=>?_,hh.nodup,hh.apart,fun c o hc=>?_,?_,hh.le0,hh.fresh,hh.one⟩
 · have h0:=hh.holds q hq
   have hne : ∀ c,blk? (ν q.1)=some c→c≠b:=fun c hc e=>hf (List.mem_filterMap.2 ⟨q,hq,by rw [hc,e]⟩)
   obtain ⟨j,po⟩:=q
   cases po with
   | box cs t=>
     obtain ⟨⟨b',T,e,h⟩,ht⟩:=h0
     refine ⟨⟨b',T,e,?_⟩,ht⟩
     simp only at e hne
     rw [hw b' (hne b' (by rw [e]; rfl))]
     exact h
   | row sz es=>
     obtain ⟨h1,h2⟩:=h0
     refine ⟨h1,h2.imp id ?_⟩
     rintro ⟨b',cap,T,sp,e,h3,h4,h5,h⟩
     refine ⟨b',cap,T,sp,e,h3,h4,h5,?_⟩
     simp only at e hne
     rw [hw b' (hne b' (by rw [e]; rfl))]
     exact h
   | tab sz es=>
     obtain ⟨h1,h2⟩:=h0
     refine ⟨h1,h2.imp id ?_⟩
     rintro ⟨b',cap,T,sp,e,h3,h4,h5,h⟩
     refine ⟨b',cap,T,sp,e,h3,h4,h5,?_⟩
     simp only at e hne
     rw [hw b' (hne b' (by rw [e]; rfl))]
     exact h
   | mp es=>
     obtain ⟨b',m,c,e,h,he⟩:=h0
     refine ⟨b',m,c,e,?_,he⟩
     simp only at e hne
     rw [hw b' (hne b' (by rw [e]; rfl))]
     exact h
 · rw [hw c (fun e=>by rw [e,hM] at hc; cases hc)]
   exact hh.mem c o hc
 · exact ⟨ho.1.trans hh.below.os,ho.2.1.trans hh.below.tape,ho.2.2.trans hh.below.output,by rw [hz]; exact hh.below.size,fun j hj=>by rw [hw j (by omega)]; exact hh.below.block j hj⟩

/-- the block of k is no block of what is left without k -/
theorem fp_hdelk (hh:Heap E ν H M w) {k:Nat} {p:PO} {b:Nat} (hk:hget H k=some p) (hb:blk? (ν k)=some b) (d:Nat) (H':HS) (hs:H'.Sublist H) (hne : ∀ q ∈ H',q.1≠k):b ∉ fp ν H':=by
 intro hm
 obtain ⟨q,hq,hqb⟩:=List.mem_filterMap.1 hm
 exact blk_ne hh hk hb q (hs.subset hq) (hne q hq) hqb

theorem app_sound {s x:Operand} {t tx:TypeId} (ho:o.op = .call ⟨.builtin .append,#[s,x],#[t,tx]⟩) (h:appC E (OpK E o K σ H M) K σ H M (shp E.P tx) o.dst (slT E.P t) (opv σ s) (opv σ x)):OpK E o K σ H M:=by
 unfold appC at h
 split at h
 · rename_i d e sz bt zs sv xv hd hsl hs0 hx0
   unfold appD at h
   split at h
   · rename_i ok sz' es es' C hrow hsrc
     obtain ⟨⟨⟨⟨hN,hbt⟩,rfl,hzl⟩,⟨hb1,hb2⟩,hC⟩,hn,hK⟩:=h
     obtain ⟨i,z,hu,hi,hz,hisz,rfl,rfl⟩:=slT_spec hsl
     refine opK_of fun ν a w hs hh=>?_
     have ex:=hs.opv hx0 rfl
     have es0:=hs.opv hs0 rfl
     obtain ⟨hS,hS1⟩:=src_spec hh hsrc hC
     have hfl':=flatten_len (fun e he=>(hS1 e he).1)
     have hrun : ∀ v w',(Builtin.append_ #[t,tx] o.type #[sv.val ν,xv.val ν]).run E.P w = .ok v w'→(execOp a.eval o).run E.P w = .ok (.value v) w':=by
      intro v w' hr
      simp [execOp,ho,resolve,invoke,builtin,es0,ex,hr]
     have hall : ∀ (es2:List (List Value)),(∀ e ∈ es2,e.length=sz' ∧ ∀ c ∈ e,c.oneCell'=true) → ∀ e ∈ es2++es',e.length=sz' ∧ ∀ c ∈ e,c.oneCell'=true:=by
      intro es2 h2 e he
      rcases List.mem_append.1 he with he | he
      · exact h2 e he
      · exact hS1 e he
     -- what the first argument is
     have hfirst:(sv.val ν = .slice none 0 0∧es=[]) ∨ ∃ k,ok=some k∧hget H k=some (.row sz' es)∧sv = .own k:=by
      unfold rowOf at hrow
      split at hrow
      · rename_i k
        unfold rowC at hrow
        split at hrow
        · rename_i hk
          simp only [Option.some.injEq,Prod.mk.injEq] at hrow
          obtain ⟨rfl,rfl,rfl⟩:=hrow
          exact .inr ⟨k,rfl,hk,rfl⟩
        · cases hrow
      · simp only [Option.some.injEq,Prod.mk.injEq] at hrow
        obtain ⟨_,_,rfl⟩:=hrow
        exact .inl ⟨rfl,rfl⟩
      · cases hrow
     have hsub:(hdelk? ok (hdel d H)).Sublist H:=(hdelk?_sub ok _).trans (hdel_sub d H)
     -- a new row
     have hgrow : ∀ (base:Option Addr) (cap:Nat),sv.val ν = .slice base es.length cap→(∀ e ∈ es,e.length=sz' ∧ ∀ c ∈ e,c.oneCell'=true)→(Builtin.firstCells i.size es.length (.slice base es.length cap)).run E.P w.drew = .ok es.flatten.toArray w.drew →
       cap < es.length+es'.length → ∃ n w',(execOp a.eval o).run E.P w = .ok (.value n) w' ∧ ∃ σ' H' M',Rep E σ' H' M' (a.put o.dst n) w'∧K σ' H' M':=by
      intro base cap hsv h1 hold hc
      have hfl:=flatten_len (fun e he=>(h1 e he).1)
      have hnc:=nextslicecap_le hc
      have hr:=run_append_grow_src (P:=E.P) w t tx o.type e i z hu hi hz base es.length cap es.flatten hold (xv.val ν) es'.length es'.flatten (by rw [hisz]; exact hS) hc (by omega)
       (Nat.le_trans (Nat.mul_le_mul_right i.bytes hnc) (by rw [Nat.mul_assoc]; omega))
      refine ⟨_,_,hrun _ _ (by rw [hsv]; exact hr),_,_,_,?_,hK⟩
      rw [hd]
      have hzc:(Builtin.zeroCells z.cells (grownCap w (es.length+es'.length) cap e - (es.length+es'.length))).toList.length=(grownCap w (es.length+es'.length) cap e - (es.length+es'.length)) * sz':=by
       simp only [Builtin.zeroCells,Array.toList_map,Array.toList_range,List.length_map,List.length_range,← hzl,Array.length_toList]
      have hge:=grownCap_ge w (es.length+es'.length) cap e
      have hle:=grownCap_le_maxLen w (es.length+es'.length) cap e (by simp only [maxLen]; omega)
      refine Rep.fresh hs hh hN hsub hn ((Below.refl _ w).drew.alloc (Nat.le_refl _) _) rfl (fun ν' hν'=>⟨hall es h1,.inr ⟨w.heap.size,grownCap w (es.length+es'.length) cap e,e,(Builtin.zeroCells z.cells (grownCap w (es.length+es'.length) cap e - (es.length+es'.length))).toList,by rw [List.length_append],by rw [List.length_append]; exact hge,hle,by rw [List.length_append]; exact hzc,?_⟩⟩)
       (fun b hb=>by simp only [blk?,Option.some.injEq] at hb; omega) (fun ν' h=>h)
      have:=heap_alloc_at w.drew (.cells ((es.flatten++es'.flatten).toArray++Builtin.zeroCells z.cells (grownCap w (es.length+es'.length) cap e - (es.length+es'.length))) e (0,0))
      rw [show w.drew.heap.size=w.heap.size from rfl] at this
      rw [this]
      congr 2
      apply Array.ext'
      simp [List.flatten_append]
     rcases hfirst with ⟨hnil,rfl⟩ | ⟨k,rfl,hk,rfl⟩
     · by_cases h0:es'.length=0
       · have h0':es'=[]:=List.length_eq_zero_iff.1 h0
         subst h0'
         have hst:(Builtin.append_ #[t,tx] o.type #[sv.val ν,xv.val ν]).run E.P w = .ok (.slice none 0 0) w:=by
          have h5:=hS.len
          have h6:=hS.cells
          simp only [List.length_nil] at h5 h6
          rw [hnil]
          rcases hS.kind with ⟨e',hk⟩ | hk <;> simp [Builtin.append_,run_underlying hu,run_underlying hk,sizeOf,typeInfo,hi,h5,hisz,h6]
         refine ⟨_,_,hrun _ _ hst,_,_,_,?_,hK⟩
         rw [hd]
         exact Rep.fresh hs hh hN hsub hn (Below.refl _ _) rfl (fun ν' hν'=>⟨fun e he=>by simp at he,.inl ⟨rfl,rfl⟩⟩) (fun b hb=>by simp [blk?] at hb) (fun ν' h=>h)
       · exact hgrow none 0 hnil (fun e he=>by simp at he) (run_firstCells_none w.drew i.size 0 0 0) (by simp; omega)
     · obtain ⟨g1,g2⟩:=hh.holds _ (hget_mem hk)
       have hfl:=flatten_len (fun e he=>(g1 e he).1)
       rcases g2 with ⟨hν,rfl⟩ | ⟨b,cap,T,sp,hν,g3,g4,g5,hb⟩
       · simp only at hν
         by_cases h0:es'.length=0
         · have h0':es'=[]:=List.length_eq_zero_iff.1 h0
           subst h0'
           have hst:(Builtin.append_ #[t,tx] o.type #[(SV.own k).val ν,xv.val ν]).run E.P w = .ok (.slice none 0 0) w:=by
            have h5:=hS.len
            have h6:=hS.cells
            simp only [List.length_nil] at h5 h6
            simp only [SV.val,hν]
            rcases hS.kind with ⟨e',hk⟩ | hk <;> simp [Builtin.append_,run_underlying hu,run_underlying hk,sizeOf,typeInfo,hi,h5,hisz,h6]
           refine ⟨_,_,hrun _ _ hst,_,_,_,?_,hK⟩
           rw [hd]
           exact Rep.fresh hs hh hN hsub hn (Below.refl _ _) rfl (fun ν' hν'=>⟨fun e he=>by simp at he,.inl ⟨rfl,rfl⟩⟩) (fun b hb=>by simp [blk?] at hb) (fun ν' h=>h)
         · exact hgrow none 0 hν (fun e he=>by simp at he) (run_firstCells_none w.drew i.size 0 0 0) (by simp; omega)
       · simp only at hν
         have hcellsOld : ∀ w'':World,w''.heap=w.heap → ∀ j u,es.flatten[j]? = some u→w''.cell? ((⟨b,0,none⟩:Addr).add j)=some u:=by
          intro w'' hw'' j u hj
          have hadd:(⟨b,0,none⟩:Addr).add j=⟨b,j,none⟩:=by unfold Addr.add; split <;> simp_all
          rw [hadd,cell_of_row w'' b j _ T (0,0) (by rw [hw'']; exact hb)]
          simp only [List.getElem?_toArray,List.getElem?_append]
          rw [if_pos (List.getElem?_eq_some_iff.1 hj).1,hj]
         by_cases hroom:es.length+es'.length≤cap
         · have hcap:es.length * sz'+(cap - es.length) * sz'=cap * sz':=by rw [← Nat.add_mul]; congr 1; omega
           have hcap2:(es.length+es'.length) * sz'≤cap * sz':=Nat.mul_le_mul_right _ hroom
           rw [Nat.add_mul] at hcap2
           have hst:=run_storeCells_at E.P b (es.length * sz') T es'.flatten 0 _ w hb (by simp only [List.size_toArray,List.length_append,hfl,hfl',g5]; omega) (fun u hu=>by obtain ⟨e,he,hc⟩:=List.mem_flatten.1 hu; exact (hS1 e he).2 u hc)
           simp only [Nat.add_zero] at hst
           have happ:(Builtin.append_ #[t,tx] o.type #[(SV.own k).val ν,xv.val ν]).run E.P w = .ok (.slice (some ⟨b,0,none⟩) (es.length+es'.length) cap)
             (w.setRow b (((es.flatten++sp).toArray.toList.take (es.length * sz')++es'.flatten++(es.flatten++sp).toArray.toList.drop (es.length * sz'+es'.flatten.length)).toArray)):=by
            simp only [SV.val,hν]
            rcases hS.kind with ⟨e',hk⟩ | hk <;> simp [Builtin.append_,run_underlying hu,run_underlying hk,sizeOf,typeInfo,hi,hS.len,hroom,hisz,hS.cells,Addr.add_lit,hst]
           have hcont:(es.flatten++sp).toArray.toList.take (es.length * sz')++es'.flatten++(es.flatten++sp).toArray.toList.drop (es.length * sz'+es'.flatten.length)=(es++es').flatten++sp.drop es'.flatten.length:=by
            rw [← hfl,List.flatten_append]
            generalize es.flatten=X1
            generalize es'.flatten=X2
            simp
           rw [hcont] at happ
           refine ⟨_,_,hrun _ _ happ,_,_,_,?_,hK⟩
           rw [hd]
           have hkb:blk? (ν k)=some b:=by rw [hν]; rfl
           obtain ⟨hMb,hBb⟩:=hh.apart b (List.mem_filterMap.2 ⟨(k,_),hget_mem hk,hkb⟩)
           have hnf:b ∉ fp ν (hdelk k (hdel d H)):=fp_hdelk hh hk hkb d _ hsub (hdelk_ne k _)
           have h1:=(hh.sublist hsub).turn hnf hMb hBb (w':=w.setRow b (((es++es').flatten++sp.drop es'.flatten.length).toArray)) (fun j hj=>setRow_other w b _ hj) (by simp [World.setRow]) ⟨rfl,rfl,rfl⟩
           let v:Value:=.slice (some ⟨b,0,none⟩) (es.length+es'.length) cap
           let ν':Nat→Value:=fun k=>if k / 8=d then v else ν k
           have hν' : ∀ k,k / 8≠d→ν' k=ν k:=fun k hk=>by simp [ν',hk]
           have hν8:ν' (8 * d)=v:=by simp [ν',show (8 * d) / 8=d by omega]
           refine ⟨ν',(hs.drop hν').put hN hν8.symm,h1.add hn hν' (fun k=>?_) ?_ (fun c hc=>?_)⟩
           · by_cases hk:k / 8=d
             · simp [ν',hk,v,Value.oneCell']
             · simp only [ν',hk,if_false]; exact hh.one k
           · rw [hν8]
             refine ⟨hall es g1,.inr ⟨b,cap,T,sp.drop es'.flatten.length,by rw [List.length_append],by rw [List.length_append]; exact hroom,g4,?_,?_⟩⟩
             · rw [List.length_drop,g5,hfl',List.length_append,← Nat.sub_mul]
               congr 1
               omega
             · exact setRow_at w b _ _ T _ hb
           · rw [hν8] at hc
             simp only [v,blk?,Option.some.injEq] at hc
             subst hc
             exact ⟨hnf,hMb,hBb⟩
         · exact hgrow (some ⟨b,0,none⟩) cap hν g1 (run_firstCells_some w.drew i.size es.length ⟨b,0,none⟩ es.length cap es.flatten (by rw [hisz]; exact hfl) (hcellsOld w.drew rfl)) (by omega)
   · exact h
 · exact h

theorem OpX_sound (hz : ∀ t p x,o.op = .store t p x→szOk E.P t∧dOk E.N o.dst) (h:OpX E o K σ H M):OpK E o K σ H M:=by
 unfold OpX at h
 split at h
 · rename_i ho; exact bs_sound ho h
 · rename_i ho; exact mk_sound ho h
 · rename_i ho; exact al_sound ho h
 · rename_i ho; exact stR_sound ho (hz _ _ _ ho).1 (hz _ _ _ ho).2 h
 · rename_i args tys ho
   split at h
   · rename_i s x t tx ha ht
     have e1:args = #[s,x]:=by apply Array.ext'; simpa using ha
     have e2:tys = #[t,tx]:=by apply Array.ext'; simpa using ht
     subst e1 e2
     exact app_sound ho h
   · exact h
 · exact h
end

theorem stepK_sound {o:Oper} {g:Bool} {K:KP} {Nx:Act→World→Prop} {Qx:Exit→Act→World→Prop} (hNx : ∀ σ H M a w,Rep E σ H M a w→K σ H M→Nx a w)
  (hs:Slots E.N ν σ a) (hh:Heap E ν H M w) (h:stepK E o g K σ H M):if g then o.wp E.P a w Nx Qx else Nx (a.put o.dst undef) w:=by
 have quiet : ∀ d,o.dst=some d→d < E.N→(g=true→(pev E.P H M σ o.op).1=true∧(pev E.P H M σ o.op).2.2)→K ((d,g,(pev E.P H M σ o.op).2.1) :: σ) H M →
   if g then o.wp E.P a w Nx Qx else Nx (a.put o.dst undef) w:=by
  intro d hd hN hC hK
  cases g with
  | true=>
    obtain ⟨hg,hC⟩:=hC rfl
    have:=pev_sound hs hh o hg hC
    simp only [if_true]
    unfold Oper.wp
    rw [this]
    simp only [Oper.upon]
    rw [hd]
    exact hNx _ _ _ _ _ ⟨ν,hs.put hN rfl,hh⟩ hK
  | false=>
    simp only [Bool.false_eq_true,if_false]
    rw [hd]
    exact hNx _ _ _ _ _ ⟨ν,hs.put hN rfl,hh⟩ hK
 have eff':(∀ t p x,o.op = .store t p x→szOk E.P t∧dOk E.N o.dst)→g=true→OpX E o K σ H M→if g then o.wp E.P a w Nx Qx else Nx (a.put o.dst undef) w:=by
  intro hz hg hO
  rw [if_pos hg]
  exact wp_weaken (fun a w ⟨σ,H,M,hr,hk⟩=>hNx _ _ _ _ _ hr hk) (fun _ _ _ h=>h.elim) (OpX_sound hz hO a w ⟨ν,hs,hh⟩)
 have eff:(∀ t p x,o.op ≠ .store t p x)→g=true→OpX E o K σ H M→if g then o.wp E.P a w Nx Qx else Nx (a.put o.dst undef) w:=fun hne=>eff' (fun t p x ho=>(hne t p x ho).elim)
 have eff0:g=true→OpK E o K σ H M→if g then o.wp E.P a w Nx Qx else Nx (a.put o.dst undef) w:=by
  intro hg hO
  rw [if_pos hg]
  exact wp_weaken (fun a w ⟨σ,H,M,hr,hk⟩=>hNx _ _ _ _ _ hr hk) (fun _ _ _ h=>h.elim) (hO a w ⟨ν,hs,hh⟩)
 obtain ⟨dst,op,ty,pos,aft,gd⟩:=o
 have quiet':qK E op g K σ H M dst→if g then Oper.wp E.P ⟨dst,op,ty,pos,aft,gd⟩ a w Nx Qx else Nx (a.put dst undef) w:=by
  intro hq
  cases dst with
  | some d=>exact quiet d rfl hq.1.1 hq.1.2 hq.2
  | none=>exact hq.elim
 cases op
 case box t x=>
  cases dst with
  | none=>exact h.elim
  | some d=>
    simp only [stepK] at h
    cases ho:opv σ x with
    | none=>rw [ho] at h; exact h.elim
    | some p=>
      obtain ⟨g',s⟩:=p
      rw [ho] at h
      replace h:(g=true∧g'=true∧d < E.N)∧boxK d s K σ H M:=h
      obtain ⟨⟨rfl,rfl,hN⟩,h⟩:=h
      have hx:=hs.opv ho rfl
      obtain ⟨w',hrun,σ',H',M',hr,hk⟩:=boxK_sound hs hh hN h t
      simp only [if_true]
      unfold Oper.wp
      simp only [execOp,hx,Sem.run_bind,hrun,Result.andThen_ok,Sem.run_pure,Oper.upon]
      exact hNx _ _ _ _ _ hr hk
 case store t p x=>
  simp only [stepK] at h
  cases hp:opv σ p with
  | none=>rw [hp] at h; exact h.elim
  | some q=>
    obtain ⟨g1,p'⟩:=q
    rw [hp] at h
    cases hx:opv σ x with
    | none=>rw [hx] at h; exact h.elim
    | some q=>
      obtain ⟨g2,s⟩:=q
      rw [hx] at h
      obtain ⟨⟨rfl,rfl,rfl,hd⟩,hz,h⟩:=h
      simp only [if_true]
      exact wp_weaken (fun a w ⟨σ,H,M,hr,hk⟩=>hNx _ _ _ _ _ hr hk) (fun _ _ _ h=>h.elim) (storeK_sound (t:=t) (x:=p) (y:=x) rfl rfl hs hh (hs.opv hp rfl) (hs.opv hx rfl) hd (fun h=>OpX_sound (fun t' p' x' e=>by cases e; exact ⟨hz,hd⟩) h) h (lay_info hz))
 case call c=>
  obtain ⟨callee,args,tys⟩:=c
  cases callee with
  | builtin b=>
    cases b <;> first
     | exact eff (fun _ _ _ e=>nomatch e) h.1 h.2
     | exact quiet' h
  | value f=>
    simp only [stepK] at h
    cases dst with
    | none=>exact eff (fun _ _ _ e=>nomatch e) h.1 h.2
    | some d=>
      cases hf:opv σ f with
      | none=>rw [hf] at h; exact eff (fun _ _ _ e=>nomatch e) h.1 h.2
      | some q=>
        obtain ⟨g1,fs⟩:=q
        rw [hf] at h
        cases hl:argsO σ args.toList with
        | none=>rw [hl] at h; cases fs <;> exact eff (fun _ _ _ e=>nomatch e) h.1 h.2
        | some q2=>
          obtain ⟨g2,l⟩:=q2
          rw [hl] at h
          cases fs with
          | fn f' caps=>
            obtain ⟨hN,h1,h2⟩:=h
            cases g with
            | false=>
              simp only [Bool.false_eq_true,if_false]
              exact hNx _ _ _ _ _ ⟨ν,hs.put hN rfl,hh⟩ (h2 rfl)
            | true=>
              obtain ⟨⟨rfl,rfl⟩,hc⟩:=h1 rfl
              have e1:=hs.opv hf rfl
              have e2:=argsO_spec hs hl rfl
              have e3:args.map a.eval=(SV.vals ν l).toArray:=by apply Array.ext'; simp [← e2]
              have e4:SV.vals ν (l++caps)=SV.vals ν l++SV.vals ν caps:=by simp [SV.vals_map]
              rcases hc ν a w hs hh with ⟨⟨fn,hfn,hnm,hbd⟩,hcalls⟩ | ⟨v,w',hrun,σ',H',M',hr,hk⟩
              rotate_left
              · have e5:(execOp a.eval ⟨some d,.call ⟨.value f,args,tys⟩,ty,pos,aft,gd⟩).run E.P w = .ok (.value v) w':=by
                 rw [e4] at hrun
                 simp only [execOp,resolve,e1,SV.val,Deferred.ofValue,Sem.run_bind,Sem.run_pure,Result.andThen_ok,invoke,e3]
                 simpa using hrun
                simp only [if_true]
                unfold Oper.wp
                rw [e5]
                exact hNx _ _ _ _ _ hr hk
              have e5:(execOp a.eval ⟨some d,.call ⟨.value f,args,tys⟩,ty,pos,aft,gd⟩).run E.P w = .ok (.enter f' (SV.vals ν (l++caps)).toArray) w:=by
               simp only [execOp,resolve,e1,SV.val,Deferred.ofValue,Sem.run_bind,Sem.run_pure,Result.andThen_ok,invoke,callFunc,run_program,hfn,hnm,hbd,e3,Bool.false_eq_true,if_false]
               rw [e4]
               simp
              simp only [if_true]
              unfold Oper.wp
              rw [e5]
              simp only [Oper.upon]
              refine hcalls.mono fun e w' ⟨v,he,σ',H',M',hr,hk⟩=>?_
              subst he
              exact hNx _ _ _ _ _ hr hk
          | _=>exact eff (fun _ _ _ e=>nomatch e) h.1 h.2
  | invoke r m=>exact eff (fun _ _ _ e=>nomatch e) h.1 h.2
 case convert s t x=>
  replace h:cvK (shp E.P t) (g=true∧OpX E ⟨dst,.convert s t x,ty,pos,aft,gd⟩ K σ H M) (qK E (.convert s t x) g K σ H M dst):=h
  unfold cvK at h
  split at h
  · exact eff (fun _ _ _ e=>nomatch e) h.1 h.2
  · exact quiet' h
 all_goals first
  | exact eff (fun _ _ _ e=>nomatch e) h.1 h.2
  | exact quiet' h

theorem wpR_sound {ops:List Oper} {K:KP} {Q:Exit→Act→World→Prop} (hK : ∀ σ H M a w,Rep E σ H M a w→K σ H M→Q .normal a w) :
  ∀ (rest:List Oper) (σ:Sig) (H:HS) (M:Mem) (a:Act) (w:World),Rep E σ H M a w→wpR E ops K rest σ H M→wpList E.P ops.toArray Q rest a w
 | [],σ,H,M,a,w,hr,h=>hK _ _ _ _ _ hr h
 | o :: rest,σ,H,M,a,w,hr,h=>by
   unfold wpR at h
   split at h
   · exact h.elim
   · rename_i g hg
     obtain ⟨ν,hs,hh⟩:=hr
     refine wpList_step fun K' hK'=>?_
     rw [gd_spec hs hg o rfl]
     exact stepK_sound (fun σ H M a w hr hk=>hK' _ _ (wpR_sound hK rest σ H M a w hr hk)) hs hh h

theorem Rep.keep {live:List Nat} (h:Rep E σ H M a w):Rep E (keep live σ) H M a w:=by
 obtain ⟨ν,hs,hh⟩:=h
 exact ⟨ν,hs.weaken (fun k p hk=>lk_keep hk),hh⟩

end
end Go.X

namespace Go.X
open Go Go.RowKit

section
variable {E:Env} {σ:Sig} {H:HS} {M:Mem} {a:Act} {w:World} {ν:Nat→Value}

theorem opv_bool {c:Operand} {b:Bool} (hr:Rep E σ H M a w) (h:opv σ c=some (true,.v (.bool b))):a.eval c = .bool b:=by
 obtain ⟨ν,hs,_⟩:=hr
 exact hs.opv h rfl

theorem wpC_sound {live:List Nat} : ∀ (c:Code) (Q:QP) (σ:Sig) (H:HS) (M:Mem),wpC E live c Q σ H M → ∀ a w,Rep E σ H M a w→c.wp E.P (Lift E Q) a w
 | .skip,Q,σ,H,M,h,a,w,hr=>wp_skip ⟨σ,H,M,hr,h⟩
 | .ret,Q,σ,H,M,h,a,w,hr=>wp_ret ⟨σ,H,M,hr,h⟩
 | .exit i,Q,σ,H,M,h,a,w,hr=>wp_exit ⟨σ,H,M,hr,h⟩
 | .region id ops draw,Q,σ,H,M,h,a,w,hr=>by
   cases draw with
   | false=>
     refine wp_region_list (ops:=ops) ?_
     have:=wpR_sound (E:=E) (ops:=ops.toList) (K:=fun σ H M=>Q .normal (keep live σ) H M) (Q:=Lift E Q) (fun σ H M a w hr hk=>⟨_,_,_,hr.keep,hk⟩) ops.toList σ H M a w hr h
     simpa using this
   | true=>
     exact Code.wp_mono (fun e a w ⟨he,σ,H,M,hr,hk⟩=>by subst he; exact ⟨_,_,_,hr.keep,hk⟩) (h a w hr)
 | .seq x y,Q,σ,H,M,h,a,w,hr=>by
   refine wp_seq (Code.wp_mono ?_ (wpC_sound x _ σ H M h a w hr))
   rintro e a w ⟨σ,H,M,hr,hq⟩
   cases e <;> first
    | exact wpC_sound y Q σ H M hq a w hr
    | exact ⟨σ,H,M,hr,hq⟩
 | .block i b,Q,σ,H,M,h,a,w,hr=>by
   refine wp_block (Code.wp_mono ?_ (wpC_sound b _ σ H M h a w hr))
   rintro e a w ⟨σ,H,M,hr,hq⟩
   cases e with
   | exit j=>
     simp only [Exit.inBlock]
     simp only at hq
     split
     · rename_i e; rw [if_pos e] at hq; exact ⟨σ,H,M,hr,hq⟩
     · rename_i e; rw [if_neg e] at hq; exact ⟨σ,H,M,hr,hq⟩
   | _=>exact ⟨σ,H,M,hr,hq⟩
 | .cond c t e,Q,σ,H,M,h,a,w,hr=>by
   simp only [wpC] at h
   split at h
   · rename_i b hb
     exact wp_cond_split (opv_bool hr hb) (fun hb=>wpC_sound t Q σ H M (h.1 hb) a w hr) (fun hb=>wpC_sound e Q σ H M (h.2 hb) a w hr)
   · exact h.elim
 | .loop b,Q,σ,H,M,h,a,w,hr=>h a w hr
 | .rangeFunc f p x y,Q,σ,H,M,h,a,w,hr=>h a w hr
 | .scope b,Q,σ,H,M,h,a,w,hr=>h a w hr
 | .label l,Q,σ,H,M,h,a,w,hr=>h a w hr
 | .goto l,Q,σ,H,M,h,a,w,hr=>h a w hr
 | .refuse r,Q,σ,H,M,h,a,w,hr=>h.elim

/-! ### Contracts -/
mutual
def SV.conc:SV→Bool
 | .v _=>true
 | .own _=>false
 | .ptr _ _ _ _=>false
 | .ea _ _ _ _=>true
 | .agg l=>SV.concs l
 | .tup l=>SV.concs l
 | .fn _ l=>SV.concs l
def SV.concs:List SV→Bool
 | []=>true
 | s :: l=>SV.conc s && SV.concs l
end

mutual
theorem SV.conc_val {ν ν':Nat→Value} : ∀ s:SV,s.conc=true→s.val ν'=s.val ν
 | .v _,_=>rfl
 | .own k,hn=>by simp [SV.conc] at hn
 | .ptr k _ _ _,hn=>by simp [SV.conc] at hn
 | .ea _ _ _ _,_=>rfl
 | .agg l,hn=>by simp only [SV.conc] at hn; simp only [SV.val,SV.concs_vals (ν:=ν) (ν':=ν') l hn]
 | .tup l,hn=>by simp only [SV.conc] at hn; simp only [SV.val,SV.concs_vals (ν:=ν) (ν':=ν') l hn]
 | .fn _ l,hn=>by simp only [SV.conc] at hn; simp only [SV.val,SV.concs_vals (ν:=ν) (ν':=ν') l hn]
theorem SV.concs_vals {ν ν':Nat→Value} : ∀ l:List SV,SV.concs l=true→SV.vals ν' l=SV.vals ν l
 | [],_=>rfl
 | s :: l,hn=>by
   simp only [SV.concs,Bool.and_eq_true] at hn
   simp only [SV.vals,SV.conc_val (ν:=ν) (ν':=ν') s hn.1,SV.concs_vals (ν:=ν) (ν':=ν') l hn.2]
end

def ν0:Nat→Value:=fun _=>.bool false

def callable (P:Program) (f:FuncId):Prop:=∃ fn,P.funcs[f]? = some fn∧(fn.name == "runtime.NumGoroutine")=false∧fn.body.isNone=false

abbrev RP:=SV→HS→Mem→Prop

/-- THE CONTRACT of function f at known arguments, in known memory: it returns; what it hands back, and the memory of its own and the known memory behind it, are as R says; nothing that was there has changed. -/
def Meets (P:Program) (f:FuncId) (args:List SV) (M:Mem) (R:RP):Prop:=
 callable P f ∧ ∀ w,M.on w→Calls P f (SV.vals ν0 args).toArray w fun e w'=>∃ s H' M' ν,e = .returned (s.val ν)∧Heap ⟨P,0,w,M⟩ ν H' M' w'∧R s H' M'

theorem Meets.mono {P:Program} {f:FuncId} {args:List SV} {M:Mem} {R R':RP} (h:Meets P f args M R) (hr : ∀ s H M',M.le M'→R s H M'→R' s H M'):Meets P f args M R':=
 ⟨h.1,fun w hw=>(h.2 w hw).mono fun _ _ ⟨s,H',M',ν,he,hh,hR⟩=>⟨s,H',M',ν,he,hh,hr _ _ _ hh.le0 hR⟩⟩

def rsv1 (P:Program) (σ:Sig) (H:HS) (M:Mem):ResultVar→Option (SV×Prop)
 | .tmp t=>match lk σ t with
   | some (true,s)=>some (s,True)
   | _=>none
 | .cell ad t=>match lk σ ad with
   | some (true,s)=>some (ld H M (lay (shp P t)) s)
   | _=>none
def rsvs (P:Program) (σ:Sig) (H:HS) (M:Mem):List ResultVar→Option (List SV×Prop)
 | []=>some ([],True)
 | r :: l=>match rsv1 P σ H M r,rsvs P σ H M l with
   | some (s,C),some (ss,D)=>some (s :: ss,C∧D)
   | _,_=>none
def one? : List SV→SV
 | [s]=>s
 | l=>.tup l
def RetK (P:Program) (rs:List ResultVar) (R:RP):QP:=fun e σ H M=>
 match e with
 | .ret=>match rsvs P σ H M rs with
   | some (ss,C)=>C∧R (one? ss) H M
   | none=>False
 | .normal=>match rsvs P σ H M rs with
   | some (ss,C)=>C∧R (one? ss) H M
   | none=>False
 | _=>False

theorem ld_ea_some {n:Nat} {g:Bool} {x:Value} {sz i off:Nat} (h:(ld H M (some (n,g)) (.ea x sz i off)).2):someV x=true:=by
 have key : ∀ o,okE M x sz i o→someV x=true:=by
  intro o ho
  unfold okE cellE at ho
  split at ho
  · rfl
  · simp at ho
 cases g with
 | false=>exact key off h
 | true=>
   cases n with
   | zero=>exact absurd rfl h.1
   | succ n=>exact key off h.2.1

def rvS (a:Act):ResultVar→Sem Value
 | .tmp t=>pure (a.tmps.getD t undef)
 | .cell ad t=>do loadVar t (← asAddr (a.tmps.getD ad undef))

theorem rsv1_sound {P:Program} {r:ResultVar} {s:SV} {C:Prop} (hs:Slots E.N ν σ a) (hh:Heap E ν H M w) (h:rsv1 P σ H M r=some (s,C)) (hC:C) :
  (rvS a r).run P w = .ok (s.val ν) w:=by
 cases r with
 | tmp t=>
   simp only [rsv1] at h
   split at h
   · rename_i s' hl
     simp only [Option.some.injEq,Prod.mk.injEq] at h
     obtain ⟨rfl,_⟩:=h
     have:=hs.opv (x:=.tmp t) hl rfl
     simp only [Act.eval] at this
     simp only [rvS,this,Sem.run_pure]
   · cases h
 | cell ad t=>
   simp only [rsv1] at h
   split at h
   · rename_i s' hl
     simp only [Option.some.injEq] at h
     have h1:(ld H M (lay (shp P t)) s').1=s:=by rw [h]
     have h2:(ld H M (lay (shp P t)) s').2:=by rw [h]; exact hC
     have:=hs.opv (x:=.tmp ad) hl rfl
     simp only [Act.eval] at this
     cases hl2:lay (shp P t) with
     | none=>
       rw [hl2] at h2
       unfold ld at h2
       split at h2
       · unfold ldK at h2
         split at h2
         · exact h2.2.elim
         · exact h2.2.elim
         · exact h2.elim
         · exact h2.2.elim
         · exact h2.elim
       · exact h2.elim
       · exact h2.elim
       · exact h2.elim
     | some p=>
       obtain ⟨n,g⟩:=p
       rw [hl2] at h1 h2
       have hld:=ld_sound (P:=P) hh hl2 h2
       rw [h1] at hld
       simp only [rvS,this]
       have ha : ∃ ad',s'.val ν = .pointer (some ad'):=by
        cases s' with
        | v x=>
          cases x with
          | pointer p=>cases p with
            | some ad'=>exact ⟨ad',rfl⟩
            | none=>exact h2.elim
          | _=>exact h2.elim
        | ptr k sz i off=>exact ⟨_,rfl⟩
        | ea x sz i off=>
          have hsome:=ld_ea_some h2
          cases x with
          | slice ad' n c=>cases ad' with
            | some ad'=>exact ⟨_,rfl⟩
            | none=>simp [someV] at hsome
          | _=>simp [someV] at hsome
        | _=>exact h2.elim
       obtain ⟨ad',ha⟩:=ha
       rw [ha] at hld ⊢
       simpa only [Instr.loadAt,Instr.sureAddr,asAddr,Sem.run_bind,Sem.run_pure,Result.andThen_ok] using hld
   · cases h

theorem rsvs_sound {P:Program} (hs:Slots E.N ν σ a) (hh:Heap E ν H M w) : ∀ {l:List ResultVar} {ss:List SV} {C:Prop},rsvs P σ H M l=some (ss,C)→C →
  (l.mapM (rvS a)).run P w = .ok (SV.vals ν ss) w
 | [],ss,C,h,_=>by simp only [rsvs,Option.some.injEq,Prod.mk.injEq] at h; obtain ⟨rfl,_⟩:=h; rfl
 | r :: l,ss,C,h,hC=>by
   simp only [rsvs] at h
   split at h
   · rename_i s C1 ss' C2 h1 h2
     simp only [Option.some.injEq,Prod.mk.injEq] at h
     obtain ⟨rfl,rfl⟩:=h
     simp only [List.mapM_cons,Sem.run_bind,rsv1_sound hs hh h1 hC.1,Result.andThen_ok,rsvs_sound hs hh h2 hC.2,Sem.run_pure,SV.vals]
   · cases h

theorem results_sound {P:Program} {fn:Func} {ss:List SV} {C:Prop} (hs:Slots E.N ν σ a) (hh:Heap E ν H M w) (h:rsvs P σ H M fn.results.toList=some (ss,C)) (hC:C) :
  (results fn a.tmps).run P w = .ok ((one? ss).val ν) w:=by
 unfold results
 rw [Array.mapM_eq_mapM_toList]
 have:=rsvs_sound hs hh h hC
 have key : ∀ F:ResultVar→Sem Value,F=rvS a→(do let vs ← List.toArray <$> List.mapM F fn.results.toList; pure (if h:vs.size=1 then vs[0] else Value.tuple vs):Sem Value).run P w = .ok ((one? ss).val ν) w:=by
  intro F hF
  subst hF
  simp only [Sem.run_bind,Sem.run_map,this,Result.andThen_ok,Sem.run_pure]
  congr 1
  match ss with
  | []=>rfl
  | [s]=>rfl
  | s :: t :: r=>simp [one?,SV.val,SV.vals]
 exact key _ (by funext r; cases r <;> rfl)

def params (N:Nat):Nat→List SV→Sig
 | _,[]=>[]
 | k,s :: l=>(k,true,s) :: params N (k+1) l

theorem lk_params {N:Nat} : ∀ {l:List SV} {k j:Nat} {p:Bool×SV},lk (params N k l) j=some p → ∃ i,j=k+i∧p.1=true∧l[i]? = some p.2
 | [],k,j,p,h=>by simp [params,lk] at h
 | s :: l,k,j,p,h=>by
   simp only [params,lk] at h
   split at h
   · rename_i e
     simp only [Option.some.injEq] at h
     subst h
     exact ⟨0,by omega,rfl,rfl⟩
   · obtain ⟨i,h1,h2,h3⟩:=lk_params h
     exact ⟨i+1,by omega,h2,by simpa using h3⟩

def okFn (fn:Func) (n:Nat):Bool:=(!(fn.name == "runtime.NumGoroutine") && !fn.body.isNone) && decide (n≤fn.ntmps)
/-- **A FUNCTION MEETS ITS CONTRACT IF WHAT IS RECKONED OF ITS BODY HOLDS.** -/
theorem Meets.of_body {P:Program} {f:FuncId} {fn:Func} {c:Code} {args:List SV} {M:Mem} {R:RP} (live:List Nat) (hf:P.funcs[f]? = some fn) (hb:fn.body=some c)
  (hn:okFn fn args.length=true) (hc:SV.concs args=true)
  (h : ∀ w,wpC ⟨P,fn.ntmps,w,M⟩ live c (RetK P fn.results.toList R) (params fn.ntmps 0 args) [] M):Meets P f args M R:=by
 simp only [okFn,Bool.and_eq_true,Bool.not_eq_true',decide_eq_true_eq] at hn
 refine ⟨⟨fn,hf,hn.1.1,hn.1.2⟩,fun w hw=>?_⟩
 refine calls_of_wp hf hb ?_
 have hlen:(SV.vals ν0 args).length=args.length:=by rw [SV.vals_map]; simp
 refine Code.wp_mono ?_ (wpC_sound c _ _ _ _ (h w) _ w ⟨ν0,⟨?_,rfl,?_⟩,⟨by simp,List.nodup_nil,by simp [fp],hw,Below.refl _ _,Mem.le.refl _,fun b hb=>.inl hb,fun k=>rfl⟩⟩)
 · rintro e a w' ⟨σ,H,M',⟨ν,hs,hh⟩,hq⟩
   have key:(match rsvs P σ H M' fn.results.toList with | some (ss,C)=>C∧R (one? ss) H M' | none=>False)→a.defers=[] ∧ ∃ v,(results fn a.tmps).run P w' = .ok v w' ∧ ∃ s H' M' ν,Ending.returned v = .returned (s.val ν)∧Heap ⟨P,0,w,M⟩ ν H' M' w'∧R s H' M':=by
    intro hq
    split at hq
    · rename_i ss C hr
      exact ⟨hs.2.1,_,results_sound hs hh hr hq.1,_,_,_,ν,rfl,⟨hh.holds,hh.nodup,hh.apart,hh.mem,hh.below,hh.le0,hh.fresh,hh.one⟩,hq.2⟩
    · exact hq.elim
   cases e with
   | normal=>exact key hq
   | ret=>exact key hq
   | _=>exact hq.elim
 · simp only [Array.size_append,List.size_toArray,Array.size_replicate,hlen]; omega
 · intro k g s hk
   obtain ⟨i,rfl,hg,hi⟩:=lk_params hk
   simp only at hg hi
   subst hg
   have hlt:i < args.length:=(List.getElem?_eq_some_iff.1 hi).1
   rw [Array.getElem?_append_left (by simp only [List.size_toArray,hlen]; omega),List.getElem?_toArray,SV.vals_map,List.getElem?_map,Nat.zero_add,hi]
   rfl

end
end Go.X

namespace Go.X
open Go Go.RowKit

section
variable {E:Env} {σ:Sig} {H:HS} {M:Mem} {a:Act} {w:World} {ν:Nat→Value}

/-! what simp is not to enter -/
@[congr] theorem wpC_congr {E:Env} {live:List Nat} {c:Code} {Q:QP} {σ σ':Sig} {H H':HS} {M:Mem} (h:σ=σ') (h':H=H'):wpC E live c Q σ H M=wpC E live c Q σ' H' M:=by rw [h,h']
@[congr] theorem wpR_congr {E:Env} {ops:List Oper} {K:KP} {l:List Oper} {σ σ':Sig} {H H':HS} {M:Mem} (h:σ=σ') (h':H=H'):wpR E ops K l σ H M=wpR E ops K l σ' H' M:=by rw [h,h']
@[congr] theorem stepK_congr {E:Env} {o:Oper} {g g':Bool} {K:KP} {σ σ':Sig} {H H':HS} {M:Mem} (hg:g=g') (h:σ=σ') (h':H=H'):stepK E o g K σ H M=stepK E o g' K σ' H' M:=by rw [hg,h,h']
@[congr] theorem OpK_congr {E:Env} {o:Oper} {K:KP} {σ σ':Sig} {H H':HS} {M:Mem} (h:σ=σ') (h':H=H'):OpK E o K σ H M=OpK E o K σ' H' M:=by rw [h,h']
@[congr] theorem CallK_congr {E:Env} {f d:Nat} {l l':List SV} {K:KP} {σ σ':Sig} {H H':HS} {M:Mem} (hl:l=l') (h:σ=σ') (h':H=H'):CallK E f l d K σ H M=CallK E f l' d K σ' H' M:=by rw [hl,h,h']
@[congr] theorem LoopK_congr {E:Env} {live:List Nat} {b:Code} {Q:QP} {σ σ':Sig} {H H':HS} {M:Mem} (h:σ=σ') (h':H=H'):LoopK E live b Q σ H M=LoopK E live b Q σ' H' M:=by rw [h,h']
@[congr] theorem CodeK_congr {E:Env} {b:Code} {Q:QP} {σ σ':Sig} {H H':HS} {M:Mem} (h:σ=σ') (h':H=H'):CodeK E b Q σ H M=CodeK E b Q σ' H' M:=by rw [h,h']
@[congr] theorem DrawK_congr {E:Env} {i:Nat} {ops:Array Oper} {K:KP} {σ σ':Sig} {H H':HS} {M:Mem} (h:σ=σ') (h':H=H'):DrawK E i ops K σ H M=DrawK E i ops K σ' H' M:=by rw [h,h']

/-! ### Loops -/
/-- what is known in the second state is known in the first -/
def Ent (E:Env) (σ:Sig) (H:HS) (M:Mem) (S:Sig×HS×Mem):Prop:=∀ a w,Rep E σ H M a w→Rep E S.1 S.2.1 S.2.2 a w

theorem LoopK.intro {live:List Nat} {body:Code} {Q:QP} {X:Type} (S:X→Sig×HS×Mem) (I:X→Prop) (m:X→Nat) (x0:X) (h0:I x0) (hent:Ent E σ H M (S x0))
  (hr : ∀ x,I x→wpC E live body (fun e σ' H' M'=>match e with | .normal=>∃ x',(I x'∧m x' < m x)∧Ent E σ' H' M' (S x') | e=>Q e σ' H' M') (S x).1 (S x).2.1 (S x).2.2):LoopK E live body Q σ H M:=by
 intro a w hrep b k cs
 have key : ∀ n x,m x=n→I x → ∀ a w,Rep E (S x).1 (S x).2.1 (S x).2.2 a w →
   ∃ e a' w',Lift E Q e a' w'∧Arrives E.P (lone (b.at a (.code body :: .inLoop body :: k)) cs w) b k cs e a' w':=by
  intro n
  induction n using Nat.strongRecOn with
  | _ n ih=>
    intro x hm hI a w hrep
    obtain ⟨e,a₁,w₁,⟨σ',H',M',hrep',hq⟩,harr⟩:=wpC_sound body _ _ _ _ (hr x hI) a w hrep b (.inLoop body :: k) cs
    cases e with
    | normal=>
      obtain ⟨x',⟨hI',hlt⟩,hent'⟩:=hq
      obtain ⟨e₂,a₂,w₂,hq₂,harr₂⟩:=ih (m x') (hm ▸ hlt) x' rfl hI' a₁ w₁ (hent' _ _ hrep')
      exact ⟨e₂,a₂,w₂,hq₂,.of_steps (Steps.trans harr (.one step_inLoop)) harr₂⟩
    | exit id=>exact ⟨_,a₁,w₁,⟨σ',H',M',hrep',hq⟩,.pass (x:=.inLoop body) rfl (fun _ _=>.inl (by simp)) harr⟩
    | goto l=>exact ⟨_,a₁,w₁,⟨σ',H',M',hrep',hq⟩,.pass (x:=.inLoop body) rfl (fun _ _=>.inl (by simp)) harr⟩
    | ret=>exact ⟨_,a₁,w₁,⟨σ',H',M',hrep',hq⟩,.pass (x:=.inLoop body) rfl (fun _ _=>.inl (by simp)) harr⟩
    | panic ch=>exact ⟨_,a₁,w₁,⟨σ',H',M',hrep',hq⟩,.pass (x:=.inLoop body) rfl (fun _ _=>.inl (by simp)) harr⟩
    | outgrown=>exact ⟨_,a₁,w₁,⟨σ',H',M',hrep',hq⟩,.pass (x:=.inLoop body) rfl (fun _ _=>.inl (by simp)) harr⟩
 obtain ⟨e,a',w',hq,harr⟩:=key _ x0 rfl h0 a w (hent a w hrep)
 exact ⟨e,a',w',hq,.of_steps (.one step_loop) harr⟩

/-! weakening, by looking -/
def subS (σ:Sig):Sig→Prop
 | []=>True
 | (k,p) :: r=>lk σ k=some p∧subS σ r
theorem subS_lk {σ':Sig} (h:subS σ σ') {k:Nat} {p:Bool×SV} (hk:lk σ' k=some p):lk σ k=some p:=by
 induction σ' with
 | nil=>simp [lk] at hk
 | cons q σ' ih=>
   obtain ⟨j,q⟩:=q
   simp only [lk] at hk
   split at hk
   · rename_i e; subst e; simp only [Option.some.injEq] at hk; subst hk; exact h.1
   · exact ih h.2 hk
def subH (H:HS):HS→Prop
 | []=>True
 | (k,p) :: r=>(hget H k=some p∧hget r k=none)∧subH H r
theorem subH_mem {H':HS} (h:subH H H') : ∀ q ∈ H',hget H q.1=some q.2:=by
 induction H' with
 | nil=>simp
 | cons q r ih=>
   intro p hp
   rcases List.mem_cons.1 hp with rfl | hp
   · exact h.1.1
   · exact ih h.2 p hp
theorem hget_none {H':HS} {k:Nat} (h:hget H' k=none) : ∀ q ∈ H',q.1≠k:=by
 induction H' with
 | nil=>simp
 | cons q r ih=>
   obtain ⟨j,q⟩:=q
   simp only [hget] at h
   split at h
   · cases h
   · rename_i e
     intro p hp
     rcases List.mem_cons.1 hp with rfl | hp
     · exact fun h=>e h.symm
     · exact ih h p hp

theorem Heap.sub (hh:Heap E ν H M w) {H':HS} (hs:subH H H') {M':Mem} (hM:M'.le M) (h0:E.M0.le M'):Heap E ν H' M' w:=by
 have hm:=subH_mem hs
 have hfp : ∀ b ∈ fp ν H',b ∈ fp ν H:=by
  intro b hb
  obtain ⟨q,hq,hb⟩:=List.mem_filterMap.1 hb
  exact List.mem_filterMap.2 ⟨q,hget_mem (hm q hq),hb⟩
 refine ⟨fun p hp=>hh.holds p (hget_mem (hm p hp)),?_,fun b hb=>?_,fun b o h=>hh.mem b o (hM b o h),hh.below,h0,fun b hb=>hh.fresh b ?_,hh.one⟩
 · clear hfp
   induction H' with
   | nil=>exact List.nodup_nil
   | cons q r ih=>
     obtain ⟨⟨h1,h2⟩,h3⟩:=hs
     have ih:=ih h3 (fun p hp=>hm p (List.mem_cons_of_mem _ hp))
     show (List.filterMap _ _).Nodup
     rw [List.filterMap_cons]
     split
     · exact ih
     · rename_i b hb
       refine List.nodup_cons.2 ⟨fun hmem=>?_,ih⟩
       obtain ⟨p,hp,hb'⟩:=List.mem_filterMap.1 hmem
       exact blk_ne hh h1 hb p (hget_mem (hm p (List.mem_cons_of_mem _ hp))) (hget_none h2 p hp) hb'
 · obtain ⟨h1,h2⟩:=hh.apart b (hfp b hb)
   refine ⟨?_,h2⟩
   cases hb':M' b with
   | none=>rfl
   | some o=>rw [hM b o hb'] at h1; cases h1
 · intro h
   cases hb':M' b with
   | none=>exact hb hb'
   | some o=>rw [hM b o hb'] at h; cases h

theorem Ent.of {S:Sig×HS×Mem} (h:(subS σ S.1∧subH H S.2.1)∧S.2.2=M):Ent E σ H M S:=by
 obtain ⟨⟨h1,h2⟩,h3⟩:=h
 rintro a w ⟨ν,hs,hh⟩
 exact ⟨ν,hs.weaken (fun k p hk=>subS_lk h1 hk),by rw [h3]; exact hh.sub h2 (Mem.le.refl _) hh.le0⟩

theorem Ent.of_le {S:Sig×HS×Mem} (h:(subS σ S.1∧subH H S.2.1)) (h3:S.2.2.le M) (h4:E.M0.le S.2.2):Ent E σ H M S:=by
 obtain ⟨h1,h2⟩:=h
 rintro a w ⟨ν,hs,hh⟩
 exact ⟨ν,hs.weaken (fun k p hk=>subS_lk h1 hk),hh.sub h2 h3 h4⟩

/-! ### Calls by contract -/
theorem Heap.call {P:Program} {M':Mem} {w':World} {ν':Nat→Value} {H':HS} (hh:Heap E ν H M w) (hc:Heap ⟨P,0,w,M⟩ ν' H' M' w'):Heap E ν H M' w':=by
 have hb:Below w.heap.size w w':=hc.below
 have h:=hh.grow hb
 refine ⟨h.holds,h.nodup,fun b hb'=>?_,hc.mem,h.below,h.le0.trans hc.le0,fun b hb'=>?_,h.one⟩
 · obtain ⟨h1,h2⟩:=hh.apart b hb'
   refine ⟨?_,h2⟩
   cases hM:M' b with
   | none=>rfl
   | some o=>
     rcases hc.fresh b (by rw [hM]; simp) with h3 | h3
     · exact absurd h1 h3
     · have:=hh.fp_lt hb'; simp only at h3; omega
 · rcases hc.fresh b hb' with h3 | h3
   · exact hh.fresh b h3
   · exact .inr (Nat.le_trans hh.below.size h3)

/-- A call whose result is plain: no memory of it is kept. -/
theorem CallK.plain {f d:Nat} {l:List SV} {K:KP} {R:RP} (hl:SV.concs l=true) (hd:decide (d < E.N)=true) (h:Meets E.P f l M R)
  (hk : ∀ s H' M',M.le M'→R s H' M'→s.conc=true∧K ((d,true,s) :: σ) H M'):CallK E f l d K σ H M:=by
 intro ν a w hs hh
 refine .inl ⟨h.1,?_⟩
 rw [SV.concs_vals (ν:=ν0) (ν':=ν) l hl]
 refine (h.2 w hh.mem).mono ?_
 rintro e w' ⟨s,H',M',ν',rfl,hh',hR⟩
 obtain ⟨hc,hK⟩:=hk s H' M' hh'.le0 hR
 refine ⟨_,rfl,_,_,_,⟨ν,?_,hh.call hh'⟩,hK⟩
 exact hs.put (of_decide_eq_true hd) (by rw [SV.conc_val (ν:=ν) (ν':=ν') s hc]; rfl)

/-- .. and is a known value: what is known of memory stays as it is. -/
theorem CallK.pure {f d:Nat} {l:List SV} {K:KP} {s:SV} (hl:SV.concs l=true∧s.conc=true) (hd:decide (d < E.N)=true) (h:Meets E.P f l M (fun s' _ _=>s'=s)) (hk:K ((d,true,s) :: σ) H M):CallK E f l d K σ H M:=by
 intro ν a w hs hh
 refine .inl ⟨h.1,?_⟩
 rw [SV.concs_vals (ν:=ν0) (ν':=ν) l hl.1]
 refine (h.2 w hh.mem).mono ?_
 rintro e w' ⟨s',H',M',ν',rfl,hh',rfl⟩
 refine ⟨_,rfl,_,_,_,⟨ν,?_,hh.grow hh'.below⟩,hk⟩
 exact hs.put (of_decide_eq_true hd) (by rw [SV.conc_val (ν:=ν) (ν':=ν') s' hl.2]; rfl)

/-! ### Regions that draw their order: quiet operations and pure calls -/
def callQ (E:Env) (f:Nat) (l:List SV) (M:Mem) (s:SV):Prop:=(SV.concs l=true∧s.conc=true)∧Meets E.P f l M (fun s' _ _=>s'=s)
@[congr] theorem callQ_congr {E:Env} {f:Nat} {l l':List SV} {M:Mem} {s s':SV} (h:l=l') (h':s=s'):callQ E f l M s=callQ E f l' M s':=by rw [h,h']

def stepQ (E:Env) (o:Oper) (g:Bool) (K:KP) (σ:Sig) (H:HS) (M:Mem):Prop:=
 match o.op with
 | .call c=>match c.callee with
   | .builtin b=>match b with
     | .len | .min | .max=>qK E o.op g K σ H M o.dst
     | _=>False
   | .value f=>match o.dst,opv σ f,argsO σ c.args.toList with
     | some d,some (g1,.fn f caps),some (g2,l)=>d < E.N ∧ ∃ s,(g=true→(g1=true∧g2=true)∧callQ E f (l++caps) M s)∧K ((d,g,s) :: σ) H M
     | _,_,_=>False
   | .invoke _ _=>False
 | .move _ | .assign _ | .pick _ _ _ | .build _ _ | .load _ _ | .nilCheck _ | .binOp _ _ _ _ _ | .unOp _ _ _ | .convert _ _ _ | .slice _ _ _ _ _ | .fieldAddr _ _ _ | .field _ _ _
 | .indexAddr _ _ _ | .index _ _ _ | .extract _ _=>qK E o.op g K σ H M o.dst
 | _=>False
@[congr] theorem stepQ_congr {E:Env} {o:Oper} {g g':Bool} {K:KP} {σ σ':Sig} {H H':HS} {M:Mem} (hg:g=g') (h:σ=σ') (h':H=H'):stepQ E o g K σ H M=stepQ E o g' K σ' H' M:=by rw [hg,h,h']

def wpQ (E:Env) (ops:List Oper) (K:KP):List Oper→Sig→HS→Mem→Prop
 | [],σ,H,M=>K σ H M
 | o :: rest,σ,H,M=>match gdOf ops σ o.guard with
   | none=>False
   | some g=>stepQ E o g (wpQ E ops K rest) σ H M
@[congr] theorem wpQ_congr {E:Env} {ops:List Oper} {K:KP} {l:List Oper} {σ σ':Sig} {H H':HS} {M:Mem} (h:σ=σ') (h':H=H'):wpQ E ops K l σ H M=wpQ E ops K l σ' H' M:=by rw [h,h']

theorem stepQ_sound {o:Oper} {g:Bool} {K:KP} {Nx:Act→Prop} (hNx : ∀ σ a,Slots E.N ν σ a→K σ H M→Nx a)
  (hs:Slots E.N ν σ a) (h:stepQ E o g K σ H M) (C:World→Prop) (hC : ∀ w,C w→Heap E ν H M w) (hC2 : ∀ w w',C w→Below w.heap.size w w'→C w') (w0:World) (hw0:C w0):if g then o.quiet E.P a C Nx else Nx (a.put o.dst undef):=by
 have quiet' : ∀ (op:Op) (d:Option Nat),o.op=op→o.dst=d→qK E op g K σ H M d→if g then o.quiet E.P a C Nx else Nx (a.put o.dst undef):=by
  intro op d ho hd hq
  subst ho
  cases d with
  | none=>exact hq.elim
  | some d=>
    obtain ⟨⟨hN,h1⟩,hK⟩:=hq
    rw [hd]
    cases g with
    | true=>
      obtain ⟨hg,hc⟩:=h1 rfl
      simp only [if_true]
      refine ⟨(pev E.P H M σ o.op).2.1.val ν,fun w hw=>?_,?_⟩
      · unfold Oper.quietAt
        rw [pev_sound hs (hC w hw) o hg hc]
        exact ⟨rfl,rfl⟩
      · rw [hd]; exact hNx _ _ (hs.put hN rfl) hK
    | false=>
      simp only [Bool.false_eq_true,if_false]
      exact hNx _ _ (hs.put hN rfl) hK
 obtain ⟨dst,op,ty,pos,aft,gd⟩:=o
 cases op
 case call c=>
  obtain ⟨callee,args,tys⟩:=c
  cases callee with
  | builtin b=>
    cases b <;> first
     | exact h.elim
     | exact quiet' _ _ rfl rfl h
  | value f=>
    simp only [stepQ] at h
    cases dst with
    | none=>exact h.elim
    | some d=>
      cases hf:opv σ f with
      | none=>rw [hf] at h; exact h.elim
      | some q=>
        obtain ⟨g1,fs⟩:=q
        rw [hf] at h
        cases hl:argsO σ args.toList with
        | none=>rw [hl] at h; cases fs <;> exact h.elim
        | some q2=>
          obtain ⟨g2,l⟩:=q2
          rw [hl] at h
          cases fs with
          | fn f' caps=>
            obtain ⟨hN,s,h1,hK⟩:=h
            cases g with
            | false=>
              simp only [Bool.false_eq_true,if_false]
              exact hNx _ _ (hs.put hN rfl) hK
            | true=>
              obtain ⟨⟨rfl,rfl⟩,⟨hcl,hcs⟩,⟨fn,hfn,hnm,hbd⟩,hcalls⟩:=h1 rfl
              have e1:=hs.opv hf rfl
              have e2:=argsO_spec hs hl rfl
              have e3:args.map a.eval=(SV.vals ν l).toArray:=by apply Array.ext'; simp [← e2]
              have e4:SV.vals ν (l++caps)=SV.vals ν l++SV.vals ν caps:=by simp [SV.vals_map]
              simp only [if_true]
              refine ⟨s.val ν,fun w hw=>?_,hNx _ _ (hs.put hN rfl) hK⟩
              have e5:(execOp a.eval ⟨some d,.call ⟨.value f,args,tys⟩,ty,pos,aft,gd⟩).run E.P w = .ok (.enter f' (SV.vals ν (l++caps)).toArray) w:=by
               simp only [execOp,resolve,e1,SV.val,Deferred.ofValue,Sem.run_bind,Sem.run_pure,Result.andThen_ok,invoke,callFunc,run_program,hfn,hnm,hbd,e3,Bool.false_eq_true,if_false]
               rw [e4]
               simp
              unfold Oper.quietAt
              rw [e5]
              refine ⟨rfl,?_⟩
              rw [SV.concs_vals (ν:=ν0) (ν':=ν) _ hcl]
              refine (hcalls w (hC w hw).mem).mono ?_
              rintro e w' ⟨s',H',M',ν',rfl,hh',rfl⟩
              exact ⟨by rw [SV.conc_val (ν:=ν) (ν':=ν') s' hcs],hC2 w w' hw hh'.below⟩
          | _=>exact h.elim
  | invoke r m=>exact h.elim
 all_goals first
  | exact h.elim
  | exact quiet' _ _ rfl rfl h

theorem wpQ_sound {ops:List Oper} {K:KP} {Nx:Act→Prop} (hNx : ∀ σ a,Slots E.N ν σ a→K σ H M→Nx a) (C:World→Prop) (hC : ∀ w,C w→Heap E ν H M w) (hC2 : ∀ w w',C w→Below w.heap.size w w'→C w') (w0:World) (hw0:C w0) :
  ∀ (rest:List Oper) (σ:Sig) (a:Act),Slots E.N ν σ a→wpQ E ops K rest σ H M→wpQuiet E.P ops.toArray C Nx rest a
 | [],σ,a,hs,h=>hNx _ _ hs h
 | o :: rest,σ,a,hs,h=>by
   unfold wpQ at h
   split at h
   · exact h.elim
   · rename_i g hg
     refine wpQuiet_step fun K' hK'=>?_
     rw [gd_spec hs hg o rfl]
     exact stepQ_sound (fun σ a hs hk=>hK' _ (wpQ_sound hNx C hC hC2 w0 hw0 rest σ a hs hk)) hs h C hC hC2 w0 hw0

theorem DrawK.quiet {id:Nat} {ops:Array Oper} {K:KP} (hm:E.P.follows .mixedOrders=true) (hB:Region.lexB .any ops=true) (h:wpQ E ops.toList K ops.toList σ H M):DrawK E id ops K σ H M:=by
 rintro a w ⟨ν,hs,hh⟩
 refine wp_region_quiet (C:=fun w'=>Heap E ν H M w') hm hB (hh.grow ((Below.refl _ _).drew)) ?_
 have:=wpQ_sound (E:=E) (ops:=ops.toList) (K:=K) (Nx:=fun a'=>∀ w',Heap E ν H M w'→(fun e a w=>e=Exit.normal ∧ ∃ σ H M,Rep E σ H M a w∧K σ H M) .normal a' w')
  (fun σ a hs hk w' hw'=>⟨rfl,σ,H,M,⟨ν,hs,hw'⟩,hk⟩) (fun w'=>Heap E ν H M w') (fun _ h=>h) (fun w w' h hb=>h.grow hb) w hh ops.toList σ a hs h
 simpa using this

end
end Go.X

namespace Go.X
open Go Go.RowKit

def keepC:Option (Bool×SV)→Nat→Sig→Sig
 | some p,k,r=>(k,p) :: r
 | none,_,r=>r
theorem keep_nil (σ:Sig):keep [] σ=[]:=rfl
theorem keep_cons (k:Nat) (ks:List Nat) (σ:Sig):keep (k :: ks) σ=keepC (lk σ k) k (keep ks σ):=by
 simp only [keep]; cases lk σ k <;> rfl

def o1c:Option (Bool×SV)→(SV→SV×Prop)→Bool×SV×Prop
 | some (g,s),f=>(g,f s)
 | none,_=>(true,bad)
theorem o1_ev (σ:Sig) (x:Operand) (f:SV→SV×Prop):o1 σ x f=o1c (opv σ x) f:=by
 unfold o1; cases opv σ x <;> rfl
def o2c:Option (Bool×SV)→Option (Bool×SV)→(SV→SV→SV×Prop)→Bool×SV×Prop
 | some (g,s),some (g',t),f=>(g && g',f s t)
 | some _,none,_=>(true,bad)
 | none,_,_=>(true,bad)
theorem o2_ev (σ:Sig) (x y:Operand) (f:SV→SV→SV×Prop):o2 σ x y f=o2c (opv σ x) (opv σ y) f:=by
 unfold o2; cases opv σ x <;> cases opv σ y <;> rfl
def o3c:Option (Bool×SV)→Option (Bool×SV)→Option (Bool×SV)→(SV→SV→SV→SV×Prop)→Bool×SV×Prop
 | some (g,s),some (g',t),some (g'',u),f=>(g && (g' && g''),f s t u)
 | some _,some _,none,_=>(true,bad)
 | some _,none,_,_=>(true,bad)
 | none,_,_,_=>(true,bad)
theorem o3_ev (σ:Sig) (x y z:Operand) (f:SV→SV→SV→SV×Prop):o3 σ x y z f=o3c (opv σ x) (opv σ y) (opv σ z) f:=by
 unfold o3; cases opv σ x <;> cases opv σ y <;> cases opv σ z <;> rfl
def o4c:Option (Bool×SV)→Option (Bool×SV)→Option (Bool×SV)→Option (Bool×SV)→(SV→SV→SV→SV→SV×Prop)→Bool×SV×Prop
 | some (g,s),some (g',t),some (g'',u),some (g3,v),f=>(g && (g' && (g'' && g3)),f s t u v)
 | some _,some _,some _,none,_=>(true,bad)
 | some _,some _,none,_,_=>(true,bad)
 | some _,none,_,_,_=>(true,bad)
 | none,_,_,_,_=>(true,bad)
theorem o4_ev (σ:Sig) (x y z u:Operand) (f:SV→SV→SV→SV→SV×Prop):o4 σ x y z u f=o4c (opv σ x) (opv σ y) (opv σ z) (opv σ u) f:=by
 unfold o4; cases opv σ x <;> cases opv σ y <;> cases opv σ z <;> cases opv σ u <;> rfl
theorem slice3_ev (e sz:Nat) (g:Bool) (y:Value) (a b c:IntKind) (i j k:Int):slice3SV (.slice e sz g) (.v y) (.v (.int a i)) (.v (.int b j)) (.v (.int c k))=(.v (subV3 y sz i.toNat j.toNat k.toNat),isSl y=true∧(0≤i∧i≤j)∧j≤k∧k≤capV y):=rfl
def pickC:Option (Bool×SV)→Option (Bool×SV)→Option (Bool×SV)→Bool×SV×Prop
 | some (g,.v (.bool c)),some (ga,a),some (gb,b)=>(g,pickSV c a b,(c=true→ga=true)∧(c=false→gb=true))
 | _,_,_=>(true,bad)
def partC:Nat→Option (Bool×SV)→Option (Bool×List (Nat×SV))→Option (Bool×List (Nat×SV))
 | i,some (g,s),some (g',l)=>some (g && g',(i,s) :: l)
 | _,some _,none=>none
 | _,none,_=>none
theorem partsO_nil (σ:Sig):partsO σ []=some (true,[]):=rfl
theorem partsO_cons (σ:Sig) (i:Nat) (x:Operand) (r:List (Nat×Operand)):partsO σ ((i,x) :: r)=partC i (opv σ x) (partsO σ r):=by
 simp only [partsO]; cases opv σ x <;> cases partsO σ r <;> rfl
def argC:Option (Bool×SV)→Option (Bool×List SV)→Option (Bool×List SV)
 | some (g,s),some (g',l)=>some (g && g',s :: l)
 | some _,none=>none
 | none,_=>none
theorem argsO_nil (σ:Sig):argsO σ []=some (true,[]):=rfl
theorem argsO_cons (σ:Sig) (x:Operand) (r:List Operand):argsO σ (x :: r)=argC (opv σ x) (argsO σ r):=by
 simp only [argsO]; cases opv σ x <;> cases argsO σ r <;> rfl
def buildC (S:Shp) (z:Option (List Value)):Option (Bool×List (Nat×SV))→Bool×SV×Prop
 | some (g,l)=>(g,buildSV S z l)
 | none=>(true,bad)
theorem buildO_ev (P:Program) (σ:Sig) (t:TypeId) (ps:List (Nat×Operand)):buildO P σ t ps=buildC (shp P t) (zeroT P t) (partsO σ ps):=by
 unfold buildO; cases partsO σ ps <;> rfl
def buildD (parts:List (Nat×SV)):Option (List SV)→SV×Prop
 | some cs=>(.agg cs,onesP parts=true)
 | none=>bad
theorem buildSV_ev (fs:List (Nat×Nat×Bool)) (sz:Nat) (z:List Value) (parts:List (Nat×SV)):buildSV (.struct fs sz) (some z) parts=buildD parts (fillSV fs (z.map .v) parts):=by
 unfold buildSV; simp only; cases fillSV fs (z.map .v) parts <;> rfl
def fillC (fs:List (Nat×Nat×Bool)) (cs:List SV) (s:SV) (r:List (Nat×SV)):Option (Nat×Nat×Bool)→Option (List SV)
 | some (off,n,_)=>if (cellsSV s).length=n∧off+n≤cs.length then fillSV fs (putAt cs off (cellsSV s)) r else none
 | none=>none
theorem fillSV_nil (fs:List (Nat×Nat×Bool)) (cs:List SV):fillSV fs cs []=some cs:=rfl
theorem fillSV_cons (fs:List (Nat×Nat×Bool)) (cs:List SV) (i:Nat) (s:SV) (r:List (Nat×SV)):fillSV fs cs ((i,s) :: r)=fillC fs cs s r (fs[i]?):=by
 simp only [fillSV]; cases fs[i]? <;> rfl
def mmC (mx:Bool):Option (Bool×SV)→Option (Bool×List SV)→Bool×SV×Prop
 | some (g,s),some (g',l)=>(g && g',mnmx mx s l)
 | some _,none=>(true,bad)
 | none,_=>(true,bad)
theorem pev_len (P:Program) (H:HS) (M:Mem) (σ:Sig) (x:Operand) (t:TypeId):pev P H M σ (.call ⟨.builtin .len,#[x],#[t]⟩)=o1c (opv σ x) (lenSV (shp P t) H):=o1_ev ..
theorem pev_min (P:Program) (H:HS) (M:Mem) (σ:Sig) (x:Operand) (l:List Operand) (ts:Array TypeId):pev P H M σ (.call ⟨.builtin .min,(x :: l).toArray,ts⟩)=mmC false (opv σ x) (argsO σ l):=by
 simp only [pev]; cases opv σ x <;> cases argsO σ l <;> rfl
theorem pev_max (P:Program) (H:HS) (M:Mem) (σ:Sig) (x:Operand) (l:List Operand) (ts:Array TypeId):pev P H M σ (.call ⟨.builtin .max,(x :: l).toArray,ts⟩)=mmC true (opv σ x) (argsO σ l):=by
 simp only [pev]; cases opv σ x <;> cases argsO σ l <;> rfl
section
variable (P:Program) (H:HS) (M:Mem) (σ:Sig)
theorem pev_move (x:Operand):pev P H M σ (.move x)=o1c (opv σ x) (fun s=>(s,True)):=o1_ev ..
theorem pev_assign (x:Operand):pev P H M σ (.assign x)=o1c (opv σ x) (fun s=>(s,True)):=o1_ev ..
theorem pev_pick (c a b:Operand):pev P H M σ (.pick c a b)=pickC (opv σ c) (opv σ a) (opv σ b):=rfl
theorem pev_build (t:TypeId) (ps:List (Nat×Operand)):pev P H M σ (.build t ps.toArray)=buildC (shp P t) (zeroT P t) (partsO σ ps):=buildO_ev ..
theorem pev_load (t:TypeId) (x:Operand):pev P H M σ (.load t x)=o1c (opv σ x) (ld H M (lay (shp P t))):=o1_ev ..
theorem pev_nil (x:Operand):pev P H M σ (.nilCheck x)=o1c (opv σ x) nilSV:=o1_ev ..
theorem pev_bin (op:BinOp) (t u:TypeId) (x y:Operand):pev P H M σ (.binOp op t x y u)=o2c (opv σ x) (opv σ y) (binSV P t op):=o2_ev ..
theorem pev_un (op:UnOp) (t:TypeId) (x:Operand):pev P H M σ (.unOp op t x)=o1c (opv σ x) (unSV op):=o1_ev ..
theorem pev_conv (s d:TypeId) (x:Operand):pev P H M σ (.convert s d x)=o1c (opv σ x) (convH P H s d):=o1_ev ..
theorem pev_slice (t:TypeId) (x lo hi:Operand):pev P H M σ (.slice t x (some lo) (some hi) none)=o3c (opv σ x) (opv σ lo) (opv σ hi) (sliceSV (shp P t)):=o3_ev ..
theorem pev_slice_hi (t:TypeId) (x hi:Operand):pev P H M σ (.slice t x none (some hi) none)=o2c (opv σ x) (opv σ hi) (fun a b=>sliceSV (shp P t) a (.v (.int .i64 0)) b):=o2_ev ..
theorem pev_slice_lo (t:TypeId) (x lo:Operand):pev P H M σ (.slice t x (some lo) none none)=o2c (opv σ x) (opv σ lo) (fun a b=>sliceSV (shp P t) a b (lenSV (shp P t) H a).1):=o2_ev ..
theorem pev_slice3 (t:TypeId) (x lo hi mx:Operand):pev P H M σ (.slice t x (some lo) (some hi) (some mx))=o4c (opv σ x) (opv σ lo) (opv σ hi) (opv σ mx) (slice3SV (shp P t)):=o4_ev ..
theorem pev_fieldAddr (t:TypeId) (x:Operand) (f:Nat):pev P H M σ (.fieldAddr t x f)=o1c (opv σ x) (fieldAddrSV (shp P t) f):=o1_ev ..
theorem pev_field (t:TypeId) (x:Operand) (f:Nat):pev P H M σ (.field t x f)=o1c (opv σ x) (fieldSV (shp P t) f):=o1_ev ..
theorem pev_indexAddr (t:TypeId) (x i:Operand):pev P H M σ (.indexAddr t x i)=o2c (opv σ x) (opv σ i) (indexAddrSV (shp P t) H):=o2_ev ..
theorem pev_index (t:TypeId) (x i:Operand):pev P H M σ (.index t x i)=o2c (opv σ x) (opv σ i) (indexSV (shp P t)):=o2_ev ..
theorem pev_extract (x:Operand) (i:Nat):pev P H M σ (.extract x i)=o1c (opv σ x) (fun s=>extSV s i):=o1_ev ..
end
def lenC:Option PO→SV×Prop
 | some (.row _ es)=>(.v (.int .i64 es.length),True)
 | some (.box _ _)=>bad
 | none=>bad
 | some (.tab _ es)=>(.v (.int .i64 es.length),True)
 | some (.mp _)=>bad
theorem lenSV_str (H:HS) (s:ByteArray):lenSV .str H (.v (.string s))=(.v (.int .i64 (bl s).length),True):=rfl
theorem lenSV_sl (H:HS) (e sz:Nat) (g:Bool) (y:Value):lenSV (.slice e sz g) H (.v y)=(.v (.int .i64 (lenV y)),isSl y=true):=rfl
theorem lenSV_own (H:HS) (e sz:Nat) (g:Bool) (k:Nat):lenSV (.slice e sz g) H (.own k)=lenC (hget H k):=by
 simp only [lenSV]; cases hget H k with
 | none=>rfl
 | some p=>cases p <;> rfl
def ixC (k sz:Nat) (i:Int):Option PO→SV×Prop
 | some (.row sz' es)=>(.ptr k sz i.toNat 0,sz=sz'∧(0≤i∧i < es.length))
 | some (.box _ _)=>bad
 | none=>bad
 | some (.tab sz' es)=>(.ptr k sz i.toNat 0,sz=sz'∧(0≤i∧i < es.length))
 | some (.mp _)=>bad
theorem ixSV_sl (H:HS) (e sz:Nat) (g:Bool) (y:Value) (k:IntKind) (i:Int):indexAddrSV (.slice e sz g) H (.v y) (.v (.int k i))=(.ea y sz i.toNat 0,ixOk y i):=rfl
theorem ixSV_own (H:HS) (e sz:Nat) (g:Bool) (j:Nat) (k:IntKind) (i:Int):indexAddrSV (.slice e sz g) H (.own j) (.v (.int k i))=ixC j sz i (hget H j):=by
 simp only [indexAddrSV]; cases hget H j with
 | none=>rfl
 | some p=>cases p <;> rfl
theorem ixSV_arr (H:HS) (n sz tot k psz i off:Nat) (kd:IntKind) (j:Int):indexAddrSV (.arr n sz tot) H (.ptr k psz i off) (.v (.int kd j))=(.ptr k psz i (off+j.toNat * sz),0≤j∧j < n):=rfl
theorem ixSV_arrV (H:HS) (n sz tot:Nat) (a:Addr) (kd:IntKind) (j:Int):indexAddrSV (.arr n sz tot) H (.v (.pointer (some a))) (.v (.int kd j))=(.v (.pointer (some (a.add (j.toNat * sz)))),0≤j∧j < n):=rfl
def fldC:Option (Nat×Nat×Bool)→SV→SV×Prop
 | some (off,_,false),.agg l=>(getSV l off,off < l.length)
 | some (off,n,true),.agg l=>(.agg ((l.drop off).take n),off+n≤l.length)
 | _,_=>bad
theorem fieldSV_ev (S:Shp) (f:Nat) (x:SV):fieldSV S f x=fldC (fieldAt S f) x:=rfl
def faC:Option (Nat×Nat×Bool)→SV→SV×Prop
 | some (fo,n,_),.ptr k sz i off=>(.ptr k sz i (off+fo),n≠0)
 | some (fo,n,_),.ea x sz i off=>(.ea x sz i (off+fo),n≠0∧someV x=true)
 | some (fo,n,_),.v (.pointer (some a))=>(.v (.pointer (some (a.add fo))),n≠0)
 | _,_=>bad
theorem fieldAddrSV_ev (S:Shp) (f:Nat) (x:SV):fieldAddrSV S f x=faC (fieldAt S f) x:=rfl
theorem fieldAt_struct (fs:List (Nat×Nat×Bool)) (sz f:Nat):X.fieldAt (.struct fs sz) f=fs[f]?:=rfl

def gdC (want:Bool):Option (Bool×SV)→Option Bool
 | some (g,.v (.bool b))=>some (g && (b == want))
 | some (false,_)=>some false
 | _=>none
theorem unV_undef (op:UnOp):unV op undef=(undef,False):=by cases op <;> rfl
theorem bin_ui (S:Shp) (op:BinOp) (k:IntKind) (n:Int):bin S op undef (.int k n)=(undef,False):=rfl
theorem bin_iu (S:Shp) (op:BinOp) (k:IntKind) (n:Int):bin S op (.int k n) undef=(undef,False):=rfl
theorem bin_us (S:Shp) (op:BinOp) (s:ByteArray):bin S op undef (.string s)=(undef,False):=rfl
theorem bin_su (S:Shp) (op:BinOp) (s:ByteArray):bin S op (.string s) undef=(undef,False):=rfl
theorem bin_ub (S:Shp) (op:BinOp) (b:Bool):bin S op undef (.bool b)=(undef,False):=rfl
theorem bin_bu (S:Shp) (op:BinOp) (b:Bool):bin S op (.bool b) undef=(undef,False):=rfl
theorem bin_uu (S:Shp) (op:BinOp):bin S op undef undef=(undef,False):=rfl
theorem ext_undef (i:Nat):extSV (.v undef) i=(.v undef,False):=rfl
theorem pickC_undef (g:Bool) (a b:Bool×SV):pickC (some (g,.v undef)) (some a) (some b)=(true,.v undef,False):=rfl
theorem gdC_false (want:Bool) (s:SV):gdC want (some (false,s))=some false:=by
 unfold gdC; split <;> simp_all
def gdD (σ:Sig) (want:Bool):Option Nat→Option Bool
 | some d=>gdC want (lk σ d)
 | none=>none
theorem gdOf_none (ops:List Oper) (σ:Sig):gdOf ops σ none=some true:=rfl
theorem gdOf_some (ops:List Oper) (σ:Sig) (j:Nat) (want:Bool):gdOf ops σ (some (j,want))=gdD σ want ((ops[j]?).bind (·.dst)):=by
 simp only [gdOf]; cases (ops[j]?).bind (·.dst) <;> rfl

section
variable (E:Env) (K:KP) (σ:Sig) (H:HS) (M:Mem)
def wpRC (o:Oper):Option Bool→Prop
 | some g=>stepK E o g K σ H M
 | none=>False
@[congr] theorem wpRC_congr {E:Env} {K:KP} {σ σ':Sig} {H H':HS} {M:Mem} {o:Oper} {g g':Option Bool} (h:σ=σ') (h':H=H') (hg:g=g'):wpRC E K σ H M o g=wpRC E K σ' H' M o g':=by rw [h,h',hg]
theorem wpR_nil (ops:List Oper):wpR E ops K [] σ H M=K σ H M:=rfl
theorem wpR_cons (ops:List Oper) (o:Oper) (rest:List Oper):wpR E ops K (o :: rest) σ H M=wpRC E (wpR E ops K rest) σ H M o (gdOf ops σ o.guard):=by
 simp only [wpR]; cases gdOf ops σ o.guard <;> rfl
theorem wpRC_some (o:Oper) (g:Bool):wpRC E K σ H M o (some g)=stepK E o g K σ H M:=rfl
def wpQC (o:Oper):Option Bool→Prop
 | some g=>stepQ E o g K σ H M
 | none=>False
@[congr] theorem wpQC_congr {E:Env} {K:KP} {σ σ':Sig} {H H':HS} {M:Mem} {o:Oper} {g g':Option Bool} (h:σ=σ') (h':H=H') (hg:g=g'):wpQC E K σ H M o g=wpQC E K σ' H' M o g':=by rw [h,h',hg]
theorem wpQ_nil (ops:List Oper):wpQ E ops K [] σ H M=K σ H M:=rfl
theorem wpQ_cons (ops:List Oper) (o:Oper) (rest:List Oper):wpQ E ops K (o :: rest) σ H M=wpQC E (wpQ E ops K rest) σ H M o (gdOf ops σ o.guard):=by
 simp only [wpQ]; cases gdOf ops σ o.guard <;> rfl
theorem wpQC_some (o:Oper) (g:Bool):wpQC E K σ H M o (some g)=stepQ E o g K σ H M:=rfl

/-- what a quiet operation yields goes into its slot -/
def putK (d N:Nat) (g:Bool):Bool×SV×Prop→Prop
 | (gn,s,C)=>(d < N∧(g=true→gn=true∧C))∧K ((d,g,s) :: σ) H M
@[congr] theorem putK_congr {K:KP} {σ σ':Sig} {H H':HS} {M:Mem} {d N:Nat} {g:Bool} {r r':Bool×SV×Prop} (h:σ=σ') (h':H=H') (hr:r=r'):putK K σ H M d N g r=putK K σ' H' M d N g r':=by rw [h,h',hr]
theorem putK_ev (d N:Nat) (g gn:Bool) (s:SV) (C:Prop):putK K σ H M d N g (gn,s,C)=((d < N∧(g=true→gn=true∧C))∧K ((d,g,s) :: σ) H M):=rfl
theorem qK_ev (op:Op) (g:Bool) (d:Nat):qK E op g K σ H M (some d)=putK K σ H M d E.N g (pev E.P H M σ op):=by
 generalize h:pev E.P H M σ op=r
 obtain ⟨gn,s,C⟩:=r
 simp only [qK,h,putK]
variable (g:Bool) (d:Option Nat) (ty:TypeId) (pos:String) (aft:Array Edge) (gd:Option (Nat×Bool))
theorem stepK_move (x:Operand):stepK E ⟨d,.move x,ty,pos,aft,gd⟩ g K σ H M=qK E (.move x) g K σ H M d:=rfl
theorem stepK_assign (x:Operand):stepK E ⟨d,.assign x,ty,pos,aft,gd⟩ g K σ H M=qK E (.assign x) g K σ H M d:=rfl
theorem stepK_pick (x y z:Operand):stepK E ⟨d,.pick x y z,ty,pos,aft,gd⟩ g K σ H M=qK E (.pick x y z) g K σ H M d:=rfl
theorem stepK_build (t:TypeId) (ps:Array (Nat×Operand)):stepK E ⟨d,.build t ps,ty,pos,aft,gd⟩ g K σ H M=qK E (.build t ps) g K σ H M d:=rfl
theorem stepK_load (t:TypeId) (x:Operand):stepK E ⟨d,.load t x,ty,pos,aft,gd⟩ g K σ H M=qK E (.load t x) g K σ H M d:=rfl
theorem stepK_nil (x:Operand):stepK E ⟨d,.nilCheck x,ty,pos,aft,gd⟩ g K σ H M=qK E (.nilCheck x) g K σ H M d:=rfl
theorem stepK_bin (b:BinOp) (t u:TypeId) (x y:Operand):stepK E ⟨d,.binOp b t x y u,ty,pos,aft,gd⟩ g K σ H M=qK E (.binOp b t x y u) g K σ H M d:=rfl
theorem stepK_un (b:UnOp) (t:TypeId) (x:Operand):stepK E ⟨d,.unOp b t x,ty,pos,aft,gd⟩ g K σ H M=qK E (.unOp b t x) g K σ H M d:=rfl
theorem stepK_conv (s t:TypeId) (x:Operand):stepK E ⟨d,.convert s t x,ty,pos,aft,gd⟩ g K σ H M=cvK (shp E.P t) (g=true∧OpX E ⟨d,.convert s t x,ty,pos,aft,gd⟩ K σ H M) (qK E (.convert s t x) g K σ H M d):=rfl
theorem stepK_slice (t:TypeId) (x:Operand) (lo hi mx:Option Operand):stepK E ⟨d,.slice t x lo hi mx,ty,pos,aft,gd⟩ g K σ H M=qK E (.slice t x lo hi mx) g K σ H M d:=rfl
theorem stepK_fieldAddr (t:TypeId) (x:Operand) (f:Nat):stepK E ⟨d,.fieldAddr t x f,ty,pos,aft,gd⟩ g K σ H M=qK E (.fieldAddr t x f) g K σ H M d:=rfl
theorem stepK_field (t:TypeId) (x:Operand) (f:Nat):stepK E ⟨d,.field t x f,ty,pos,aft,gd⟩ g K σ H M=qK E (.field t x f) g K σ H M d:=rfl
theorem stepK_indexAddr (t:TypeId) (x i:Operand):stepK E ⟨d,.indexAddr t x i,ty,pos,aft,gd⟩ g K σ H M=qK E (.indexAddr t x i) g K σ H M d:=rfl
theorem stepK_index (t:TypeId) (x i:Operand):stepK E ⟨d,.index t x i,ty,pos,aft,gd⟩ g K σ H M=qK E (.index t x i) g K σ H M d:=rfl
theorem stepK_extract (x:Operand) (i:Nat):stepK E ⟨d,.extract x i,ty,pos,aft,gd⟩ g K σ H M=qK E (.extract x i) g K σ H M d:=rfl
theorem stepK_len (xs:Array Operand) (ts:Array TypeId):stepK E ⟨d,.call ⟨.builtin .len,xs,ts⟩,ty,pos,aft,gd⟩ g K σ H M=qK E (.call ⟨.builtin .len,xs,ts⟩) g K σ H M d:=rfl
theorem stepK_min (xs:Array Operand) (ts:Array TypeId):stepK E ⟨d,.call ⟨.builtin .min,xs,ts⟩,ty,pos,aft,gd⟩ g K σ H M=qK E (.call ⟨.builtin .min,xs,ts⟩) g K σ H M d:=rfl
theorem stepK_max (xs:Array Operand) (ts:Array TypeId):stepK E ⟨d,.call ⟨.builtin .max,xs,ts⟩,ty,pos,aft,gd⟩ g K σ H M=qK E (.call ⟨.builtin .max,xs,ts⟩) g K σ H M d:=rfl
def boxC (d:Nat) (N:Nat) (g:Bool):Option (Bool×SV)→Prop
 | some (g',s)=>(g=true∧g'=true∧d < N)∧boxK d s K σ H M
 | none=>False
@[congr] theorem boxC_congr {K:KP} {σ σ':Sig} {H H':HS} {M:Mem} {d N:Nat} {g:Bool} {r r':Option (Bool×SV)} (h:σ=σ') (h':H=H') (hr:r=r'):boxC K σ H M d N g r=boxC K σ' H' M d N g r':=by rw [h,h',hr]
@[congr] theorem boxK_congr {K:KP} {σ σ':Sig} {H H':HS} {M:Mem} {d:Nat} {s s':SV} (h:σ=σ') (h':H=H') (hr:s=s'):boxK d s K σ H M=boxK d s' K σ' H' M:=by rw [h,h',hr]
theorem stepK_box (t:TypeId) (x:Operand) (d:Nat):stepK E ⟨some d,.box t x,ty,pos,aft,gd⟩ g K σ H M=boxC K σ H M d E.N g (opv σ x):=by
 simp only [stepK]; cases opv σ x <;> rfl
def stC (d:Option Nat) (L:Option (Nat×Bool)) (k i off:Nat) (s:SV) (stuck:Prop):Option PO→Prop
 | some (.box cs t)=>((stBox s off cs L).2∧i=0)∧K (match d with | some d=>(d,true,.v undef) :: σ | none=>σ) (hset k (.box (stBox s off cs L).1 t) H) M
 | some (.row _ _)=>stuck
 | none=>stuck
 | some (.tab _ _)=>stuck
 | some (.mp _)=>stuck
@[congr] theorem stC_congr {K:KP} {σ σ':Sig} {H H':HS} {M:Mem} {d:Option Nat} {L L':Option (Nat×Bool)} {k i off i' off':Nat} {s s':SV} {st:Prop} {r r':Option PO} (h:σ=σ') (h':H=H') (hL:L=L') (hi:i=i') (ho:off=off') (hs:s=s') (hr:r=r') :
 stC K σ H M d L k i off s st r=stC K σ' H' M d L' k i' off' s' st r':=by rw [h,h',hL,hi,ho,hs,hr]
@[congr] theorem storeK_congr {K:KP} {σ σ':Sig} {H H':HS} {M:Mem} {d:Option Nat} {L L':Option (Nat×Bool)} {p p' s s':SV} {st:Prop} (h:σ=σ') (h':H=H') (hL:L=L') (hp:p=p') (hs:s=s') :
 storeK d L p s st K σ H M=storeK d L' p' s' st K σ' H' M:=by rw [h,h',hL,hp,hs]
theorem storeK_ptr (d:Option Nat) (L:Option (Nat×Bool)) (k sz i off:Nat) (s:SV) (st:Prop):storeK d L (.ptr k sz i off) s st K σ H M=stC K σ H M d L k i off s st (hget H k):=by
 simp only [storeK]; cases hget H k with
 | none=>rfl
 | some p=>cases p <;> rfl
theorem storeK_v (d:Option Nat) (L:Option (Nat×Bool)) (x:Value) (s:SV) (st:Prop):storeK d L (.v x) s st K σ H M=st:=rfl
theorem storeK_ea (d:Option Nat) (L:Option (Nat×Bool)) (x:Value) (sz i off:Nat) (s:SV) (st:Prop):storeK d L (.ea x sz i off) s st K σ H M=st:=rfl
def storeC (o:Oper) (t:TypeId) (g:Bool):Option (Bool×SV)→Option (Bool×SV)→Prop
 | some (g1,p),some (g2,s)=>(g=true∧g1=true∧g2=true∧dOk E.N o.dst)∧szOk E.P t∧storeK o.dst (lay (shp E.P t)) p s (OpX E o K σ H M) K σ H M
 | some _,none=>False
 | none,_=>False
@[congr] theorem storeC_congr {E:Env} {K:KP} {σ σ':Sig} {H H':HS} {M:Mem} {o:Oper} {t:TypeId} {g:Bool} {r r' q q':Option (Bool×SV)} (h:σ=σ') (h':H=H') (hr:r=r') (hq:q=q'):storeC E K σ H M o t g r q=storeC E K σ' H' M o t g r' q':=by rw [h,h',hr,hq]
theorem stepK_store (t:TypeId) (p x:Operand):stepK E ⟨d,.store t p x,ty,pos,aft,gd⟩ g K σ H M=storeC E K σ H M ⟨d,.store t p x,ty,pos,aft,gd⟩ t g (opv σ p) (opv σ x):=by
 simp only [stepK]; cases opv σ p <;> cases opv σ x <;> rfl
def callC (o:Oper) (d:Nat) (g:Bool):Option (Bool×SV)→Option (Bool×List SV)→Prop
 | some (g1,.fn f caps),some (g2,l)=>d < E.N∧((g=true→(g1=true∧g2=true)∧CallK E f (l++caps) d K σ H M)∧(g=false→K ((d,true,.v undef) :: σ) H M))
 | _,_=>g=true∧OpX E o K σ H M
@[congr] theorem callC_congr {E:Env} {K:KP} {σ σ':Sig} {H H':HS} {M:Mem} {o:Oper} {d:Nat} {g:Bool} {r r':Option (Bool×SV)} {q q':Option (Bool×List SV)} (h:σ=σ') (h':H=H') (hr:r=r') (hq:q=q'):callC E K σ H M o d g r q=callC E K σ' H' M o d g r' q':=by rw [h,h',hr,hq]
theorem stepK_call (f:Operand) (xs:Array Operand) (ts:Array TypeId) (d:Nat):stepK E ⟨some d,.call ⟨.value f,xs,ts⟩,ty,pos,aft,gd⟩ g K σ H M=callC E K σ H M ⟨some d,.call ⟨.value f,xs,ts⟩,ty,pos,aft,gd⟩ d g (opv σ f) (argsO σ xs.toList):=by
 simp only [stepK]
 cases opv σ f with
 | none=>rfl
 | some p=>obtain ⟨g1,s⟩:=p; cases s <;> cases argsO σ xs.toList <;> rfl
theorem callC_ev (o:Oper) (d:Nat) (g g1 g2:Bool) (f:Nat) (caps l:List SV):callC E K σ H M o d g (some (g1,.fn f caps)) (some (g2,l)) =
 (d < E.N∧((g=true→(g1=true∧g2=true)∧CallK E f (l++caps) d K σ H M)∧(g=false→K ((d,true,.v undef) :: σ) H M))):=rfl
def callQC (d:Nat) (g:Bool):Option (Bool×SV)→Option (Bool×List SV)→Prop
 | some (g1,.fn f caps),some (g2,l)=>d < E.N ∧ ∃ s,(g=true→(g1=true∧g2=true)∧callQ E f (l++caps) M s)∧K ((d,g,s) :: σ) H M
 | _,_=>False
@[congr] theorem callQC_congr {E:Env} {K:KP} {σ σ':Sig} {H H':HS} {M:Mem} {d:Nat} {g:Bool} {r r':Option (Bool×SV)} {q q':Option (Bool×List SV)} (h:σ=σ') (h':H=H') (hr:r=r') (hq:q=q'):callQC E K σ H M d g r q=callQC E K σ' H' M d g r' q':=by rw [h,h',hr,hq]
theorem stepQ_move (x:Operand):stepQ E ⟨d,.move x,ty,pos,aft,gd⟩ g K σ H M=qK E (.move x) g K σ H M d:=rfl
theorem stepQ_assign (x:Operand):stepQ E ⟨d,.assign x,ty,pos,aft,gd⟩ g K σ H M=qK E (.assign x) g K σ H M d:=rfl
theorem stepQ_pick (x y z:Operand):stepQ E ⟨d,.pick x y z,ty,pos,aft,gd⟩ g K σ H M=qK E (.pick x y z) g K σ H M d:=rfl
theorem stepQ_build (t:TypeId) (ps:Array (Nat×Operand)):stepQ E ⟨d,.build t ps,ty,pos,aft,gd⟩ g K σ H M=qK E (.build t ps) g K σ H M d:=rfl
theorem stepQ_load (t:TypeId) (x:Operand):stepQ E ⟨d,.load t x,ty,pos,aft,gd⟩ g K σ H M=qK E (.load t x) g K σ H M d:=rfl
theorem stepQ_nil (x:Operand):stepQ E ⟨d,.nilCheck x,ty,pos,aft,gd⟩ g K σ H M=qK E (.nilCheck x) g K σ H M d:=rfl
theorem stepQ_bin (b:BinOp) (t u:TypeId) (x y:Operand):stepQ E ⟨d,.binOp b t x y u,ty,pos,aft,gd⟩ g K σ H M=qK E (.binOp b t x y u) g K σ H M d:=rfl
theorem stepQ_un (b:UnOp) (t:TypeId) (x:Operand):stepQ E ⟨d,.unOp b t x,ty,pos,aft,gd⟩ g K σ H M=qK E (.unOp b t x) g K σ H M d:=rfl
theorem stepQ_conv (s t:TypeId) (x:Operand):stepQ E ⟨d,.convert s t x,ty,pos,aft,gd⟩ g K σ H M=qK E (.convert s t x) g K σ H M d:=rfl
theorem stepQ_slice (t:TypeId) (x:Operand) (lo hi mx:Option Operand):stepQ E ⟨d,.slice t x lo hi mx,ty,pos,aft,gd⟩ g K σ H M=qK E (.slice t x lo hi mx) g K σ H M d:=rfl
theorem stepQ_fieldAddr (t:TypeId) (x:Operand) (f:Nat):stepQ E ⟨d,.fieldAddr t x f,ty,pos,aft,gd⟩ g K σ H M=qK E (.fieldAddr t x f) g K σ H M d:=rfl
theorem stepQ_field (t:TypeId) (x:Operand) (f:Nat):stepQ E ⟨d,.field t x f,ty,pos,aft,gd⟩ g K σ H M=qK E (.field t x f) g K σ H M d:=rfl
theorem stepQ_indexAddr (t:TypeId) (x i:Operand):stepQ E ⟨d,.indexAddr t x i,ty,pos,aft,gd⟩ g K σ H M=qK E (.indexAddr t x i) g K σ H M d:=rfl
theorem stepQ_index (t:TypeId) (x i:Operand):stepQ E ⟨d,.index t x i,ty,pos,aft,gd⟩ g K σ H M=qK E (.index t x i) g K σ H M d:=rfl
theorem stepQ_extract (x:Operand) (i:Nat):stepQ E ⟨d,.extract x i,ty,pos,aft,gd⟩ g K σ H M=qK E (.extract x i) g K σ H M d:=rfl
theorem stepQ_len (xs:Array Operand) (ts:Array TypeId):stepQ E ⟨d,.call ⟨.builtin .len,xs,ts⟩,ty,pos,aft,gd⟩ g K σ H M=qK E (.call ⟨.builtin .len,xs,ts⟩) g K σ H M d:=rfl
theorem stepQ_min (xs:Array Operand) (ts:Array TypeId):stepQ E ⟨d,.call ⟨.builtin .min,xs,ts⟩,ty,pos,aft,gd⟩ g K σ H M=qK E (.call ⟨.builtin .min,xs,ts⟩) g K σ H M d:=rfl
theorem stepQ_max (xs:Array Operand) (ts:Array TypeId):stepQ E ⟨d,.call ⟨.builtin .max,xs,ts⟩,ty,pos,aft,gd⟩ g K σ H M=qK E (.call ⟨.builtin .max,xs,ts⟩) g K σ H M d:=rfl
theorem stepQ_call (f:Operand) (xs:Array Operand) (ts:Array TypeId) (d:Nat):stepQ E ⟨some d,.call ⟨.value f,xs,ts⟩,ty,pos,aft,gd⟩ g K σ H M=callQC E K σ H M d g (opv σ f) (argsO σ xs.toList):=by
 simp only [stepQ]
 cases opv σ f with
 | none=>rfl
 | some p=>obtain ⟨g1,s⟩:=p; cases s <;> cases argsO σ xs.toList <;> rfl
theorem callQC_ev (d:Nat) (g g1 g2:Bool) (f:Nat) (caps l:List SV):callQC E K σ H M d g (some (g1,.fn f caps)) (some (g2,l)) =
 (d < E.N ∧ ∃ s,(g=true→(g1=true∧g2=true)∧callQ E f (l++caps) M s)∧K ((d,g,s) :: σ) H M):=rfl
end

section
variable (E:Env) (live:List Nat) (Q:QP) (σ:Sig) (H:HS) (M:Mem)
def condC (t e:Code):Option (Bool×SV)→Prop
 | some (true,.v (.bool b))=>(b=true→wpC E live t Q σ H M)∧(b=false→wpC E live e Q σ H M)
 | _=>False
@[congr] theorem condC_congr {E:Env} {live:List Nat} {Q:QP} {σ σ':Sig} {H H':HS} {M:Mem} {t e:Code} {r r':Option (Bool×SV)} (h:σ=σ') (h':H=H') (hr:r=r'):condC E live Q σ H M t e r=condC E live Q σ' H' M t e r':=by rw [h,h',hr]
theorem condC_ev (t e:Code) (b:Bool):condC E live Q σ H M t e (some (true,.v (.bool b)))=((b=true→wpC E live t Q σ H M)∧(b=false→wpC E live e Q σ H M)):=rfl
theorem wpC_skip:wpC E live .skip Q σ H M=Q .normal σ H M:=rfl
theorem wpC_ret:wpC E live .ret Q σ H M=Q .ret σ H M:=rfl
theorem wpC_exit (i:Nat):wpC E live (.exit i) Q σ H M=Q (.exit i) σ H M:=rfl
def endK (live:List Nat) (Q:QP):KP:=fun σ H M=>Q .normal (keep live σ) H M
def goK (live:List Nat) (Q:QP) (σ:Sig) (H:HS) (M:Mem):Prop:=Q .normal σ H M
@[congr] theorem goK_congr {live:List Nat} {Q:QP} {σ σ':Sig} {H H':HS} {M:Mem} (h:σ=σ') (h':H=H'):goK live Q σ H M=goK live Q σ' H' M:=by rw [h,h']
theorem endK_ev:endK live Q σ H M=goK live Q (keep live σ) H M:=rfl
theorem goK_ev:goK live Q σ H M=Q .normal σ H M:=rfl
theorem wpC_region (id:Nat) (ops:Array Oper):wpC E live (.region id ops false) Q σ H M=wpR E ops.toList (endK live Q) ops.toList σ H M:=rfl
theorem wpC_draw (id:Nat) (ops:Array Oper):wpC E live (.region id ops true) Q σ H M=DrawK E id ops (endK live Q) σ H M:=rfl
def seqQ (b:Code) (Q:QP):QP:=fun e σ H M=>match e with | .normal=>wpC E live b Q σ H M | e=>Q e σ H M
theorem wpC_seq (a b:Code):wpC E live (.seq a b) Q σ H M=wpC E live a (seqQ E live b Q) σ H M:=rfl
theorem seqQ_normal (b:Code):seqQ E live b Q .normal σ H M=wpC E live b Q σ H M:=rfl
theorem seqQ_ret (b:Code):seqQ E live b Q .ret σ H M=Q .ret σ H M:=rfl
theorem seqQ_exit (b:Code) (i:Nat):seqQ E live b Q (.exit i) σ H M=Q (.exit i) σ H M:=rfl
def blkQ (i:Nat) (Q:QP):QP:=fun e σ H M=>match e with | .exit j=>if j=i then Q .normal σ H M else Q (.exit j) σ H M | e=>Q e σ H M
theorem wpC_block (i:Nat) (b:Code):wpC E live (.block i b) Q σ H M=wpC E live b (blkQ i Q) σ H M:=rfl
theorem blkQ_normal (i:Nat):blkQ i Q .normal σ H M=Q .normal σ H M:=rfl
theorem blkQ_ret (i:Nat):blkQ i Q .ret σ H M=Q .ret σ H M:=rfl
theorem blkQ_exit (i j:Nat):blkQ i Q (.exit j) σ H M=if j=i then Q .normal σ H M else Q (.exit j) σ H M:=rfl
theorem wpC_cond (c:Operand) (t e:Code):wpC E live (.cond c t e) Q σ H M=condC E live Q σ H M t e (opv σ c):=rfl
theorem wpC_loop (b:Code):wpC E live (.loop b) Q σ H M=LoopK E live b Q σ H M:=rfl
@[congr] theorem seqQ_congr {E:Env} {live:List Nat} {b:Code} {Q:QP} {e:Exit} {σ σ':Sig} {H H':HS} {M:Mem} (h:σ=σ') (h':H=H'):seqQ E live b Q e σ H M=seqQ E live b Q e σ' H' M:=by rw [h,h']
@[congr] theorem blkQ_congr {i:Nat} {Q:QP} {e:Exit} {σ σ':Sig} {H H':HS} {M:Mem} (h:σ=σ') (h':H=H'):blkQ i Q e σ H M=blkQ i Q e σ' H' M:=by rw [h,h']
/-- the loop's round, at its end -/
def rndQ {X:Type} (E:Env) (S:X→Sig×HS×Mem) (I:X→Prop) (m:X→Nat) (x:X) (Q:QP):QP:=fun e σ' H' M'=>match e with | .normal=>∃ x',(I x'∧m x' < m x)∧Ent E σ' H' M' (S x') | e=>Q e σ' H' M'
theorem rndQ_normal {X:Type} (S:X→Sig×HS×Mem) (I:X→Prop) (m:X→Nat) (x:X):rndQ E S I m x Q .normal σ H M = ∃ x',(I x'∧m x' < m x)∧Ent E σ H M (S x'):=rfl
theorem rndQ_ret {X:Type} (S:X→Sig×HS×Mem) (I:X→Prop) (m:X→Nat) (x:X):rndQ E S I m x Q .ret σ H M=Q .ret σ H M:=rfl
theorem rndQ_exit {X:Type} (S:X→Sig×HS×Mem) (I:X→Prop) (m:X→Nat) (x:X) (i:Nat):rndQ E S I m x Q (.exit i) σ H M=Q (.exit i) σ H M:=rfl
@[congr] theorem rndQ_congr {X:Type} {E:Env} {S:X→Sig×HS×Mem} {I:X→Prop} {m:X→Nat} {x:X} {Q:QP} {e:Exit} {σ σ':Sig} {H H':HS} {M:Mem} (h:σ=σ') (h':H=H'):rndQ E S I m x Q e σ H M=rndQ E S I m x Q e σ' H' M:=by rw [h,h']
/-- at most so many rounds, each walked -/
def rollQ (K:KP) (Q:QP):QP:=fun e σ H M=>match e with | .normal=>K σ H M | e=>Q e σ H M
theorem rollQ_normal (K:KP):rollQ K Q .normal σ H M=K σ H M:=rfl
theorem rollQ_ret (K:KP):rollQ K Q .ret σ H M=Q .ret σ H M:=rfl
theorem rollQ_exit (K:KP) (i:Nat):rollQ K Q (.exit i) σ H M=Q (.exit i) σ H M:=rfl
@[congr] theorem rollQ_congr {K:KP} {Q:QP} {e:Exit} {σ σ':Sig} {H H':HS} {M:Mem} (h:σ=σ') (h':H=H'):rollQ K Q e σ H M=rollQ K Q e σ' H' M:=by rw [h,h']
def RoundsK (E:Env) (live:List Nat) (body:Code) (Q:QP):Nat→KP
 | 0=>fun _ _ _=>False
 | n+1=>fun σ H M=>wpC E live body (rollQ (RoundsK E live body Q n) Q) σ H M
@[congr] theorem RoundsK_congr {E:Env} {live:List Nat} {b:Code} {Q:QP} {n:Nat} {σ σ':Sig} {H H':HS} {M:Mem} (h:σ=σ') (h':H=H'):RoundsK E live b Q n σ H M=RoundsK E live b Q n σ' H' M:=by rw [h,h']
theorem RoundsK_succ (b:Code) (n:Nat):RoundsK E live b Q (n+1) σ H M=wpC E live b (rollQ (RoundsK E live b Q n) Q) σ H M:=rfl
theorem LoopK.rounds {E:Env} {live:List Nat} {body:Code} {Q:QP} {σ:Sig} {H:HS} {M:Mem} (n:Nat) (h:RoundsK E live body Q n σ H M):LoopK E live body Q σ H M:=by
 intro a w hrep b k cs
 have key : ∀ n σ H M a w,RoundsK E live body Q n σ H M→Rep E σ H M a w →
   ∃ e a' w',Lift E Q e a' w'∧Arrives E.P (lone (b.at a (.code body :: .inLoop body :: k)) cs w) b k cs e a' w':=by
  intro n
  induction n with
  | zero=>intro σ H M a w h; exact h.elim
  | succ n ih=>
    intro σ H M a w h hrep
    obtain ⟨e,a₁,w₁,⟨σ',H',M',hrep',hq⟩,harr⟩:=wpC_sound body _ _ _ _ h a w hrep b (.inLoop body :: k) cs
    cases e with
    | normal=>
      obtain ⟨e₂,a₂,w₂,hq₂,harr₂⟩:=ih _ _ _ a₁ w₁ hq hrep'
      exact ⟨e₂,a₂,w₂,hq₂,.of_steps (Steps.trans harr (.one step_inLoop)) harr₂⟩
    | exit id=>exact ⟨_,a₁,w₁,⟨σ',H',M',hrep',hq⟩,.pass (x:=.inLoop body) rfl (fun _ _=>.inl (by simp)) harr⟩
    | goto l=>exact ⟨_,a₁,w₁,⟨σ',H',M',hrep',hq⟩,.pass (x:=.inLoop body) rfl (fun _ _=>.inl (by simp)) harr⟩
    | ret=>exact ⟨_,a₁,w₁,⟨σ',H',M',hrep',hq⟩,.pass (x:=.inLoop body) rfl (fun _ _=>.inl (by simp)) harr⟩
    | panic ch=>exact ⟨_,a₁,w₁,⟨σ',H',M',hrep',hq⟩,.pass (x:=.inLoop body) rfl (fun _ _=>.inl (by simp)) harr⟩
    | outgrown=>exact ⟨_,a₁,w₁,⟨σ',H',M',hrep',hq⟩,.pass (x:=.inLoop body) rfl (fun _ _=>.inl (by simp)) harr⟩
 obtain ⟨e,a',w',hq,harr⟩:=key n _ _ _ a w h hrep
 exact ⟨e,a',w',hq,.of_steps (.one step_loop) harr⟩
theorem LoopK.go {E:Env} {live:List Nat} {Q:QP} {σ:Sig} {H:HS} {M:Mem} {body:Code} {X:Type} (S:X→Sig×HS×Mem) (I:X→Prop) (m:X→Nat) (x0:X) (h0:I x0) (hent:Ent E σ H M (S x0))
 (hr : ∀ x,I x→wpC E live body (rndQ E S I m x Q) (S x).1 (S x).2.1 (S x).2.2):LoopK E live body Q σ H M:=LoopK.intro S I m x0 h0 hent hr
def retC (R:RP) (H:HS) (M:Mem):Option (List SV×Prop)→Prop
 | some (ss,C)=>C∧R (one? ss) H M
 | none=>False
theorem RetK_ret (P:Program) (rs:List ResultVar) (R:RP):RetK P rs R .ret σ H M=retC R H M (rsvs P σ H M rs):=by
 simp only [RetK]; cases rsvs P σ H M rs <;> rfl
theorem RetK_normal (P:Program) (rs:List ResultVar) (R:RP):RetK P rs R .normal σ H M=retC R H M (rsvs P σ H M rs):=by
 simp only [RetK]; cases rsvs P σ H M rs <;> rfl
def rsC:Option (SV×Prop)→Option (List SV×Prop)→Option (List SV×Prop)
 | some (s,C),some (ss,D)=>some (s :: ss,C∧D)
 | some _,none=>none
 | none,_=>none
theorem rsvs_nil (P:Program):rsvs P σ H M []=some ([],True):=rfl
theorem rsvs_cons (P:Program) (r:ResultVar) (l:List ResultVar):rsvs P σ H M (r :: l)=rsC (rsv1 P σ H M r) (rsvs P σ H M l):=by
 simp only [rsvs]; cases rsv1 P σ H M r <;> cases rsvs P σ H M l <;> rfl
def rs1C:Option (Bool×SV)→Option (SV×Prop)
 | some (true,s)=>some (s,True)
 | some (false,_)=>none
 | none=>none
theorem rsv1_tmp (P:Program) (t:Nat):rsv1 P σ H M (.tmp t)=rs1C (lk σ t):=by
 simp only [rsv1]; cases h:lk σ t with
 | none=>rfl
 | some p=>obtain ⟨b,s⟩:=p; cases b <;> rfl
def rs2C (P:Program) (H:HS) (M:Mem) (t:TypeId):Option (Bool×SV)→Option (SV×Prop)
 | some (true,s)=>some (ld H M (lay (shp P t)) s)
 | some (false,_)=>none
 | none=>none
theorem rsv1_cell (P:Program) (a t:Nat):rsv1 P σ H M (.cell a t)=rs2C P H M t (lk σ a):=by
 simp only [rsv1]; cases h:lk σ a with
 | none=>rfl
 | some p=>obtain ⟨b,s⟩:=p; cases b <;> rfl
end
end Go.X

namespace Go.X
open Go Go.RowKit
section
variable {E:Env} {K:KP} {σ:Sig} {H:HS} {M:Mem} {d:Option Nat} {ty:TypeId} {pos:String} {aft:Array Edge} {gd:Option (Nat×Bool)} {g:Bool}
@[congr] theorem stRC_congr {E:Env} {st:Prop} {K:KP} {σ σ':Sig} {H H':HS} {M:Mem} {d:Option Nat} {L:Option (Nat×Bool)} {k sz i off:Nat} {cs:List Value} {r r':Option PO} (h:σ=σ') (h':H=H') (h0:r=r'):stRC d L k sz i off cs st K σ H M r=stRC d L k sz i off cs st K σ' H' M r':=by rw [h,h',h0]
@[congr] theorem stRB_congr {E:Env} {st:Prop} {K:KP} {σ σ':Sig} {H H':HS} {M:Mem} {d:Option Nat} {L:Option (Nat×Bool)} {k sz i off:Nat} {s:SV} {r r':Bool} (h:σ=σ') (h':H=H') (h0:r=r'):stRB d L k sz i off s st K σ H M r=stRB d L k sz i off s st K σ' H' M r':=by rw [h,h',h0]
@[congr] theorem stRD_congr {E:Env} {st:Prop} {K:KP} {σ σ':Sig} {H H':HS} {M:Mem} {d:Option Nat} {L:Option (Nat×Bool)} {r r':Option (Bool×SV)} {q q':Option (Bool×SV)} (h:σ=σ') (h':H=H') (h0:r=r') (h1:q=q'):stRD d L st K σ H M r q=stRD d L st K σ' H' M r' q':=by rw [h,h',h0,h1]
@[congr] theorem appD_congr {E:Env} {st:Prop} {K:KP} {σ σ':Sig} {H H':HS} {M:Mem} {d sz bt:Nat} {zs:List Value} {r r':Option (Option Nat×Nat×List (List Value))} {q q':Option (List (List Value)×Prop)} (h:σ=σ') (h':H=H') (h0:r=r') (h1:q=q'):appD E d sz bt zs st K σ H M r q=appD E d sz bt zs st K σ' H' M r' q':=by rw [h,h',h0,h1]
@[congr] theorem appC_congr {E:Env} {st:Prop} {K:KP} {σ σ':Sig} {H H':HS} {M:Mem} {d:Option Nat} {S S':Shp} {r r':Option (Nat×Nat×Nat×List Value)} {q q' u u':Option (Bool×SV)} (h:σ=σ') (h':H=H') (h0:S=S') (h1:r=r') (h2:q=q') (h3:u=u'):appC E st K σ H M S d r q u=appC E st K σ' H' M S' d r' q' u':=by rw [h,h',h0,h1,h2,h3]
@[congr] theorem alC_congr {E:Env} {st:Prop} {K:KP} {σ σ':Sig} {H H':HS} {M:Mem} {d:Option Nat} {r r':Option (List Value)} (h:σ=σ') (h':H=H') (h0:r=r'):alC E st K σ H M d r=alC E st K σ' H' M d r':=by rw [h,h',h0]
@[congr] theorem mkC_congr {E:Env} {st:Prop} {K:KP} {σ σ':Sig} {H H':HS} {M:Mem} {d:Option Nat} {r r':Option (Nat×Nat×Nat×List Value)} {q q':Option (Bool×SV)} {u u':Option (Bool×SV)} (h:σ=σ') (h':H=H') (h0:r=r') (h1:q=q') (h2:u=u'):mkC E st K σ H M d r q u=mkC E st K σ' H' M d r' q' u':=by rw [h,h',h0,h1,h2]
@[congr] theorem bsD_congr {E:Env} {st:Prop} {K:KP} {σ σ':Sig} {H H':HS} {M:Mem} {d sz n:Nat} {ps:List (Nat×SV)} {r r':Bool} (h:σ=σ') (h':H=H') (h0:r=r'):bsD E d sz n ps st K σ H M r=bsD E d sz n ps st K σ' H' M r':=by rw [h,h',h0]
@[congr] theorem bsC_congr {E:Env} {st:Prop} {K:KP} {σ σ':Sig} {H H':HS} {M:Mem} {n:Nat} {d:Option Nat} {r r':Option (Nat×Nat×Nat×List Value)} {q q':Option (Bool×List (Nat×SV))} (h:σ=σ') (h':H=H') (h0:r=r') (h1:q=q'):bsC E st K σ H M n d r q=bsC E st K σ' H' M n d r' q':=by rw [h,h',h0,h1]
@[congr] theorem OpX_congr {E:Env} {o:Oper} {K:KP} {σ σ':Sig} {H H':HS} {M:Mem} (h:σ=σ') (h':H=H'):OpX E o K σ H M=OpX E o K σ' H' M:=by rw [h,h']
theorem stepK_bs (t n:Nat) (ps:List (Nat×Operand)):stepK E ⟨d,.buildSlice t n ps.toArray,ty,pos,aft,gd⟩ g K σ H M=(g=true∧bsC E (OpK E ⟨d,.buildSlice t n ps.toArray,ty,pos,aft,gd⟩ K σ H M) K σ H M n d (slT E.P t) (partsO σ ps)):=rfl
theorem stepK_mk (t:TypeId) (x y:Operand):stepK E ⟨d,.makeSlice t x y,ty,pos,aft,gd⟩ g K σ H M=(g=true∧mkC E (OpK E ⟨d,.makeSlice t x y,ty,pos,aft,gd⟩ K σ H M) K σ H M d (slT E.P t) (opv σ x) (opv σ y)):=rfl
theorem stepK_al (t:TypeId):stepK E ⟨d,.alloc t,ty,pos,aft,gd⟩ g K σ H M=(g=true∧alC E (OpK E ⟨d,.alloc t,ty,pos,aft,gd⟩ K σ H M) K σ H M d (zsT E.P t)):=rfl
theorem stepK_app (t tx:TypeId) (x y:Operand):stepK E ⟨d,.call ⟨.builtin .append,#[x,y],#[t,tx]⟩,ty,pos,aft,gd⟩ g K σ H M=(g=true∧appC E (OpK E ⟨d,.call ⟨.builtin .append,#[x,y],#[t,tx]⟩,ty,pos,aft,gd⟩ K σ H M) K σ H M (shp E.P tx) d (slT E.P t) (opv σ x) (opv σ y)):=rfl
theorem OpX_st (t:TypeId) (x y:Operand):OpX E ⟨d,.store t x y,ty,pos,aft,gd⟩ K σ H M=stRD d (lay (shp E.P t)) (OpK E ⟨d,.store t x y,ty,pos,aft,gd⟩ K σ H M) K σ H M (opv σ x) (opv σ y):=rfl
theorem conc1_own (k:Nat):conc1 (.own k)=false:=rfl
theorem concB_own (k:Nat):concB (.own k)=false:=rfl
theorem conc1_ptr (k a b c:Nat):conc1 (.ptr k a b c)=false:=rfl
theorem concB_ptr (k a b c:Nat):concB (.ptr k a b c)=false:=rfl
theorem conc1_tup (l:List SV):conc1 (.tup l)=false:=rfl
theorem concB_tup (l:List SV):concB (.tup l)=false:=rfl
theorem conc1_fn (f:Nat) (l:List SV):conc1 (.fn f l)=false:=rfl
theorem concB_fn (f:Nat) (l:List SV):concB (.fn f l)=false:=rfl
theorem conc1_ea (x:Value) (a b c:Nat):conc1 (.ea x a b c)=false:=rfl
theorem concB_ea (x:Value) (a b c:Nat):concB (.ea x a b c)=false:=rfl
theorem conc1_agg (l:List SV):conc1 (.agg l)=false:=rfl
theorem rowOf_own (H:HS) (sz k:Nat):rowOf H sz (.own k)=rowC k (hget H k):=rfl
theorem rowOf_nil (H:HS) (sz:Nat):rowOf H sz (.v (.slice none 0 0))=some (none,sz,[]):=rfl
theorem rowC_box (k:Nat) (cs:List SV) (t:Option Value):rowC k (some (.box cs t))=none:=rfl
theorem rowC_none (k:Nat):rowC k none=none:=rfl
theorem srcOf_own (H:HS) (M:Mem) (sz e s:Nat) (g:Bool) (k:Nat):srcOf H M sz (.slice e s g) (.own k)=srcC sz (hget H k):=rfl
theorem srcOf_v (H:HS) (M:Mem) (sz e s:Nat) (g:Bool) (y:Value):srcOf H M sz (.slice e s g) (.v y)=some (rowsM M y sz,rowsOk M y sz):=rfl
theorem srcOf_str (H:HS) (M:Mem) (sz:Nat) (s:ByteArray):srcOf H M sz .str (.v (.string s))=some ((bl s).map encB,sz=1):=rfl
theorem appD_none (d sz bt:Nat) (zs:List Value) (st:Prop) (q:Option (List (List Value)×Prop)):appD E d sz bt zs st K σ H M none q=st:=by cases q <;> rfl
theorem appD_some (d sz bt:Nat) (zs:List Value) (st:Prop) (q:Option Nat×Nat×List (List Value)):appD E d sz bt zs st K σ H M (some q) none=st:=rfl
theorem one_int (k:IntKind) (n:Int):Value.oneCell' (.int k n)=true:=rfl
theorem one_string (s:ByteArray):Value.oneCell' (.string s)=true:=rfl
theorem one_bool (b:Bool):Value.oneCell' (.bool b)=true:=rfl
theorem one_slice (a:Option Addr) (n c:Nat):Value.oneCell' (.slice a n c)=true:=rfl
theorem one_pointer (a:Option Addr):Value.oneCell' (.pointer a)=true:=rfl
theorem one_map (r:Option Nat):Value.oneCell' (.map r)=true:=rfl
end
@[congr] theorem cvK_congr {S S':Shp} {st q:Prop} (h:S=S'):cvK S st q=cvK S' st q:=by rw [h]
theorem cvK_slice (e sz:Nat) (n:Bool) (st q:Prop):cvK (.slice e sz n) st q=st:=rfl
theorem cvK_int (k:IntKind) (st q:Prop):cvK (.int k) st q=q:=rfl
theorem cvK_str (st q:Prop):cvK .str st q=q:=rfl
theorem cvK_bool (st q:Prop):cvK .bool st q=q:=rfl
theorem cvK_one (st q:Prop):cvK .one st q=q:=rfl
theorem cvK_arr (n sz tot:Nat) (st q:Prop):cvK (.arr n sz tot) st q=q:=rfl
theorem cvK_struct (fs:List (Nat×Nat×Bool)) (sz:Nat) (st q:Prop):cvK (.struct fs sz) st q=q:=rfl
theorem OpX_conv {E:Env} {K:KP} {σ:Sig} {H:HS} {M:Mem} {d:Option Nat} {ty:TypeId} {pos:String} {aft:Array Edge} {gd:Option (Nat×Bool)} (s t:TypeId) (x:Operand):OpX E ⟨d,.convert s t x,ty,pos,aft,gd⟩ K σ H M=OpK E ⟨d,.convert s t x,ty,pos,aft,gd⟩ K σ H M:=rfl
theorem sRo:type_of% (And.intro (And.intro @rollQ_normal @rollQ_ret) (And.intro @rollQ_exit @RoundsK_succ)):=⟨⟨@rollQ_normal,@rollQ_ret⟩,@rollQ_exit,@RoundsK_succ⟩
theorem sb7:type_of% (And.intro (And.intro @cvK_slice @cvK_int) (And.intro (And.intro @cvK_str @cvK_one) (And.intro (And.intro @cvK_struct (And.intro @cvK_arr (And.intro (And.intro @ixSV_arr @ixSV_arrV) @lay.eq_8))) (And.intro @cvK_bool @OpX_conv)))):=And.intro (And.intro @cvK_slice @cvK_int) (And.intro (And.intro @cvK_str @cvK_one) (And.intro (And.intro @cvK_struct (And.intro @cvK_arr (And.intro (And.intro @ixSV_arr @ixSV_arrV) @lay.eq_8))) (And.intro @cvK_bool @OpX_conv)))
theorem sb6:type_of% (And.intro (And.intro @pev_slice3 @slice3_ev) @o4c.eq_1):=And.intro (And.intro @pev_slice3 @slice3_ev) @o4c.eq_1
theorem sx0:type_of% (And.intro (And.intro (And.intro (And.intro (And.intro (@keep_nil) (And.intro @keep_cons @partsO_nil)) (And.intro (@partsO_cons) (And.intro @argsO_nil @argsO_cons))) (And.intro (And.intro (@buildSV_ev) (And.intro @fillSV_nil @fillSV_cons)) (And.intro (@pev_len) (And.intro @pev_min @pev_max)))) (And.intro (And.intro (And.intro (@pev_move) (And.intro @pev_assign @pev_pick)) (And.intro (@pev_build) (And.intro @pev_load @pev_nil))) (And.intro (And.intro (@pev_bin) (And.intro @pev_un @pev_conv)) (And.intro (@pev_slice) (And.intro @pev_slice_hi @pev_slice_lo))))) (And.intro (And.intro (And.intro (And.intro (@pev_fieldAddr) (And.intro @pev_field @pev_indexAddr)) (And.intro (@pev_index) (And.intro @pev_extract @lenSV_str))) (And.intro (And.intro (@lenSV_sl) (And.intro @lenSV_own @ixSV_sl)) (And.intro (@ixSV_own) (And.intro @fieldSV_ev @fieldAddrSV_ev)))) (And.intro (And.intro (And.intro (@fieldAt_struct) (And.intro @gdOf_none @gdOf_some)) (And.intro (@wpR_nil) (And.intro @wpR_cons @wpRC_some))) (And.intro (And.intro (@wpQ_nil) (And.intro @wpQ_cons @wpQC_some)) (And.intro (@putK_ev) (And.intro @qK_ev @stepK_move)))))):=And.intro (And.intro (And.intro (And.intro (And.intro (@keep_nil) (And.intro @keep_cons @partsO_nil)) (And.intro (@partsO_cons) (And.intro @argsO_nil @argsO_cons))) (And.intro (And.intro (@buildSV_ev) (And.intro @fillSV_nil @fillSV_cons)) (And.intro (@pev_len) (And.intro @pev_min @pev_max)))) (And.intro (And.intro (And.intro (@pev_move) (And.intro @pev_assign @pev_pick)) (And.intro (@pev_build) (And.intro @pev_load @pev_nil))) (And.intro (And.intro (@pev_bin) (And.intro @pev_un @pev_conv)) (And.intro (@pev_slice) (And.intro @pev_slice_hi @pev_slice_lo))))) (And.intro (And.intro (And.intro (And.intro (@pev_fieldAddr) (And.intro @pev_field @pev_indexAddr)) (And.intro (@pev_index) (And.intro @pev_extract @lenSV_str))) (And.intro (And.intro (@lenSV_sl) (And.intro @lenSV_own @ixSV_sl)) (And.intro (@ixSV_own) (And.intro @fieldSV_ev @fieldAddrSV_ev)))) (And.intro (And.intro (And.intro (@fieldAt_struct) (And.intro @gdOf_none @gdOf_some)) (And.intro (@wpR_nil) (And.intro @wpR_cons @wpRC_some))) (And.intro (And.intro (@wpQ_nil) (And.intro @wpQ_cons @wpQC_some)) (And.intro (@putK_ev) (And.intro @qK_ev @stepK_move)))))
theorem sx1:type_of% (And.intro (And.intro (And.intro (And.intro (And.intro (@stepK_assign) (And.intro @stepK_pick @stepK_build)) (And.intro (@stepK_load) (And.intro @stepK_nil @stepK_bin))) (And.intro (And.intro (@stepK_un) (And.intro @stepK_conv @stepK_slice)) (And.intro (@stepK_fieldAddr) (And.intro @stepK_field @stepK_indexAddr)))) (And.intro (And.intro (And.intro (@stepK_index) (And.intro @stepK_extract @stepK_len)) (And.intro (@stepK_min) (And.intro @stepK_max @stepK_box))) (And.intro (And.intro (@storeK_ptr) (And.intro @storeK_v @storeK_ea)) (And.intro (@stepK_store) (And.intro @stepK_call @callC_ev))))) (And.intro (And.intro (And.intro (And.intro (@stepQ_move) (And.intro @stepQ_assign @stepQ_pick)) (And.intro (@stepQ_build) (And.intro @stepQ_load @stepQ_nil))) (And.intro (And.intro (@stepQ_bin) (And.intro @stepQ_un @stepQ_conv)) (And.intro (@stepQ_slice) (And.intro @stepQ_fieldAddr @stepQ_field)))) (And.intro (And.intro (And.intro (@stepQ_indexAddr) (And.intro @stepQ_index @stepQ_extract)) (And.intro (@stepQ_len) (And.intro @stepQ_min @stepQ_max))) (And.intro (And.intro (@stepQ_call) (And.intro @callQC_ev @condC_ev)) (And.intro (@wpC_skip) (And.intro @wpC_ret @wpC_exit)))))):=And.intro (And.intro (And.intro (And.intro (And.intro (@stepK_assign) (And.intro @stepK_pick @stepK_build)) (And.intro (@stepK_load) (And.intro @stepK_nil @stepK_bin))) (And.intro (And.intro (@stepK_un) (And.intro @stepK_conv @stepK_slice)) (And.intro (@stepK_fieldAddr) (And.intro @stepK_field @stepK_indexAddr)))) (And.intro (And.intro (And.intro (@stepK_index) (And.intro @stepK_extract @stepK_len)) (And.intro (@stepK_min) (And.intro @stepK_max @stepK_box))) (And.intro (And.intro (@storeK_ptr) (And.intro @storeK_v @storeK_ea)) (And.intro (@stepK_store) (And.intro @stepK_call @callC_ev))))) (And.intro (And.intro (And.intro (And.intro (@stepQ_move) (And.intro @stepQ_assign @stepQ_pick)) (And.intro (@stepQ_build) (And.intro @stepQ_load @stepQ_nil))) (And.intro (And.intro (@stepQ_bin) (And.intro @stepQ_un @stepQ_conv)) (And.intro (@stepQ_slice) (And.intro @stepQ_fieldAddr @stepQ_field)))) (And.intro (And.intro (And.intro (@stepQ_indexAddr) (And.intro @stepQ_index @stepQ_extract)) (And.intro (@stepQ_len) (And.intro @stepQ_min @stepQ_max))) (And.intro (And.intro (@stepQ_call) (And.intro @callQC_ev @condC_ev)) (And.intro (@wpC_skip) (And.intro @wpC_ret @wpC_exit)))))
theorem sx2:type_of% (And.intro (And.intro (And.intro (And.intro (And.intro (@endK_ev) (And.intro @goK_ev @wpC_region)) (And.intro (@wpC_draw) (And.intro @wpC_seq @seqQ_normal))) (And.intro (And.intro (@seqQ_ret) (And.intro @seqQ_exit @wpC_block)) (And.intro (@blkQ_normal) (And.intro @blkQ_ret @blkQ_exit)))) (And.intro (And.intro (And.intro (@wpC_cond) (And.intro @wpC_loop @rndQ_normal)) (And.intro (@rndQ_ret) (And.intro @rndQ_exit @RetK_ret))) (And.intro (And.intro (@RetK_normal) (And.intro @rsvs_nil @rsvs_cons)) (And.intro (@rsv1_tmp) (And.intro @rsv1_cell @keepC.eq_1))))) (And.intro (And.intro (And.intro (And.intro (@keepC.eq_2) (And.intro @o1c.eq_1 @o1c.eq_2)) (And.intro (@o2c.eq_1) (And.intro @o2c.eq_2 @o2c.eq_3))) (And.intro (And.intro (@o3c.eq_1) (And.intro @o3c.eq_2 @o3c.eq_3)) (And.intro (@o3c.eq_4) (And.intro @pickC.eq_1 @pickC.eq_2)))) (And.intro (And.intro (And.intro (@partC.eq_1) (And.intro @partC.eq_2 @partC.eq_3)) (And.intro (@argC.eq_1) (And.intro @argC.eq_2 @argC.eq_3))) (And.intro (And.intro (@buildC.eq_1) (And.intro @buildC.eq_2 @buildD.eq_1)) (And.intro (@buildD.eq_2) (And.intro @fillC.eq_1 @fillC.eq_2)))))):=And.intro (And.intro (And.intro (And.intro (And.intro (@endK_ev) (And.intro @goK_ev @wpC_region)) (And.intro (@wpC_draw) (And.intro @wpC_seq @seqQ_normal))) (And.intro (And.intro (@seqQ_ret) (And.intro @seqQ_exit @wpC_block)) (And.intro (@blkQ_normal) (And.intro @blkQ_ret @blkQ_exit)))) (And.intro (And.intro (And.intro (@wpC_cond) (And.intro @wpC_loop @rndQ_normal)) (And.intro (@rndQ_ret) (And.intro @rndQ_exit @RetK_ret))) (And.intro (And.intro (@RetK_normal) (And.intro @rsvs_nil @rsvs_cons)) (And.intro (@rsv1_tmp) (And.intro @rsv1_cell @keepC.eq_1))))) (And.intro (And.intro (And.intro (And.intro (@keepC.eq_2) (And.intro @o1c.eq_1 @o1c.eq_2)) (And.intro (@o2c.eq_1) (And.intro @o2c.eq_2 @o2c.eq_3))) (And.intro (And.intro (@o3c.eq_1) (And.intro @o3c.eq_2 @o3c.eq_3)) (And.intro (@o3c.eq_4) (And.intro @pickC.eq_1 @pickC.eq_2)))) (And.intro (And.intro (And.intro (@partC.eq_1) (And.intro @partC.eq_2 @partC.eq_3)) (And.intro (@argC.eq_1) (And.intro @argC.eq_2 @argC.eq_3))) (And.intro (And.intro (@buildC.eq_1) (And.intro @buildC.eq_2 @buildD.eq_1)) (And.intro (@buildD.eq_2) (And.intro @fillC.eq_1 @fillC.eq_2)))))
theorem sx3:type_of% (And.intro (And.intro (And.intro (And.intro (And.intro (@mmC.eq_1) (And.intro @mmC.eq_2 @mmC.eq_3)) (And.intro (@lenC.eq_1) (And.intro @lenC.eq_2 @lenC.eq_3))) (And.intro (And.intro (@ixC.eq_1) (And.intro @ixC.eq_2 @ixC.eq_3)) (And.intro (@fldC.eq_1) (And.intro @fldC.eq_2 @fldC.eq_3)))) (And.intro (And.intro (And.intro (@faC.eq_1) (And.intro @faC.eq_2 @faC.eq_3)) (And.intro (@faC.eq_4) (And.intro @gdC.eq_1 @gdC.eq_2))) (And.intro (And.intro (@gdD.eq_1) (And.intro @gdD.eq_2 @boxC.eq_1)) (And.intro (@boxC.eq_2) (And.intro @stC.eq_1 @stC.eq_2))))) (And.intro (And.intro (And.intro (And.intro (@stC.eq_3) (And.intro @stC.eq_4 @storeC.eq_1)) (And.intro (@storeC.eq_2) (And.intro @storeC.eq_3 @retC.eq_1))) (And.intro (And.intro (@retC.eq_2) (And.intro @rsC.eq_1 @rsC.eq_2)) (And.intro (@rsC.eq_3) (And.intro @rs1C.eq_1 @rs1C.eq_2)))) (And.intro (And.intro (And.intro (@rs1C.eq_3) (And.intro @rs2C.eq_1 @rs2C.eq_2)) (And.intro (@rs2C.eq_3) (And.intro @pickSV.eq_1 @pickSV.eq_2))) (And.intro (And.intro (@putAt.eq_1) (And.intro @putAt.eq_2 @cellsSV.eq_1)) (And.intro (@cellsSV.eq_2) (And.intro @opv.eq_1 @opv.eq_2)))))):=And.intro (And.intro (And.intro (And.intro (And.intro (@mmC.eq_1) (And.intro @mmC.eq_2 @mmC.eq_3)) (And.intro (@lenC.eq_1) (And.intro @lenC.eq_2 @lenC.eq_3))) (And.intro (And.intro (@ixC.eq_1) (And.intro @ixC.eq_2 @ixC.eq_3)) (And.intro (@fldC.eq_1) (And.intro @fldC.eq_2 @fldC.eq_3)))) (And.intro (And.intro (And.intro (@faC.eq_1) (And.intro @faC.eq_2 @faC.eq_3)) (And.intro (@faC.eq_4) (And.intro @gdC.eq_1 @gdC.eq_2))) (And.intro (And.intro (@gdD.eq_1) (And.intro @gdD.eq_2 @boxC.eq_1)) (And.intro (@boxC.eq_2) (And.intro @stC.eq_1 @stC.eq_2))))) (And.intro (And.intro (And.intro (And.intro (@stC.eq_3) (And.intro @stC.eq_4 @storeC.eq_1)) (And.intro (@storeC.eq_2) (And.intro @storeC.eq_3 @retC.eq_1))) (And.intro (And.intro (@retC.eq_2) (And.intro @rsC.eq_1 @rsC.eq_2)) (And.intro (@rsC.eq_3) (And.intro @rs1C.eq_1 @rs1C.eq_2)))) (And.intro (And.intro (And.intro (@rs1C.eq_3) (And.intro @rs2C.eq_1 @rs2C.eq_2)) (And.intro (@rs2C.eq_3) (And.intro @pickSV.eq_1 @pickSV.eq_2))) (And.intro (And.intro (@putAt.eq_1) (And.intro @putAt.eq_2 @cellsSV.eq_1)) (And.intro (@cellsSV.eq_2) (And.intro @opv.eq_1 @opv.eq_2)))))
theorem sx4:type_of% (And.intro (And.intro (And.intro (And.intro (And.intro (@opv.eq_3) (And.intro @opv.eq_4 @lk.eq_1)) (And.intro (@lk.eq_2) (And.intro @binSV.eq_1 (And.intro @binSV.eq_2 (And.intro @binSV.eq_3 (And.intro @ptrNil.eq_1 @ptrNil.eq_2)))))) (And.intro (And.intro (@bin.eq_1) (And.intro @bin.eq_2 @bin.eq_3)) (And.intro (@bin.eq_4) (And.intro @binI.eq_1 @binI.eq_2)))) (And.intro (And.intro (And.intro (@binI.eq_3) (And.intro @binI.eq_4 @binI.eq_5)) (And.intro (@binI.eq_6) (And.intro @binI.eq_7 @binI.eq_8))) (And.intro (And.intro (@binI.eq_9) (And.intro @binI.eq_10 @binI.eq_11)) (And.intro (@binI.eq_12) (And.intro @binI.eq_13 @binI.eq_14))))) (And.intro (And.intro (And.intro (And.intro (@binI.eq_15) (And.intro @binI.eq_16 @binI.eq_17)) (And.intro (@binS.eq_1) (And.intro @binS.eq_2 @binS.eq_3))) (And.intro (And.intro (@binS.eq_4) (And.intro @binS.eq_5 @binS.eq_6)) (And.intro (@binS.eq_7) (And.intro @binS.eq_8 @binS.eq_9)))) (And.intro (And.intro (And.intro (@binS.eq_10) (And.intro @binS.eq_11 @binS.eq_12)) (And.intro (@binS.eq_13) (And.intro @binS.eq_14 @binS.eq_15))) (And.intro (And.intro (@binS.eq_16) (And.intro @binS.eq_17 @binB.eq_1)) (And.intro (@binB.eq_2) (And.intro @binB.eq_3 @sameKind.eq_1)))))):=And.intro (And.intro (And.intro (And.intro (And.intro (@opv.eq_3) (And.intro @opv.eq_4 @lk.eq_1)) (And.intro (@lk.eq_2) (And.intro @binSV.eq_1 (And.intro @binSV.eq_2 (And.intro @binSV.eq_3 (And.intro @ptrNil.eq_1 @ptrNil.eq_2)))))) (And.intro (And.intro (@bin.eq_1) (And.intro @bin.eq_2 @bin.eq_3)) (And.intro (@bin.eq_4) (And.intro @binI.eq_1 @binI.eq_2)))) (And.intro (And.intro (And.intro (@binI.eq_3) (And.intro @binI.eq_4 @binI.eq_5)) (And.intro (@binI.eq_6) (And.intro @binI.eq_7 @binI.eq_8))) (And.intro (And.intro (@binI.eq_9) (And.intro @binI.eq_10 @binI.eq_11)) (And.intro (@binI.eq_12) (And.intro @binI.eq_13 @binI.eq_14))))) (And.intro (And.intro (And.intro (And.intro (@binI.eq_15) (And.intro @binI.eq_16 @binI.eq_17)) (And.intro (@binS.eq_1) (And.intro @binS.eq_2 @binS.eq_3))) (And.intro (And.intro (@binS.eq_4) (And.intro @binS.eq_5 @binS.eq_6)) (And.intro (@binS.eq_7) (And.intro @binS.eq_8 @binS.eq_9)))) (And.intro (And.intro (And.intro (@binS.eq_10) (And.intro @binS.eq_11 @binS.eq_12)) (And.intro (@binS.eq_13) (And.intro @binS.eq_14 @binS.eq_15))) (And.intro (And.intro (@binS.eq_16) (And.intro @binS.eq_17 @binB.eq_1)) (And.intro (@binB.eq_2) (And.intro @binB.eq_3 @sameKind.eq_1)))))
theorem sx5:type_of% (And.intro (And.intro (And.intro (And.intro (And.intro (@sameKind.eq_2) (And.intro @sameKind.eq_3 @sameKind.eq_4)) (And.intro (@sameKind.eq_5) (And.intro @sameKind.eq_6 @sameKind.eq_7))) (And.intro (And.intro (@sameKind.eq_8) (And.intro @sameKind.eq_9 @sameKind.eq_10)) (And.intro (@sameKind.eq_11) (And.intro @sameKind.eq_12 @sameKind.eq_13)))) (And.intro (And.intro (And.intro (@sameKind.eq_14) (And.intro @sameKind.eq_15 @sameKind.eq_16)) (And.intro (@sameKind.eq_17) (And.intro @unSV.eq_1 @unSV.eq_2))) (And.intro (And.intro (@unV.eq_1) (And.intro @unV.eq_2 @unV.eq_3)) (And.intro (@unV.eq_4) (And.intro @convSV.eq_1 @convSV.eq_2))))) (And.intro (And.intro (And.intro (And.intro (@convV.eq_1) (And.intro @convV.eq_2 @convV.eq_3)) (And.intro (@indexSV.eq_1) (And.intro @indexSV.eq_2 @sliceSV.eq_1))) (And.intro (And.intro (@sliceSV.eq_2) (And.intro @sliceSV.eq_3 @sliceStr.eq_1)) (And.intro (@sliceVal.eq_1) (And.intro @nilSV.eq_1 @nilSV.eq_2)))) (And.intro (And.intro (And.intro (@nilSV.eq_3) (And.intro @nilSV.eq_4 @nilSV.eq_5)) (And.intro (@extSV.eq_1) (And.intro @extSV.eq_2 @mnmx.eq_1))) (And.intro (And.intro (@mnmx.eq_2) (And.intro @mnmx.eq_3 @ld.eq_1)) (And.intro (@ld.eq_2) (And.intro @ld.eq_3 @ld.eq_4)))))):=And.intro (And.intro (And.intro (And.intro (And.intro (@sameKind.eq_2) (And.intro @sameKind.eq_3 @sameKind.eq_4)) (And.intro (@sameKind.eq_5) (And.intro @sameKind.eq_6 @sameKind.eq_7))) (And.intro (And.intro (@sameKind.eq_8) (And.intro @sameKind.eq_9 @sameKind.eq_10)) (And.intro (@sameKind.eq_11) (And.intro @sameKind.eq_12 @sameKind.eq_13)))) (And.intro (And.intro (And.intro (@sameKind.eq_14) (And.intro @sameKind.eq_15 @sameKind.eq_16)) (And.intro (@sameKind.eq_17) (And.intro @unSV.eq_1 @unSV.eq_2))) (And.intro (And.intro (@unV.eq_1) (And.intro @unV.eq_2 @unV.eq_3)) (And.intro (@unV.eq_4) (And.intro @convSV.eq_1 @convSV.eq_2))))) (And.intro (And.intro (And.intro (And.intro (@convV.eq_1) (And.intro @convV.eq_2 @convV.eq_3)) (And.intro (@indexSV.eq_1) (And.intro @indexSV.eq_2 @sliceSV.eq_1))) (And.intro (And.intro (@sliceSV.eq_2) (And.intro @sliceSV.eq_3 @sliceStr.eq_1)) (And.intro (@sliceVal.eq_1) (And.intro @nilSV.eq_1 @nilSV.eq_2)))) (And.intro (And.intro (And.intro (@nilSV.eq_3) (And.intro @nilSV.eq_4 @nilSV.eq_5)) (And.intro (@extSV.eq_1) (And.intro @extSV.eq_2 @mnmx.eq_1))) (And.intro (And.intro (@mnmx.eq_2) (And.intro @mnmx.eq_3 @ld.eq_1)) (And.intro (@ld.eq_2) (And.intro @ld.eq_3 @ld.eq_4)))))
theorem sx6:type_of% (And.intro (And.intro (And.intro (And.intro (And.intro (@ldK.eq_1) (And.intro @ldK.eq_2 @ldK.eq_3)) (And.intro (@ldBox.eq_1) (And.intro @ldBox.eq_2 @ldBox.eq_3))) (And.intro (And.intro (@ldRow.eq_1) (And.intro @ldRow.eq_2 @ldRow.eq_3)) (And.intro (@ldE.eq_1) (And.intro @ldE.eq_2 @ldE.eq_3)))) (And.intro (And.intro (And.intro (@ldP.eq_1) (And.intro @ldP.eq_2 @ldP.eq_3)) (And.intro (@lay.eq_1) (And.intro @lay.eq_2 @lay.eq_3))) (And.intro (And.intro (@lay.eq_4) (And.intro @lay.eq_5 @lay.eq_6)) (And.intro (@lay.eq_7) (And.intro @layN.eq_1 @layN.eq_2))))) (And.intro (And.intro (And.intro (And.intro (@getSV.eq_1) (And.intro @bad.eq_1 @boxK.eq_1)) (And.intro (@sigNoKey.eq_1) (And.intro @sigNoKey.eq_2 @hNoKey.eq_1))) (And.intro (And.intro (@hNoKey.eq_2) (And.intro @poNoKey.eq_1 @poNoKey.eq_2)) (And.intro (@SV.noKey.eq_1) (And.intro @SV.noKey.eq_2 @SV.noKey.eq_3)))) (And.intro (And.intro (And.intro (@SV.noKey.eq_4) (And.intro @SV.noKey.eq_5 @SV.noKey.eq_6)) (And.intro (@SV.noKey.eq_7) (And.intro @SV.noKeys.eq_1 @SV.noKeys.eq_2))) (And.intro (And.intro (@hget.eq_1) (And.intro @hget.eq_2 @hset.eq_1)) (And.intro (@hset.eq_2) (And.intro @stBox.eq_1 @ones.eq_1)))))):=And.intro (And.intro (And.intro (And.intro (And.intro (@ldK.eq_1) (And.intro @ldK.eq_2 @ldK.eq_3)) (And.intro (@ldBox.eq_1) (And.intro @ldBox.eq_2 @ldBox.eq_3))) (And.intro (And.intro (@ldRow.eq_1) (And.intro @ldRow.eq_2 @ldRow.eq_3)) (And.intro (@ldE.eq_1) (And.intro @ldE.eq_2 @ldE.eq_3)))) (And.intro (And.intro (And.intro (@ldP.eq_1) (And.intro @ldP.eq_2 @ldP.eq_3)) (And.intro (@lay.eq_1) (And.intro @lay.eq_2 @lay.eq_3))) (And.intro (And.intro (@lay.eq_4) (And.intro @lay.eq_5 @lay.eq_6)) (And.intro (@lay.eq_7) (And.intro @layN.eq_1 @layN.eq_2))))) (And.intro (And.intro (And.intro (And.intro (@getSV.eq_1) (And.intro @bad.eq_1 @boxK.eq_1)) (And.intro (@sigNoKey.eq_1) (And.intro @sigNoKey.eq_2 @hNoKey.eq_1))) (And.intro (And.intro (@hNoKey.eq_2) (And.intro @poNoKey.eq_1 @poNoKey.eq_2)) (And.intro (@SV.noKey.eq_1) (And.intro @SV.noKey.eq_2 @SV.noKey.eq_3)))) (And.intro (And.intro (And.intro (@SV.noKey.eq_4) (And.intro @SV.noKey.eq_5 @SV.noKey.eq_6)) (And.intro (@SV.noKey.eq_7) (And.intro @SV.noKeys.eq_1 @SV.noKeys.eq_2))) (And.intro (And.intro (@hget.eq_1) (And.intro @hget.eq_2 @hset.eq_1)) (And.intro (@hset.eq_2) (And.intro @stBox.eq_1 @ones.eq_1)))))
theorem sx7:type_of% (And.intro (And.intro (And.intro (And.intro (And.intro @ones.eq_2 @one1.eq_1) (And.intro (@one1.eq_2) (And.intro @one1.eq_3 @one1.eq_4))) (And.intro (And.intro @one1.eq_5 @one1.eq_6) (And.intro (@one1.eq_7) (And.intro @oneS.eq_1 @oneS.eq_2)))) (And.intro (And.intro (And.intro @oneS.eq_3 @oneV.eq_1) (And.intro (@oneV.eq_2) (And.intro @onesP.eq_1 @onesP.eq_2))) (And.intro (And.intro (@dOk.eq_1) (And.intro @params.eq_1 @params.eq_2)) (And.intro (@one?.eq_1) (And.intro @one?.eq_2 @SV.conc.eq_1))))) (And.intro (And.intro (And.intro (And.intro @SV.conc.eq_2 @SV.conc.eq_3) (And.intro (@SV.conc.eq_4) (And.intro @SV.conc.eq_5 @SV.conc.eq_6))) (And.intro (And.intro @SV.conc.eq_7 @SV.concs.eq_1) (And.intro (@SV.concs.eq_2) (And.intro @subS.eq_1 @subS.eq_2)))) (And.intro (And.intro (And.intro @subH.eq_1 @subH.eq_2) (And.intro (@cellsE.eq_1) (And.intro @cellsE.eq_2 @oksE.eq_1))) (And.intro (And.intro (@oksE.eq_2) (And.intro @cellsP.eq_1 @cellsP.eq_2)) (And.intro (@oksP.eq_1) (And.intro @oksP.eq_2 @bl_B)))))):=And.intro (And.intro (And.intro (And.intro (And.intro @ones.eq_2 @one1.eq_1) (And.intro (@one1.eq_2) (And.intro @one1.eq_3 @one1.eq_4))) (And.intro (And.intro @one1.eq_5 @one1.eq_6) (And.intro (@one1.eq_7) (And.intro @oneS.eq_1 @oneS.eq_2)))) (And.intro (And.intro (And.intro @oneS.eq_3 @oneV.eq_1) (And.intro (@oneV.eq_2) (And.intro @onesP.eq_1 @onesP.eq_2))) (And.intro (And.intro (@dOk.eq_1) (And.intro @params.eq_1 @params.eq_2)) (And.intro (@one?.eq_1) (And.intro @one?.eq_2 @SV.conc.eq_1))))) (And.intro (And.intro (And.intro (And.intro @SV.conc.eq_2 @SV.conc.eq_3) (And.intro (@SV.conc.eq_4) (And.intro @SV.conc.eq_5 @SV.conc.eq_6))) (And.intro (And.intro @SV.conc.eq_7 @SV.concs.eq_1) (And.intro (@SV.concs.eq_2) (And.intro @subS.eq_1 @subS.eq_2)))) (And.intro (And.intro (And.intro @subH.eq_1 @subH.eq_2) (And.intro (@cellsE.eq_1) (And.intro @cellsE.eq_2 @oksE.eq_1))) (And.intro (And.intro (@oksE.eq_2) (And.intro @cellsP.eq_1 @cellsP.eq_2)) (And.intro (@oksP.eq_1) (And.intro @oksP.eq_2 @bl_B)))))
def sdC (d:Nat) (D:List Nat) (j:Nat) (g:Bool) (s:SV) (σ:Sig):Bool→Bool→Sig
 | true,_=>sigDropA d D σ
 | false,true=>(j,g,s) :: sigDropA d D σ
 | false,false=>sigDropA d (j :: D) σ
theorem sigDropA_ev (d:Nat) (D:List Nat) (j:Nat) (g:Bool) (s:SV) (σ:Sig):sigDropA d D ((j,g,s) :: σ)=sdC d D j g s σ (memN j D) (s.noKey d):=by
 simp only [sigDropA]
 cases memN j D <;> cases s.noKey d <;> rfl
theorem sx8:type_of% (And.intro (And.intro (And.intro (And.intro (And.intro (And.intro @stepK_bs @stepK_mk) (And.intro @stepK_al @stepK_app)) (And.intro (And.intro @OpX_st @conc1_own) (And.intro @concB_own (And.intro @conc1_ptr @concB_ptr)))) (And.intro (And.intro (And.intro @conc1_tup @concB_tup) (And.intro @conc1_fn @concB_fn)) (And.intro (And.intro @conc1_ea @concB_ea) (And.intro @conc1_agg (And.intro @rowOf_own @rowOf_nil))))) (And.intro (And.intro (And.intro (And.intro @rowC_box @rowC_none) (And.intro @srcOf_own @srcOf_v)) (And.intro (And.intro @srcOf_str @appD_none) (And.intro @appD_some (And.intro @one_int @one_string)))) (And.intro (And.intro (And.intro @one_bool @one_slice) (And.intro @one_pointer @one_map)) (And.intro (And.intro @memN.eq_1 @memN.eq_2) (And.intro @sigDropA.eq_1 (And.intro (And.intro @sigDropA_ev (And.intro @sdC.eq_1 (And.intro @sdC.eq_2 @sdC.eq_3))) @sigDrop.eq_1)))))) (And.intro (And.intro (And.intro (And.intro (And.intro @hdel.eq_1 @hdel.eq_2) (And.intro @hdelk.eq_1 @hdelk.eq_2)) (And.intro (And.intro @hdelk?.eq_1 @hdelk?.eq_2) (And.intro @conc1.eq_1 (And.intro @conc1s.eq_1 @conc1s.eq_2)))) (And.intro (And.intro (And.intro @concB.eq_1 @concB.eq_2) (And.intro @concP.eq_1 @concP.eq_2)) (And.intro (And.intro @cell1.eq_1 @cells1.eq_1) (And.intro @cells1.eq_2 (And.intro @cellsV.eq_1 @cellsV.eq_2))))) (And.intro (And.intro (And.intro (And.intro @onesV.eq_1 @onesV.eq_2) (And.intro @rowP.eq_1 @rowP.eq_2)) (And.intro (And.intro @rowK.eq_1 @bsD.eq_1) (And.intro @bsD.eq_2 (And.intro @bsC.eq_1 @rowC.eq_1)))) (And.intro (And.intro (And.intro @srcC.eq_1 @appD.eq_1) (And.intro @appC.eq_1 (And.intro @mkC.eq_1 @alC.eq_1))) (And.intro (And.intro @stRowE.eq_1 @stRC.eq_1) (And.intro @stRB.eq_1 (And.intro @stRB.eq_2 @stRD.eq_1))))))):=(And.intro (And.intro (And.intro (And.intro (And.intro (And.intro @stepK_bs @stepK_mk) (And.intro @stepK_al @stepK_app)) (And.intro (And.intro @OpX_st @conc1_own) (And.intro @concB_own (And.intro @conc1_ptr @concB_ptr)))) (And.intro (And.intro (And.intro @conc1_tup @concB_tup) (And.intro @conc1_fn @concB_fn)) (And.intro (And.intro @conc1_ea @concB_ea) (And.intro @conc1_agg (And.intro @rowOf_own @rowOf_nil))))) (And.intro (And.intro (And.intro (And.intro @rowC_box @rowC_none) (And.intro @srcOf_own @srcOf_v)) (And.intro (And.intro @srcOf_str @appD_none) (And.intro @appD_some (And.intro @one_int @one_string)))) (And.intro (And.intro (And.intro @one_bool @one_slice) (And.intro @one_pointer @one_map)) (And.intro (And.intro @memN.eq_1 @memN.eq_2) (And.intro @sigDropA.eq_1 (And.intro (And.intro @sigDropA_ev (And.intro @sdC.eq_1 (And.intro @sdC.eq_2 @sdC.eq_3))) @sigDrop.eq_1)))))) (And.intro (And.intro (And.intro (And.intro (And.intro @hdel.eq_1 @hdel.eq_2) (And.intro @hdelk.eq_1 @hdelk.eq_2)) (And.intro (And.intro @hdelk?.eq_1 @hdelk?.eq_2) (And.intro @conc1.eq_1 (And.intro @conc1s.eq_1 @conc1s.eq_2)))) (And.intro (And.intro (And.intro @concB.eq_1 @concB.eq_2) (And.intro @concP.eq_1 @concP.eq_2)) (And.intro (And.intro @cell1.eq_1 @cells1.eq_1) (And.intro @cells1.eq_2 (And.intro @cellsV.eq_1 @cellsV.eq_2))))) (And.intro (And.intro (And.intro (And.intro @onesV.eq_1 @onesV.eq_2) (And.intro @rowP.eq_1 @rowP.eq_2)) (And.intro (And.intro @rowK.eq_1 @bsD.eq_1) (And.intro @bsD.eq_2 (And.intro @bsC.eq_1 @rowC.eq_1)))) (And.intro (And.intro (And.intro @srcC.eq_1 @appD.eq_1) (And.intro @appC.eq_1 (And.intro @mkC.eq_1 @alC.eq_1))) (And.intro (And.intro @stRowE.eq_1 @stRC.eq_1) (And.intro @stRB.eq_1 (And.intro @stRB.eq_2 @stRD.eq_1)))))))
theorem sx9:type_of% (And.intro (And.intro @bin_nil (And.intro @nilB.eq_1 @nilB.eq_2)) (And.intro @Shp.isSl.eq_1 (And.intro @isSl.eq_1 (And.intro @someV.eq_1 (And.intro @someV_none (And.intro @pickSV_f (And.intro @pickSV_t (And.intro @stRC.eq_2 (And.intro @gdC_false (And.intro (And.intro @unV_undef (And.intro @bin_ui @bin_iu)) (And.intro (And.intro @bin_us (And.intro @bin_su @bin_ub)) (And.intro @bin_bu (And.intro @bin_uu (And.intro @ext_undef (And.intro @pickC_undef (And.intro (And.intro @convH.eq_1 @convH.eq_2) (And.intro (And.intro @convRow.eq_1 @convRow_none) (And.intro @elShp.eq_1 (And.intro @u8s.eq_1 @u8s.eq_2))))))))))))))))))):=And.intro (And.intro @bin_nil (And.intro @nilB.eq_1 @nilB.eq_2)) (And.intro @Shp.isSl.eq_1 (And.intro @isSl.eq_1 (And.intro @someV.eq_1 (And.intro @someV_none (And.intro @pickSV_f (And.intro @pickSV_t (And.intro @stRC.eq_2 (And.intro @gdC_false (And.intro (And.intro @unV_undef (And.intro @bin_ui @bin_iu)) (And.intro (And.intro @bin_us (And.intro @bin_su @bin_ub)) (And.intro @bin_bu (And.intro @bin_uu (And.intro @ext_undef (And.intro @pickC_undef (And.intro (And.intro @convH.eq_1 @convH.eq_2) (And.intro (And.intro @convRow.eq_1 @convRow_none) (And.intro @elShp.eq_1 (And.intro @u8s.eq_1 @u8s.eq_2))))))))))))))))))
theorem sxo:type_of% (And.intro (And.intro (And.intro (And.intro @sx0 @sx1) (And.intro @sx2 @sx3)) (And.intro (And.intro @sx4 @sx5) (And.intro @sx6 @sx7))) @sx8):=And.intro (And.intro (And.intro (And.intro @sx0 @sx1) (And.intro @sx2 @sx3)) (And.intro (And.intro @sx4 @sx5) (And.intro @sx6 @sx7))) @sx8
theorem eqLs_nil:eqLs [] []=true:=rfl
theorem sxq:type_of% (And.intro (And.intro (And.intro @eqAgg.eq_1 (And.intro @eqAgg.eq_2 @eqLs.eq_1)) (And.intro @eqLs_nil (And.intro @okLs.eq_1 @okLs.eq_2))) (And.intro (And.intro @eqV.eq_1 (And.intro @eqV.eq_2 @eqV.eq_3)) (And.intro @kindP.eq_1 (And.intro @kindP.eq_2 @kindP.eq_3)))):=(And.intro (And.intro (And.intro @eqAgg.eq_1 (And.intro @eqAgg.eq_2 @eqLs.eq_1)) (And.intro @eqLs_nil (And.intro @okLs.eq_1 @okLs.eq_2))) (And.intro (And.intro @eqV.eq_1 (And.intro @eqV.eq_2 @eqV.eq_3)) (And.intro @kindP.eq_1 (And.intro @kindP.eq_2 @kindP.eq_3))))
section
variable {K:KP} {σ:Sig} {H:HS} {M:Mem}
theorem lenC_tab (sz:Nat) (es:List (List SV)):lenC (some (.tab sz es))=(.v (.int .i64 es.length),True):=rfl
theorem ixC_tab (k sz:Nat) (i:Int) (sz':Nat) (es:List (List SV)):ixC k sz i (some (.tab sz' es))=(.ptr k sz i.toNat 0,sz=sz'∧(0≤i∧i < es.length)):=rfl
theorem ldK_tab (sz i off:Nat) (L:Option (Nat×Bool)) (sz':Nat) (es:List (List SV)):ldK (some (.tab sz' es)) sz i off L=((ldTab es sz i off L).1,sz=sz'∧(ldTab es sz i off L).2):=rfl
theorem stC_tab (d:Option Nat) (L:Option (Nat×Bool)) (k i off:Nat) (s:SV) (st:Prop) (sz':Nat) (es:List (List SV)):stC K σ H M d L k i off s st (some (.tab sz' es))=st:=rfl
theorem rowC_tab (k sz':Nat) (es:List (List SV)):rowC k (some (.tab sz' es))=none:=rfl
theorem srcC_tab (sz sz':Nat) (es:List (List SV)):srcC sz (some (.tab sz' es))=none:=rfl
theorem stRC_tab (d:Option Nat) (L:Option (Nat×Bool)) (k sz i off:Nat) (cs:List Value) (st:Prop) (sz':Nat) (es:List (List SV)):stRC d L k sz i off cs st K σ H M (some (.tab sz' es))=st:=rfl
theorem poNoKey_mp (d:Nat) (es:List (Value×Value)):poNoKey d (.mp es)=true:=rfl
theorem poNoKey_tab (d sz:Nat) (es:List (List SV)):poNoKey d (.tab sz es)=noKeyss d es:=rfl
end
theorem sxt:type_of% (And.intro (And.intro (And.intro @lenC_tab @ixC_tab) (And.intro @ldK_tab @stC_tab)) (And.intro (And.intro (And.intro @rowC_tab @srcC_tab) (And.intro @stRC_tab @poNoKey_tab)) (And.intro (And.intro @noKeyss.eq_1 @noKeyss.eq_2) (And.intro (And.intro @ldTab.eq_1 @ldTab.eq_2) (And.intro @poNoKey_mp @convRow_tab))))):=And.intro (And.intro (And.intro @lenC_tab @ixC_tab) (And.intro @ldK_tab @stC_tab)) (And.intro (And.intro (And.intro @rowC_tab @srcC_tab) (And.intro @stRC_tab @poNoKey_tab)) (And.intro (And.intro @noKeyss.eq_1 @noKeyss.eq_2) (And.intro (And.intro @ldTab.eq_1 @ldTab.eq_2) (And.intro @poNoKey_mp @convRow_tab))))
theorem sx:type_of% (And.intro @sxo (And.intro @sx9 (And.intro @sxt @sxq))):=And.intro @sxo (And.intro @sx9 (And.intro @sxt @sxq))
theorem sb1:(∀ p:Prop,(True∧p)=p)∧(∀ p:Prop,(p∧True)=p)∧(∀ p:Prop,(True→p)=p)∧(∀ p:Prop,(p→True)=True)∧(∀ p:Prop,(p→p)=True)∧(∀ p:Prop,(False→p)=True)∧(∀ p:Prop,(False∧p)=False)∧(∀ p:Prop,(p∧False)=False)
 ∧ (∀ p:Prop,(p∧p)=p)∧((true=true)=True)∧((false=false)=True)∧((true=false)=False)∧((false=true)=False)∧(∀ b:Bool,(b == true)=b)∧(∀ b:Bool,(b == false) = !b)∧(∀ b:Bool,((!b)=true)=(b=false))∧(∀ b:Bool,((!b)=false)=(b=true))
 ∧ (∀ b:Bool,(true && b)=b)∧(∀ b:Bool,(b && true)=b)∧(∀ b:Bool,(false && b)=false)∧(∀ b:Bool,(b && false)=false)∧(∀ b:Bool,(true || b)=true)∧(∀ b:Bool,(b || true)=true)∧(∀ b:Bool,(false || b)=b)∧(∀ b:Bool,(b || false)=b)∧((!true)=false)∧((!false)=true)∧(∀ b:Bool,(!!b)=b):=by simp
theorem sb2:(∀ b c:Bool,(bif b then c else false)=(b && c))∧(∀ b c:Bool,(bif b then true else c)=(b || c))∧(∀ b c:Bool,(bif b then false else c)=(!b && c))∧(∀ b c:Bool,(bif b then c else true)=(!b || c)) ∧
  (∀ b c:Bool,((b && c)=true)=(b=true∧c=true))∧(∀ b c:Bool,((b || c)=false)=(b=false∧c=false))∧(∀ b c:Bool,((b || c)=true)=(b=true∨c=true))∧(∀ b c:Bool,((b && c)=false)=(b=true→c=false)):=by
 refine ⟨?_,?_,?_,?_,?_,?_,?_,?_⟩ <;> (intro b c; cases b <;> cases c <;> simp)
theorem sb3:(∀ (p:Prop) [Decidable p],(decide p=true)=p)∧(∀ (p:Prop) [Decidable p],(decide p=false) = ¬ p)∧(decide True=true)∧(decide False=false):=by simp
theorem sb4:(∀ (α:Type) (x:α) (l:List α),(x :: l)[0]? = some x)∧(∀ (α:Type) (x:α) (l:List α) (n:Nat),(x :: l)[n+1]? = l[n]?)∧(∀ (α β:Type) (f:α→Option β) (x:α),(some x).bind f=f x)∧(∀ (α:Type) (x:α) (l:List α),(x :: l).length=l.length+1)∧(∀ (α:Type),([]:List α).length=0)
 ∧ (∀ (α β:Type) (f:α→β) (x:α) (l:List α),(x :: l).map f=f x :: l.map f)∧(∀ (α β:Type) (f:α→β),([]:List α).map f=[])∧(∀ (α:Type) (x:α) (l r:List α),(x :: l)++r=x :: (l++r))∧(∀ (α:Type) (r:List α),[]++r=r)∧(∀ (α:Type) (r:List α),r++[]=r)
 ∧ (∀ (α:Type) (x y:α) (l:List α),(x :: l).set 0 y=y :: l)∧(∀ (α:Type) (x y:α) (l:List α) (n:Nat),(x :: l).set (n+1) y=x :: l.set n y)∧(∀ (α:Type) (x:α) (l:List α) (n:Nat),(x :: l).take (n+1)=x :: l.take n)∧(∀ (α:Type) (l:List α),l.take 0=[])
 ∧ (∀ (α:Type) (x:α) (l:List α) (n:Nat),(x :: l).drop (n+1)=l.drop n)∧(∀ (α:Type) (l:List α),l.drop 0=l)∧(∀ (α:Type) (x y:α) (l:List α),(x :: l).getD 0 y=x)∧(∀ (α:Type) (x y:α) (l:List α) (n:Nat),(x :: l).getD (n+1) y=l.getD n y)
 ∧ (∀ n:Nat,0+n=n)∧(∀ n:Nat,n+0=n):=by simp
theorem sb5:(∀ (α:Type) (x:α),(x=x)=True)∧(∀ (b:Prop),(¬ ¬ b)=b)∧((¬ True)=False)∧((¬ False)=True)∧(∀ p:Prop,(True∨p)=True)∧(∀ p:Prop,(False∨p)=p)∧(∀ p:Prop,(p∨False)=p)∧(∀ (α β:Type) (x:α) (y:β),(x,y).1=x)∧(∀ (α β:Type) (x:α) (y:β),(x,y).2=y)∧(∀ p q:Prop,(¬ (p∨q))=(¬ p ∧ ¬ q))
  ∧ (∀ α:Type,∀ x y:α,(bif true then x else y)=x)∧(∀ α:Type,∀ x y:α,(bif false then x else y)=y)∧(∀ a b:Int,(¬ a < b)=(b≤a))∧(∀ a b:Int,(¬ a≤b)=(b < a)):=by
 refine ⟨by simp,by simp,by simp,by simp,by simp,by simp,by simp,by simp,by simp,by simp,by simp,by simp,?_,?_⟩ <;> (intros; simp)
theorem szOk_of {P:Program} {t:TypeId} {S:Shp} {n:Nat} (h:shp P t=S) (hz:szT P t=n) (hn:n≠0) (hl:(lay S).all (fun p=>p.1 == n)=true):szOk P t:=by
 intro m g h'
 rw [h] at h'
 rw [h'] at hl
 simp only [Option.all_some,beq_iff_eq] at hl
 exact ⟨by rw [hz]; exact hl.symm,by rw [hl]; exact hn⟩
theorem zq:type_of% (And.intro (And.intro (And.intro @sx @sb1) (And.intro @sb2 @sb3)) (And.intro (And.intro @sb4 @sb5) (And.intro @sb6 @sb7))):=And.intro (And.intro (And.intro @sx @sb1) (And.intro @sb2 @sb3)) (And.intro (And.intro @sb4 @sb5) (And.intro @sb6 @sb7))
end Go.X

