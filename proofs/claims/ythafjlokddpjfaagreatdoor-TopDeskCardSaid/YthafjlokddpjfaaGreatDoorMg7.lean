/- Contracts of functions and the logic that they are proved in (4 texts in one). Conditions: none. -/
import Derived.Test.YthafjlokddpjfaaGreatDoorMg6
import Derived.Laws.Externs
import Derived.Lib.Overlaps
import Derived.Laws.IdiomStrings
set_option linter.unusedSimpArgs false
set_option linter.unusedVariables false
set_option maxHeartbeats 4000000
set_option maxRecDepth 20000
namespace Go.X
open Go Go.RowKit
section
variable {E:Env} {σ:Sig} {H:HS} {M:Mem} {a:Act} {w:World} {ν:Nat→Value} {K:KP} {o:Oper}

/-- private memory that is as it was, in another world -/
theorem Heap.moved (hh:Heap E ν H M w) {w':World} (hb : ∀ b ∈ fp ν H,w'.heap[b]? = w.heap[b]?) (hM:M.on w') (hB:Below E.w0.heap.size E.w0 w'):Heap E ν H M w':=by
 refine ⟨fun q hq=>?_,hh.nodup,hh.apart,hM,hB,hh.le0,hh.fresh,hh.one⟩
 have h0:=hh.holds q hq
 have hm : ∀ b,blk? (ν q.1)=some b→w'.heap[b]? = w.heap[b]?:=fun b h=>hb b (List.mem_filterMap.2 ⟨q,hq,h⟩)
 obtain ⟨j,po⟩:=q
 simp only at hm h0
 cases po with
 | box cs t=>
   obtain ⟨⟨b',T,e,h⟩,ht⟩:=h0
   exact ⟨⟨b',T,e,by rw [hm b' (by rw [e]; rfl)]; exact h⟩,ht⟩
 | row sz es=>
   obtain ⟨h1,h2⟩:=h0
   refine ⟨h1,h2.imp id ?_⟩
   rintro ⟨b',cap,T,sp,e,h3,h4,h5,h⟩
   exact ⟨b',cap,T,sp,e,h3,h4,h5,by rw [hm b' (by rw [e]; rfl)]; exact h⟩
 | tab sz es=>
   obtain ⟨h1,h2⟩:=h0
   refine ⟨h1,h2.imp id ?_⟩
   rintro ⟨b',cap,T,sp,e,h3,h4,h5,h⟩
   exact ⟨b',cap,T,sp,e,h3,h4,h5,by rw [hm b' (by rw [e]; rfl)]; exact h⟩
 | mp es=>
   obtain ⟨b',m,c,e,h,h3⟩:=h0
   exact ⟨b',m,c,e,by rw [hm b' (by rw [e]; rfl)]; exact h,h3⟩

def Ctxs (A:SV→List SV):Prop:=∀ s s' ν ν',s.val ν=s'.val ν'→SV.vals ν (A s)=SV.vals ν' (A s')
theorem Ctxs.cons0 (l:List SV) (hl:SV.concs l=true):Ctxs (fun s=>s :: l):=fun s s' ν ν' h=>by
 simp only [SV.vals,h,SV.concs_vals (ν:=ν') (ν':=ν) l hl]
/-- a call that is lent a row of the call's own, and hands back a row of its own; the rest of what the call has stays -/
theorem CallK.lendR {f d sz sz':Nat} {l:List SV} {es es':List (List Value)} {A:SV→List SV} {T:SV→SV} (k:Nat) (hA:Ctxs A) (hT:Ctx T) (hl:l=A (.own k)) (hk:hget H k=some (.row sz es)) (hd:decide (d < E.N)=true)
  (h : ∀ M',M.le M'→MeetsH E.P f (A (.own 8000)) [(8000,.row sz es)] M' (OwnR T sz' es')) (hn:hNoKey d (hdelk k (hdel d H))=true)
  (hK:K ((d,true,T (.own (8 * d))) :: sigDrop d σ) ((8 * d,.row sz' es') :: hdelk k (hdel d H)) M):CallK E f l d K σ H M:=by
 intro ν a w hs hh
 refine .inl ⟨(h M (Mem.le.refl M)).1,?_⟩
 have hsub:(hdelk k (hdel d H)).Sublist H:=(hdelk_sub k _).trans (hdel_sub d H)
 let rest:=hdelk k (hdel d H)
 have hrest:Heap E ν rest M w:=hh.sublist hsub
 let M1:Mem:=fun b=>if b ∈ fp ν rest then w.heap[b]? else M b
 have hM1:M.le M1:=fun b o hb=>by
  simp only [M1]
  by_cases hf:b ∈ fp ν rest
  · have:=(hrest.apart b hf).1; rw [hb] at this; cases this
  · rw [if_neg hf]; exact hb
 have hM1w:M1.on w:=fun b o hb=>by
  simp only [M1] at hb
  split at hb
  · exact hb
  · exact hh.mem b o hb
 let ν1:Nat→Value:=fun j=>if j=8000 then ν k else .bool false
 have e1:ν1 8000=ν k:=by simp [ν1]
 have hp1:Heap ⟨E.P,0,E.w0,M1⟩ ν1 [(8000,.row sz es)] M1 w:=by
  have hr:=hh.holds _ (hget_mem hk)
  have hfp : ∀ b,b ∈ fp ν1 [(8000,.row sz es)]→blk? (ν k)=some b:=fun b hb=>by
   simp only [fp,List.filterMap_cons,List.filterMap_nil,e1] at hb
   split at hb
   · cases hb
   · rename_i b' he; simp only [List.mem_singleton] at hb; rw [hb]; exact he
  refine ⟨fun p hp=>?_,?_,fun b hb=>?_,hM1w,hh.below,Mem.le.refl _,fun b hb=>.inl hb,fun j=>?_⟩
  · simp only [List.mem_singleton] at hp
    subst hp
    rw [e1]
    exact hr
  · simp only [fp,List.filterMap_cons,List.filterMap_nil]
    split <;> simp
  · have h1:=hfp b hb
    have h2:=hh.apart b (List.mem_filterMap.2 ⟨_,hget_mem hk,h1⟩)
    refine ⟨?_,h2.2⟩
    simp only [M1]
    rw [if_neg (fp_hdelk hh hk h1 d rest hsub (hdelk_ne k _))]
    exact h2.1
  · simp only [ν1]
    split
    · exact hh.one k
    · rfl
 rw [hl,hA (.own k) (.own 8000) ν ν1 (by simp only [SV.val,e1])]
 refine ((h M1 hM1).2 E.w0 M1 ν1 w hp1).mono ?_
 rintro e w' ⟨s,H',M',ν',rfl,hh',k',rfl,hk'⟩
 let ν2:Nat→Value:=fun j=>if j / 8=d then ν' k' else ν j
 have hν : ∀ j,j / 8≠d→ν2 j=ν j:=fun j hj=>by simp [ν2,hj]
 have hν8:ν2 (8 * d)=ν' k':=by simp [ν2,show (8 * d) / 8=d by omega]
 have hMw:M.on w':=fun b o hb=>hh'.mem b o (hh'.le0 b o (hM1 b o hb))
 have hsome : ∀ b ∈ fp ν rest,∃ ob,w.heap[b]? = some ob∧M' b=some ob:=fun b hb=>by
  have hlt:=hrest.fp_lt hb
  refine ⟨w.heap[b],Array.getElem?_eq_getElem hlt,hh'.le0 b _ ?_⟩
  simp only [M1,if_pos hb]
  exact Array.getElem?_eq_getElem hlt
 have hmv:Heap E ν rest M w':=hrest.moved (fun b hb=>by obtain ⟨ob,h1,h2⟩:=hsome b hb; rw [h1]; exact hh'.mem b ob h2) hMw hh'.below
 refine ⟨_,rfl,_,_,_,⟨ν2,(hs.drop hν).put (of_decide_eq_true hd) ?_,hmv.add hn hν (fun j=>?_) ?_ (fun b hb=>?_)⟩,hK⟩
 · rw [cond_true]
   exact hT _ _ _ _ (by simp only [SV.val,hν8])
 · by_cases hj:j / 8=d
   · simp only [ν2,hj,if_true]; exact hh'.one _
   · simp only [ν2,hj,if_false]; exact hh.one j
 · rw [hν8]
   exact hh'.holds _ (hget_mem hk')
 · rw [hν8] at hb
   obtain ⟨h1,h2⟩:=hh'.apart b (List.mem_filterMap.2 ⟨_,hget_mem hk',hb⟩)
   refine ⟨fun hm=>?_,?_,h2⟩
   · obtain ⟨ob,_,h3⟩:=hsome b hm
     rw [h1] at h3
     cases h3
   · cases hM:M b with
     | none=>rfl
     | some ob=>have:=hh'.le0 b _ (hM1 b _ hM); rw [h1] at this; cases this

/-! ### rows laid open -/
def opn (l:List Value):List SV:=l.map .v
theorem opn_vals (ν:Nat→Value) (l:List Value):SV.vals ν (opn l)=l:=vals_v ν l
/-- a function that is lent a row: it lies open -/
theorem MeetsH.openRow {P:Program} {f:FuncId} {R:RP} {A:SV→List SV} {sz:Nat} {es:List (List Value)} (k:Nat) (hA:Ctxs A)
  (hnil:es=[]→MeetsH P f (A (.v (.slice none 0 0))) [] M R)
  (h : ∀ b cap sp,es.length≤cap→cap≤maxLen→List.length sp=(cap - es.length) * sz→(∀ e ∈ es,e.length=sz ∧ ∀ c ∈ e,c.oneCell'=true)→MeetsH P f (A (.v (.slice (some ⟨b,0,none⟩) es.length cap))) [(k,.box (opn (es.flatten++sp)) (some (ptrV b)))] M R)
  (hc:callable P f):MeetsH P f (A (.own k)) [(k,.row sz es)] M R:=by
 refine ⟨hc,fun w0 M0 ν w hh=>?_⟩
 obtain ⟨g1,g2⟩:=hh.holds (k,.row sz es) List.mem_cons_self
 simp only at g1 g2
 rcases g2 with ⟨hν,rfl⟩ | ⟨b,cap,T,sp,hν,g3,g4,g5,hb⟩
 · rw [hA (.own k) (.v (.slice none 0 0)) ν ν (by simp only [SV.val,hν])]
   exact (hnil rfl).2 w0 M0 ν w (hh.sublist (List.nil_sublist _))
 · let ν1:Nat→Value:=fun _=>ptrV b
   rw [hA (.own k) (.v (.slice (some ⟨b,0,none⟩) es.length cap)) ν ν1 (by simp only [SV.val,hν])]
   refine (h b cap sp g3 g4 g5 g1).2 w0 M0 ν1 w ⟨fun p hp=>?_,by simp [fp,ν1,blk?],fun c hc=>?_,hh.mem,hh.below,hh.le0,hh.fresh,fun _=>rfl⟩
   · simp only [List.mem_singleton] at hp
     subst hp
     refine ⟨⟨b,T,rfl,by rw [opn_vals]; exact hb⟩,fun v hv=>?_⟩
     cases hv
     rfl
   · simp only [fp,List.filterMap_cons,List.filterMap_nil,ν1,blk?,List.mem_singleton] at hc
     subst hc
     exact hh.apart c (by simp [fp,hν,blk?])
/-- what is handed back lies open -/
def OpenR (T:SV→SV) (sz:Nat) (es:List (List Value)):RP:=fun r H _=>∃ b k cap sp,r=T (.v (.slice (some ⟨b,0,none⟩) es.length cap))∧hget H k=some (.box (opn (es.flatten++sp)) (some (ptrV b)))∧es.length≤cap∧cap≤maxLen∧List.length sp=(cap - es.length) * sz
theorem MeetsH.closeR {P:Program} {f:FuncId} {args:List SV} {T:SV→SV} {sz:Nat} {es:List (List Value)} (hT:Ctx T) (hes : ∀ e ∈ es,e.length=sz ∧ ∀ c ∈ e,c.oneCell'=true)
  (h:MeetsH P f args H M (fun r H' M'=>OpenR T sz es r H' M'∨(r=T (.v (.slice none 0 0))∧es=[])∨OwnR T sz es r H' M')):MeetsH P f args H M (OwnR T sz es):=by
 refine ⟨h.1,fun w0 M0 ν w hh=>(h.2 w0 M0 ν w hh).mono ?_⟩
 rintro e w' ⟨s,H',M',ν',rfl,hh',⟨b,k,cap,sp,rfl,hk,h1,h2,h3⟩ | ⟨rfl,rfl⟩ | hO⟩
 · obtain ⟨⟨b',T',e1,e2⟩,e3⟩:=hh'.holds _ (hget_mem hk)
   have e4:=e3 _ rfl
   simp only at e1 e4
   rw [e4] at e1
   cases e1
   rw [opn_vals] at e2
   refine ⟨T (.own 0),[(0,.row sz es)],M',fun _=>.slice (some ⟨b,0,none⟩) es.length cap,by rw [hT (.v _) (.own 0) ν' (fun _=>.slice (some ⟨b,0,none⟩) es.length cap) rfl],⟨fun p hp=>?_,by simp [fp,blk?],fun c hc=>?_,hh'.mem,hh'.below,hh'.le0,hh'.fresh,fun _=>rfl⟩,0,rfl,rfl⟩
   · simp only [List.mem_singleton] at hp
     subst hp
     exact ⟨hes,.inr ⟨b,cap,T',sp,rfl,h1,h2,h3,e2⟩⟩
   · simp only [fp,List.filterMap_cons,List.filterMap_nil,blk?,List.mem_singleton] at hc
     subst hc
     exact hh'.apart c (List.mem_filterMap.2 ⟨_,hget_mem hk,by rw [e4]; rfl⟩)
 · refine ⟨T (.own 0),[(0,.row sz [])],M',fun _=>.slice none 0 0,by rw [hT (.v _) (.own 0) ν' (fun _=>.slice none 0 0) rfl],⟨fun p hp=>?_,by simp [fp,blk?],fun c hc=>by simp [fp,blk?] at hc,hh'.mem,hh'.below,hh'.le0,hh'.fresh,fun _=>rfl⟩,0,rfl,rfl⟩
   simp only [List.mem_singleton] at hp
   subst hp
   exact ⟨hes,.inl ⟨rfl,rfl⟩⟩
 · exact ⟨s,H',M',ν',rfl,hh',hO⟩
/-! operations on what lies open -/
theorem OpK.cap {x:Operand} {t d e:Nat} {y:Value} (ho:o.op = .call ⟨.builtin .cap,#[x],#[t]⟩) (hd:o.dst=some d) (hN:decide (d < E.N)=true) (ht:E.P.underlying t=some (.slice e)) (hx:opv σ x=some (true,.v y)) (hy:isSl y=true)
  (hK:K ((d,true,.v (.int .i64 (capV y))) :: σ) H M):OpK E o K σ H M:=by
 refine opK_of fun ν a w hs hh=>?_
 have ex:=hs.opv hx rfl
 simp only [SV.val] at ex
 refine ⟨.int .i64 (capV y),w,?_,_,_,_,⟨ν,?_,hh⟩,hK⟩
 · cases y <;> simp only [isSl] at hy <;> first | cases hy | skip
   simp [execOp,ho,resolve,invoke,builtin,ex,Builtin.cap_,run_underlying ht,capV,goInt]
 · rw [hd]
   exact hs.put (of_decide_eq_true hN) rfl

/-- what stands at a slice's place: in what lies open, or in known memory -/
def Reads (H:HS) (M:Mem) (ad:Addr) (news:List Value):Prop:=
 (∃ k cs,hget H k=some (.box (opn cs) (some (ptrV ad.block)))∧ad.spot=none ∧ ∀ j u,news[j]? = some u→cs[ad.off+j]? = some u) ∨ ∀ j u,news[j]? = some u→cellM M (ad.add j)=some u
theorem Reads.cells {ad:Addr} {news:List Value} (hr:Reads H M ad news) (hh:Heap E ν H M w) (w'':World) (hw:w''.heap=w.heap) : ∀ j u,news[j]? = some u→w''.cell? (ad.add j)=some u:=by
 intro j u hj
 have hcell : ∀ x:Addr,w''.cell? x=w.cell? x:=fun x=>by unfold World.cell?; rw [hw]
 rw [hcell]
 rcases hr with ⟨k,cs,hk,hsp,h⟩ | h
 · obtain ⟨⟨b',T,e1,e2⟩,e3⟩:=hh.holds _ (hget_mem hk)
   have e4:=e3 _ rfl
   simp only at e1 e4
   rw [e4] at e1
   obtain ⟨bl',off,spot⟩:=ad
   simp only at hsp h e4
   subst hsp
   cases e1
   rw [opn_vals] at e2
   have hadd:(⟨bl',off,none⟩:Addr).add j=⟨bl',off+j,none⟩:=Addr.add_lit ..
   rw [hadd,cell_of_heap e2]
   exact h j u hj
 · exact cellM_on hh.mem (h j u hj)

/-- cells are written in a block that lies open -/
theorem Heap.write (hh:Heap E ν H M w) {k b off:Nat} {cs news:List Value} (hk:hget H k=some (.box (opn cs) (some (ptrV b)))) (ho:off+news.length≤cs.length) (h1 : ∀ u ∈ news,u.oneCell'=true) :
  ∃ w',(storeCells ⟨b,off,none⟩ news).run E.P w = .ok () w'∧Heap E ν (hset k (.box (opn (putV cs off news)) (some (ptrV b))) H) M w':=by
 obtain ⟨⟨b',T,e1,e2⟩,e3⟩:=hh.holds _ (hget_mem hk)
 have e4:=e3 _ rfl
 simp only at e1 e4
 rw [e4] at e1
 cases e1
 rw [opn_vals] at e2
 have hst:=run_storeCells_at E.P b off T news 0 _ w e2 (by simpa using ho) h1
 simp only [Nat.add_zero] at hst
 refine ⟨_,hst,hh.upd hk (b:=b) (by rw [e4]; rfl) (fun j hj=>setRow_other w b _ hj) (by simp [World.setRow]) ⟨rfl,rfl,rfl⟩ ⟨⟨b,T,e4,?_⟩,fun v hv=>?_⟩⟩
 · rw [opn_vals]
   exact setRow_at w b _ _ T _ e2
 · cases hv
   exact e4

def putD (d:Option Nat) (v:SV) (σ:Sig):Sig:=match d with | some d=>(d,true,v) :: σ | none=>σ
theorem Slots.putD {N:Nat} (hs:Slots N ν σ a) {d:Option Nat} (hN:(match d with | some d=>decide (d < N) | none=>true)=true) {v:Value}:Slots N ν (putD d (.v v) σ) (a.put d v):=by
 cases d with
 | none=>exact hs
 | some d=>exact hs.put (of_decide_eq_true hN) rfl

/-- append, in place -/
theorem OpK.appIn {s x:Operand} {t tx d e e2 sz bt k b off n c m c2:Nat} {ad:Addr} {zs cs news:List Value} (ho:o.op = .call ⟨.builtin .append,#[s,x],#[t,tx]⟩) (hd:o.dst=some d) (hN:decide (d < E.N)=true)
  (hsl:slT E.P t=some (e,sz,bt,zs)) (htx:E.P.underlying tx=some (.slice e2)) (hs0:opv σ s=some (true,.v (.slice (some ⟨b,off,none⟩) n c))) (hx0:opv σ x=some (true,.v (.slice (some ad) m c2)))
  (hk:hget H k=some (.box (opn cs) (some (ptrV b)))) (hnl:news.length=m * sz) (hr:Reads H M ad news) (h1 : ∀ u ∈ news,u.oneCell'=true) (hroom:n+m≤c) (hlen:off+n * sz+news.length≤cs.length)
  (hK:K ((d,true,.v (.slice (some ⟨b,off,none⟩) (n+m) c)) :: σ) (hset k (.box (opn (putV cs (off+n * sz) news)) (some (ptrV b))) H) M):OpK E o K σ H M:=by
 obtain ⟨i,z,hu,hi,hz,hisz,rfl,rfl⟩:=slT_spec hsl
 refine opK_of fun ν a w hs hh=>?_
 have es:=hs.opv hs0 rfl
 have ex:=hs.opv hx0 rfl
 simp only [SV.val] at es ex
 obtain ⟨w',hst,hh'⟩:=hh.write hk hlen h1
 have hS:=Src.ofSlice (P:=E.P) (size:=i.size) w htx ad m c2 news (by rw [hisz]; exact hnl) (hr.cells hh w rfl) h1
 have happ:(Builtin.append_ #[t,tx] o.type #[.slice (some ⟨b,off,none⟩) n c,.slice (some ad) m c2]).run E.P w = .ok (.slice (some ⟨b,off,none⟩) (n+m) c) w':=by
  have hL:=hS.len w
  have hC:=hS.cells
  rw [hisz] at hC
  simp [Builtin.append_,run_underlying hu,run_underlying htx,sizeOf,typeInfo,hi,hL,hroom,hC,Addr.add_lit,hisz,hst]
 have hex:(execOp a.eval o).run E.P w = .ok (.value (.slice (some ⟨b,off,none⟩) (n+m) c)) w':=by simp [execOp,ho,resolve,invoke,builtin,es,ex,happ]
 refine ⟨_,_,hex,_,_,_,⟨ν,?_,hh'⟩,hK⟩
 rw [hd]
 exact hs.put (of_decide_eq_true hN) rfl

/-- copy -/
theorem OpK.copyIn {s x:Operand} {t tx e sz bt k b off n c m c2:Nat} {ad:Addr} {zs cs news:List Value} (ho:o.op = .call ⟨.builtin .copy,#[s,x],#[t,tx]⟩) (hN:(match o.dst with | some d=>decide (d < E.N) | none=>true)=true)
  (hsl:slT E.P t=some (e,sz,bt,zs)) (hs0:opv σ s=some (true,.v (.slice (some ⟨b,off,none⟩) n c))) (hx0:opv σ x=some (true,.v (.slice (some ad) m c2)))
  (hk:hget H k=some (.box (opn cs) (some (ptrV b)))) (hnl:news.length=Nat.min m n * sz) (hr:Reads H M ad news) (h1 : ∀ u ∈ news,u.oneCell'=true) (hlen:off+news.length≤cs.length)
  (hK:K (putD o.dst (.v (.int .i64 (Nat.min m n:Nat))) σ) (hset k (.box (opn (putV cs off news)) (some (ptrV b))) H) M):OpK E o K σ H M:=by
 obtain ⟨i,z,hu,hi,hz,hisz,rfl,rfl⟩:=slT_spec hsl
 refine opK_of fun ν a w hs hh=>?_
 have es:=hs.opv hs0 rfl
 have ex:=hs.opv hx0 rfl
 simp only [SV.val] at es ex
 obtain ⟨w',hst,hh'⟩:=hh.write hk hlen h1
 have hl:=run_loadCells_list (P:=E.P) w ad news (hr.cells hh w rfl)
 rw [hnl] at hl
 have hrun:(Builtin.copy_ #[t,tx] o.type #[.slice (some ⟨b,off,none⟩) n c,.slice (some ad) m c2]).run E.P w = .ok (.int .i64 (Nat.min m n:Nat)) w':=by
  simp [Builtin.copy_,run_underlying hu,Builtin.lenOf,Builtin.firstCells,sizeOf,typeInfo,hi,hisz,hl,hst,goInt]
 have hex:(execOp a.eval o).run E.P w = .ok (.value (.int .i64 (Nat.min m n:Nat))) w':=by simp [execOp,ho,resolve,invoke,builtin,es,ex,hrun]
 exact ⟨_,_,hex,_,_,_,⟨ν,hs.putD hN,hh'⟩,hK⟩

/-- clear -/
theorem OpK.clearIn {x:Operand} {t e sz bt k b off n c:Nat} {zs cs:List Value} (ho:o.op = .call ⟨.builtin .clear,#[x],#[t]⟩) (hd:o.dst=none)
  (hsl:slT E.P t=some (e,sz,bt,zs)) (hx0:opv σ x=some (true,.v (.slice (some ⟨b,off,none⟩) n c)))
  (hk:hget H k=some (.box (opn cs) (some (ptrV b)))) (hz1:onesV zs=true) (hzl:zs.length=sz) (hlen:off+n * sz≤cs.length)
  (hK:K σ (hset k (.box (opn (putV cs off (List.replicate n zs).flatten)) (some (ptrV b))) H) M):OpK E o K σ H M:=by
 obtain ⟨i,z,hu,hi,hz,hisz,rfl,rfl⟩:=slT_spec hsl
 rintro a w ⟨ν,hs,hh⟩
 have ex:=hs.opv hx0 rfl
 simp only [SV.val] at ex
 have hfl:(List.replicate n z.cells.toList).flatten.length=n * i.size:=by rw [List.length_flatten]; simp [hzl,hisz]
 obtain ⟨w',hst,hh'⟩:=hh.write hk (off:=off) (news:=(List.replicate n z.cells.toList).flatten) (by rw [hfl,hisz]; exact hlen) (fun u hu=>by
  obtain ⟨l,hl,hu⟩:=List.mem_flatten.1 hu
  rw [List.eq_of_mem_replicate hl] at hu
  exact onesV_mem hz1 u hu)
 have hzc:(Builtin.zeroCells z.cells n).toList=(List.replicate n z.cells.toList).flatten:=by
  have:=made_flat z.cells n
  rw [← this]
  simp [Builtin.zeroCells,madeCells]
 have hrun:(Builtin.clear_ #[t] o.type #[.slice (some ⟨b,off,none⟩) n c]).run E.P w = .ok (.tuple #[]) w':=by
  cases n with
  | zero=>
    simp only [List.replicate_zero,List.flatten_nil,storeCells,Sem.run_pure] at hst
    simp [Builtin.clear_,run_underlying hu]
    simpa using hst
  | succ n=>simp [Builtin.clear_,run_underlying hu,zeroValue,typeInfo,hi,hz,hzc,hst]
 unfold Oper.wp
 have hex:(execOp a.eval o).run E.P w = .ok (.value (.tuple #[])) w':=by simp [execOp,ho,resolve,invoke,builtin,ex,hrun]
 rw [hex]
 simp only [Oper.upon]
 rw [hd]
 exact ⟨_,_,_,⟨ν,hs,hh'⟩,hK⟩

/-- append of made elements: a new row, laid open -/
theorem OpK.appMake {s x:Operand} {t tx d e sz bt c n:Nat} {m:Nat} {base:Option Addr} {zs olds:List Value} {kn k2:IntKind} (ho:o.op = .call ⟨.builtin .append,#[s,x],#[t,tx]⟩) (hd:o.dst=some d) (hN:decide (d < E.N)=true)
  (hsl:slT E.P t=some (e,sz,bt,zs)) (htx:E.P.underlying tx=some (.int kn)) (hs0:opv σ s=some (true,.v (.slice base n c))) (hx0:opv σ x=some (true,.v (.int k2 m)))
  (hold:base=none∧n=0∧olds=[] ∨ ∃ ad,base=some ad∧olds.length=n * sz∧Reads H M ad olds) (hroom:c < n+m) (hbt:bt≤4096) (hsz:zs.length=sz) (hbig:(n+m) * bt≤70368744177664) (hbig2:n+m≤70368744177664)
  (hn:hNoKey d (hdel d H)=true)
  (hK : ∀ b cap sp,n+m≤cap→cap≤maxLen→List.length sp=(cap - (n+m)) * sz→K ((d,true,.v (.slice (some ⟨b,0,none⟩) (n+m) cap)) :: sigDrop d σ) ((8 * d,.box (opn (olds++(List.replicate m zs).flatten++sp)) (some (ptrV b))) :: hdel d H) M):OpK E o K σ H M:=by
 obtain ⟨i,z,hu,hi,hz,hisz,hib,rfl⟩:=slT_spec hsl
 refine opK_of fun ν a w hs hh=>?_
 have es:=hs.opv hs0 rfl
 have ex:=hs.opv hx0 rfl
 simp only [SV.val] at es ex
 have hwr:IntKind.i64.wrap (m:Int)=m:=by rw [IntKind.wrap_i64]; omega
 have hcaple:=nextslicecap_le hroom
 have hge:=grownCap_ge w (n+m) c e
 have hle:=grownCap_le_maxLen w (n+m) c e (by simp only [maxLen]; omega)
 have h48 : ¬ (281474976710656 < Builtin.nextslicecap (n+m) c * i.bytes):=by
  have:=Nat.mul_le_mul_right i.bytes hcaple
  rw [hib] at this ⊢
  rw [Nat.mul_assoc] at this
  omega
 have h48i : ¬ (281474976710656 < (m:Int) * (i.bytes:Int)):=by
  rw [← Int.natCast_mul,hib]
  have:m * bt≤(n+m) * bt:=Nat.mul_le_mul_right _ (by omega)
  omega
 have hneg : ¬ ((m:Int) < 0):=by omega
 have hnr : ¬ (n+m≤c):=by omega
 have h63 : ¬ (9223372036854775807 < ((n:Int)+(m:Int))):=by omega
 have hfc : ∀ w'':World,w''.heap=w.heap→(Builtin.firstCells i.size n (.slice base n c)).run E.P w'' = .ok olds.toArray w'':=by
  intro w'' hw
  rcases hold with ⟨rfl,rfl,rfl⟩ | ⟨ad,rfl,hol,hr⟩
  · exact run_firstCells_none w'' i.size 0 0 c
  · exact run_firstCells_some w'' i.size n ad n c olds (by rw [hisz]; exact hol) (hr.cells hh w'' hw)
 have hzcl : ∀ q,(Builtin.zeroCells z.cells q).toList=(List.replicate q z.cells.toList).flatten:=fun q=>by
  rw [← made_flat z.cells q]
  simp [Builtin.zeroCells,madeCells]
 have hap:(if m * i.size=0 then (pure #[]:Sem (Array Value)) else do pure (Builtin.zeroCells (← zeroValue e).cells m)).run E.P w.drew = .ok (Builtin.zeroCells z.cells m) w.drew:=by
  by_cases h0:m * i.size=0
  · rw [if_pos h0]
    have:Builtin.zeroCells z.cells m = #[]:=by
     apply Array.ext'
     rw [hzcl]
     rcases Nat.mul_eq_zero.1 h0 with h | h
     · simp [h]
     · rw [hisz] at h
       subst h
       simp [List.length_eq_zero_iff.1 hsz]
    rw [this]; rfl
  · rw [if_neg h0]
    simp [zeroValue,typeInfo,hi,hz]
 have hrun:(Builtin.append_ #[t,tx] o.type #[.slice base n c,.int k2 m]).run E.P w = .ok (.slice (some ⟨w.heap.size,0,none⟩) (n+m) (grownCap w (n+m) c e)) (w.drew.alloc (.cells (olds.toArray++Builtin.zeroCells z.cells m++Builtin.zeroCells z.cells (grownCap w (n+m) c e - (n+m))) e)):=by
  have hf:=hfc w.drew rfl
  by_cases h0:m * i.size=0
  · have hap':=hap
    rw [if_pos h0] at hap'
    simp only [Sem.run_pure] at hap'
    have:Builtin.zeroCells z.cells m = #[]:=by injection hap' with h _; exact h.symm
    rw [this]
    simp [Builtin.append_,run_underlying hu,run_underlying htx,sizeOf,typeInfo,zeroValue,hi,hz,asInt,asIntOf,hwr,hneg,h0,hnr,h63,h48,h48i,Question.forced,hf,newRow,grownCap]
  · simp [Builtin.append_,run_underlying hu,run_underlying htx,sizeOf,typeInfo,zeroValue,hi,hz,asInt,asIntOf,hwr,hneg,h0,hnr,h63,h48,h48i,Question.forced,hf,newRow,grownCap]
 have hex:(execOp a.eval o).run E.P w = .ok (.value (.slice (some ⟨w.heap.size,0,none⟩) (n+m) (grownCap w (n+m) c e))) (w.drew.alloc (.cells (olds.toArray++Builtin.zeroCells z.cells m++Builtin.zeroCells z.cells (grownCap w (n+m) c e - (n+m))) e)):=by simp [execOp,ho,resolve,invoke,builtin,es,ex,hrun]
 refine ⟨_,_,hex,_,_,_,?_,hK w.heap.size (grownCap w (n+m) c e) (Builtin.zeroCells z.cells (grownCap w (n+m) c e - (n+m))).toList hge hle (by rw [hzcl,List.length_flatten]; simp [hsz])⟩
 rw [hd]
 let v:Value:=.slice (some ⟨w.heap.size,0,none⟩) (n+m) (grownCap w (n+m) c e)
 let ν':Nat→Value:=fun j=>if j / 8=d then ptrV w.heap.size else ν j
 have hν' : ∀ j,j / 8≠d→ν' j=ν j:=fun j hj=>by simp [ν',hj]
 have hν8:ν' (8 * d)=ptrV w.heap.size:=by simp [ν',show (8 * d) / 8=d by omega]
 have hsub:=hdel_sub d H
 have hgr:Heap E ν (hdel d H) M (w.drew.alloc (.cells (olds.toArray++Builtin.zeroCells z.cells m++Builtin.zeroCells z.cells (grownCap w (n+m) c e - (n+m))) e)):=
  (hh.sublist hsub).grow ((Below.refl _ w).drew.alloc (Nat.le_refl _) _)
 refine ⟨ν',(hs.drop hν').put (of_decide_eq_true hN) rfl,hgr.add hn hν' (fun j=>?_) ?_ (fun b hb=>?_)⟩
 · by_cases hj:j / 8=d
   · simp [ν',hj,Value.oneCell']
   · simp only [ν',hj,if_false]; exact hh.one j
 · rw [hν8]
   refine ⟨⟨w.heap.size,e,rfl,?_⟩,fun v hv=>?_⟩
   · rw [opn_vals]
     have:=heap_alloc_at w.drew (.cells (olds.toArray++Builtin.zeroCells z.cells m++Builtin.zeroCells z.cells (grownCap w (n+m) c e - (n+m))) e (0,0))
     rw [show w.drew.heap.size=w.heap.size from rfl] at this
     rw [this]
     congr 2
     apply Array.ext'
     simp [hzcl]
   · cases hv
     rfl
 · rw [hν8] at hb
   simp only [ptrV,blk?,Option.some.injEq] at hb
   subst hb
   have hnf:w.heap.size ∉ fp ν (hdel d H):=fun h=>Nat.lt_irrefl _ ((hh.sublist hsub).fp_lt h)
   refine ⟨hnf,?_,hh.below.size⟩
   cases hM:M w.heap.size with
   | none=>rfl
   | some ob=>exact absurd (Array.getElem?_eq_some_iff.1 (hh.mem _ _ hM)).1 (Nat.lt_irrefl _)
theorem subV_open (b n cap sz lo hi:Nat):subV (.slice (some ⟨b,0,none⟩) n cap) sz lo hi = .slice (some ⟨b,if cap=lo then 0 else lo * sz,none⟩) (hi - lo) (cap - lo):=by
 unfold subV
 by_cases h:cap=lo
 · simp [h]
 · simp [h,Addr.add_lit]
/-- a slice of what lies open, as the operations want it -/
theorem Reads.sub {k b:Nat} {cs news:List Value} (hk:hget H k=some (.box (opn cs) (some (ptrV b)))) {off:Nat} (h : ∀ j u,news[j]? = some u→cs[off+j]? = some u):Reads H M ⟨b,off,none⟩ news:=.inl ⟨k,cs,hk,rfl,h⟩
theorem Reads.row {v:Value} {sz:Nat} {es:List (List Value)} (h:RowM M v sz es) {ad:Addr} {n c:Nat} (hv:v = .slice (some ad) n c):Reads H M ad es.flatten:=.inr fun j u hj=>by
 subst hv
 have hl : ∀ e ∈ es,e.length=sz:=fun e he=>by
  obtain ⟨i,hi⟩:=List.mem_iff_getElem?.1 he
  exact (h.2.2 i e hi).1
 have hjl:j < es.flatten.length:=(List.getElem?_eq_some_iff.1 hj).1
 rw [flatten_len hl] at hjl
 have hsz:0 < sz:=by
  rcases Nat.eq_zero_or_pos sz with h0 | h0
  · subst h0; simp at hjl
  · exact h0
 have hdiv:j / sz < es.length:=(Nat.div_lt_iff_lt_mul hsz).2 hjl
 have hmod:j % sz < sz:=Nat.mod_lt _ hsz
 have hej:es[j / sz]? = some es[j / sz]:=List.getElem?_eq_getElem hdiv
 have hfl:=flatten_get (sp:=[]) hl hej hmod
 rw [List.append_nil,Nat.mul_comm,Nat.div_add_mod] at hfl
 rw [hfl] at hj
 have:=((h.2.2 _ _ hej).2 _ _ hj).1
 rw [Nat.mul_comm,Nat.div_add_mod] at this
 exact this
theorem subV_open0 (b n cap sz hi:Nat):subV (.slice (some ⟨b,0,none⟩) n cap) sz 0 hi = .slice (some ⟨b,0,none⟩) hi cap:=by
 rw [subV_open]; simp
theorem putV_nil (cs:List Value) (o:Nat):putV cs o []=cs:=by simp [putV]
theorem putV_keep (A sp news:List Value):putV (A++sp) A.length news=A++(news++sp.drop news.length):=by
 unfold putV
 rw [List.take_left,← List.drop_drop,List.drop_left,List.append_assoc]
theorem flat_take {sz:Nat} {es:List (List Value)} (h : ∀ e ∈ es,e.length=sz) (j:Nat):es.flatten.take (j * sz)=(es.take j).flatten:=by
 have h1:es.flatten=(es.take j).flatten++(es.drop j).flatten:=by rw [← List.flatten_append,List.take_append_drop]
 have h2:=flatten_len (fun e he=>h e (List.mem_of_mem_take (i:=j) he))
 rw [List.length_take] at h2
 by_cases hj:j≤es.length
 · rw [Nat.min_eq_left hj] at h2
   rw [h1,← h2,List.take_left]
 · rw [List.take_of_length_le (l:=es) (by omega),List.take_of_length_le]
   rw [flatten_len h]
   exact Nat.mul_le_mul_right _ (by omega)
theorem flat_drop {sz:Nat} {es:List (List Value)} (h : ∀ e ∈ es,e.length=sz) (j:Nat):es.flatten.drop (j * sz)=(es.drop j).flatten:=by
 have h1:es.flatten=(es.take j).flatten++(es.drop j).flatten:=by rw [← List.flatten_append,List.take_append_drop]
 have h2:=flatten_len (fun e he=>h e (List.mem_of_mem_take (i:=j) he))
 rw [List.length_take] at h2
 by_cases hj:j≤es.length
 · rw [Nat.min_eq_left hj] at h2
   rw [h1,← h2,List.drop_left]
 · rw [List.drop_of_length_le (l:=es) (by omega),List.drop_of_length_le]
   · rfl
   · rw [flatten_len h]
     exact Nat.mul_le_mul_right _ (by omega)
theorem get_of_drop {l news sp:List Value} {o:Nat} (h:news=l.drop o) {j:Nat} {u:Value} (hj:news[j]? = some u):(l++sp)[o+j]? = some u:=by
 subst h
 rw [List.getElem?_drop] at hj
 rw [List.getElem?_append_left (List.getElem?_eq_some_iff.1 hj).1]
 exact hj
end
end Go.X

namespace Go.X
open Go Go.RowKit
section
variable {E:Env} {σ:Sig} {H:HS} {M:Mem} {a:Act} {w:World} {ν:Nat→Value} {K:KP} {o:Oper}

theorem hpub_heap {k sz:Nat} {es:List (List Value)} (hh:Heap E ν H M w) (hk:hget H k=some (.row sz es)):Heap E ν (hpub k (ν k) H) M w:=by
 have hsub:(fp ν (hpub k (ν k) H)).Sublist (fp ν H):=by rw [fp_pub]; exact (hdelk_sub k H).filterMap _
 refine ⟨fun q hq=>?_,hh.nodup.sublist hsub,fun b hb=>hh.apart b (hsub.subset hb),hh.mem,hh.below,hh.le0,hh.fresh,hh.one⟩
 obtain ⟨p,h1,h2⟩:=hpub_mem hq
 have:=hh.holds _ h1
 rw [h2]
 cases p with
 | box cs t=>obtain ⟨⟨b,T,e,h⟩,ht⟩:=this; exact ⟨⟨b,T,e,by rw [SV.pubs_vals]; exact h⟩,ht⟩
 | row sz es=>exact this
 | tab sz es=>
   simp only [poPub]
   rw [PO.tab_row] at this ⊢
   rw [pubss_vals]
   exact this
 | mp es=>exact this
/-- a row of the call's own is laid open -/
theorem Rep.openRow {k e sz:Nat} {es:List (List Value)} (hk:hget H k=some (.row sz es)) (hn : ∀ v,hNoKey e (hpub k v H)=true) (hr:Rep E σ H M a w) :
  (es=[]∧Rep E (sigPub k (.slice none 0 0) σ) (hpub k (.slice none 0 0) H) M a w) ∨
  ∃ b cap sp,(es.length≤cap∧cap≤maxLen∧List.length sp=(cap - es.length) * sz)∧(∀ e ∈ es,e.length=sz ∧ ∀ c ∈ e,c.oneCell'=true) ∧
    Rep E (sigDrop e (sigPub k (.slice (some ⟨b,0,none⟩) es.length cap) σ)) ((8 * e,.box (opn (es.flatten++sp)) (some (ptrV b))) :: hpub k (.slice (some ⟨b,0,none⟩) es.length cap) H) M a w:=by
 obtain ⟨ν,hs,hh⟩:=hr
 obtain ⟨g1,g2⟩:=hh.holds _ (hget_mem hk)
 simp only at g1 g2
 have hp:=hpub_heap hh hk
 have hps:=pub_slots (k:=k) hs
 rcases g2 with ⟨hν,rfl⟩ | ⟨b,cap,T,sp,hν,g3,g4,g5,hb⟩
 · rw [hν] at hp hps
   exact .inl ⟨rfl,ν,hps,hp⟩
 · rw [hν] at hp hps
   have hkb:blk? (ν k)=some b:=by rw [hν]; rfl
   obtain ⟨hMb,hBb⟩:=hh.apart b (List.mem_filterMap.2 ⟨(k,_),hget_mem hk,hkb⟩)
   let ν':Nat→Value:=fun j=>if j / 8=e then ptrV b else ν j
   have hν' : ∀ j,j / 8≠e→ν' j=ν j:=fun j hj=>by simp [ν',hj]
   have hν8:ν' (8 * e)=ptrV b:=by simp [ν',show (8 * e) / 8=e by omega]
   refine .inr ⟨b,cap,sp,⟨g3,g4,g5⟩,g1,ν',hps.drop hν',hp.add (hn _) hν' (fun j=>?_) ?_ (fun c hc=>?_)⟩
   · by_cases hj:j / 8=e
     · simp [ν',hj,Value.oneCell']
     · simp only [ν',hj,if_false]; exact hh.one j
   · rw [hν8]
     refine ⟨⟨b,T,rfl,by rw [opn_vals]; exact hb⟩,fun v hv=>?_⟩
     cases hv
     rfl
   · rw [hν8] at hc
     simp only [ptrV,blk?,Option.some.injEq] at hc
     subst hc
     refine ⟨?_,hMb,hBb⟩
     rw [fp_pub]
     exact fp_hdelk hh hk hkb 0 _ (hdelk_sub k H) (hdelk_ne k H)
theorem OpK.openRow {k sz:Nat} {es:List (List Value)} (e:Nat) (hk:hget H k=some (.row sz es)) (hn : ∀ v,hNoKey e (hpub k v H)=true)
  (h0:es=[]→OpK E o K (sigPub k (.slice none 0 0) σ) (hpub k (.slice none 0 0) H) M)
  (h1 : ∀ b cap sp,(es.length≤cap∧cap≤maxLen∧List.length sp=(cap - es.length) * sz)→(∀ e ∈ es,e.length=sz ∧ ∀ c ∈ e,c.oneCell'=true) →
    OpK E o K (sigDrop e (sigPub k (.slice (some ⟨b,0,none⟩) es.length cap) σ)) ((8 * e,.box (opn (es.flatten++sp)) (some (ptrV b))) :: hpub k (.slice (some ⟨b,0,none⟩) es.length cap) H) M):OpK E o K σ H M:=by
 intro a w hr
 rcases Rep.openRow (e:=e) hk hn hr with ⟨h,hr'⟩ | ⟨b,cap,sp,h2,h3,hr'⟩
 · exact h0 h a w hr'
 · exact h1 b cap sp h2 h3 a w hr'
theorem CodeK.openRow {c:Code} {Q:QP} {k sz:Nat} {es:List (List Value)} (e:Nat) (hk:hget H k=some (.row sz es)) (hn : ∀ v,hNoKey e (hpub k v H)=true)
  (h0:es=[]→CodeK E c Q (sigPub k (.slice none 0 0) σ) (hpub k (.slice none 0 0) H) M)
  (h1 : ∀ b cap sp,(es.length≤cap∧cap≤maxLen∧List.length sp=(cap - es.length) * sz)→(∀ e ∈ es,e.length=sz ∧ ∀ c ∈ e,c.oneCell'=true) →
    CodeK E c Q (sigDrop e (sigPub k (.slice (some ⟨b,0,none⟩) es.length cap) σ)) ((8 * e,.box (opn (es.flatten++sp)) (some (ptrV b))) :: hpub k (.slice (some ⟨b,0,none⟩) es.length cap) H) M):CodeK E c Q σ H M:=by
 intro a w hr
 rcases Rep.openRow (e:=e) hk hn hr with ⟨h,hr'⟩ | ⟨b,cap,sp,h2,h3,hr'⟩
 · exact h0 h a w hr'
 · exact h1 b cap sp h2 h3 a w hr'
theorem CodeK.ofW {live:List Nat} {c:Code} {Q:QP} (h:wpC E live c Q σ H M):CodeK E c Q σ H M:=fun a w hr=>wpC_sound c Q σ H M h a w hr
/-- what lies open, as a row again -/
theorem Rep.reown {j k b cap sz e:Nat} {es:List (List Value)} {sp:List Value} (hj:lk σ j=some (true,.v (.slice (some ⟨b,0,none⟩) es.length cap))) (hjN:j < E.N) (hk:hget H k=some (.box (opn (es.flatten++sp)) (some (ptrV b))))
  (h1:es.length≤cap∧cap≤maxLen∧List.length sp=(cap - es.length) * sz) (hes : ∀ e ∈ es,e.length=sz ∧ ∀ c ∈ e,c.oneCell'=true) (hn:hNoKey e (hdelk k H)=true) (hr:Rep E σ H M a w) :
  Rep E ((j,true,.own (8 * e)) :: sigDrop e σ) ((8 * e,.row sz es) :: hdelk k H) M a w:=by
 obtain ⟨ν,hs,hh⟩:=hr
 obtain ⟨⟨b',T,e1,e2⟩,e3⟩:=hh.holds _ (hget_mem hk)
 have e4:=e3 _ rfl
 simp only at e1 e4
 rw [e4] at e1
 cases e1
 rw [opn_vals] at e2
 have hkb:blk? (ν k)=some b:=by rw [e4]; rfl
 obtain ⟨hMb,hBb⟩:=hh.apart b (List.mem_filterMap.2 ⟨(k,_),hget_mem hk,hkb⟩)
 let v:Value:=.slice (some ⟨b,0,none⟩) es.length cap
 let ν':Nat→Value:=fun i=>if i / 8=e then v else ν i
 have hν' : ∀ i,i / 8≠e→ν' i=ν i:=fun i hi=>by simp [ν',hi]
 have hν8:ν' (8 * e)=v:=by simp [ν',show (8 * e) / 8=e by omega]
 have hsd:=hs.drop hν'
 refine ⟨ν',⟨hsd.1,hsd.2.1,fun i g s hi=>?_⟩,(hh.sublist (hdelk_sub k H)).add hn hν' (fun i=>?_) ?_ (fun c hc=>?_)⟩
 · simp only [lk] at hi
   split at hi
   · rename_i hij
     subst hij
     simp only [Option.some.injEq,Prod.mk.injEq] at hi
     obtain ⟨rfl,rfl⟩:=hi
     have:=hs.2.2 _ _ _ hj
     rw [this]
     simp only [cond_true,SV.val,hν8,v]
   · exact hsd.2.2 i g s hi
 · by_cases hi:i / 8=e
   · simp [ν',hi,v,Value.oneCell']
   · simp only [ν',hi,if_false]; exact hh.one i
 · rw [hν8]
   exact ⟨hes,.inr ⟨b,cap,T,sp,rfl,h1.1,h1.2.1,h1.2.2,e2⟩⟩
 · rw [hν8] at hc
   simp only [v,blk?,Option.some.injEq] at hc
   subst hc
   exact ⟨fp_hdelk hh hk hkb 0 _ (hdelk_sub k H) (hdelk_ne k H),hMb,hBb⟩
theorem OpK.reown (j k e:Nat) {b cap sz:Nat} {es:List (List Value)} {sp:List Value} (hj:lk σ j=some (true,.v (.slice (some ⟨b,0,none⟩) es.length cap))) (hjN:decide (j < E.N)=true) (hk:hget H k=some (.box (opn (es.flatten++sp)) (some (ptrV b))))
  (h1:es.length≤cap∧cap≤maxLen∧List.length sp=(cap - es.length) * sz) (hes : ∀ e ∈ es,e.length=sz ∧ ∀ c ∈ e,c.oneCell'=true) (hn:hNoKey e (hdelk k H)=true)
  (h:OpK E o K ((j,true,.own (8 * e)) :: sigDrop e σ) ((8 * e,.row sz es) :: hdelk k H) M):OpK E o K σ H M:=
 fun a w hr=>h a w (hr.reown hj (of_decide_eq_true hjN) hk h1 hes hn)
/-- a loop, whose round is told by its meaning -/
theorem LoopK.goS {live:List Nat} {body:Code} {Q:QP} {X:Type} (S:X→Sig×HS×Mem) (I:X→Prop) (m:X→Nat) (x0:X) (h0:I x0) (hent:Ent E σ H M (S x0))
  (hr : ∀ x,I x→CodeK E body (rndQ E S I m x Q) (S x).1 (S x).2.1 (S x).2.2):LoopK E live body Q σ H M:=by
 intro a w hrep b k cs
 have key : ∀ n x,m x=n→I x → ∀ a w,Rep E (S x).1 (S x).2.1 (S x).2.2 a w →
   ∃ e a' w',Lift E Q e a' w'∧Arrives E.P (lone (b.at a (.code body :: .inLoop body :: k)) cs w) b k cs e a' w':=by
  intro n
  induction n using Nat.strongRecOn with
  | _ n ih=>
    intro x hm hI a w hrep
    obtain ⟨e,a₁,w₁,⟨σ',H',M',hrep',hq⟩,harr⟩:=hr x hI a w hrep b (.inLoop body :: k) cs
    cases e with
    | normal=>
      obtain ⟨x',⟨hI',hlt⟩,hent'⟩:=hq
      obtain ⟨e₂,a₂,w₂,hq₂,harr₂⟩:=ih (m x') (hm ▸ hlt) x' rfl hI' a₁ w₁ (hent' _ _ hrep')
      exact ⟨e₂,a₂,w₂,hq₂,.of_steps (Steps.trans harr (.one step_inLoop)) harr₂⟩
    | exit id=>exact ⟨_,a₁,w₁,⟨σ',H',M',hrep',hq⟩,.pass (x:=.inLoop body) rfl (fun _ _=>.inl (by simp)) harr⟩
    | goto l=>exact ⟨_,a₁,w₁,⟨σ',H',M',hrep',hq⟩,.pass (x:=.inLoop body) rfl (fun _ _=>.inl (by simp)) harr⟩
    | ret=>exact ⟨_,a₁,w₁,⟨σ',H',M',hrep',hq⟩,.pass (x:=.inLoop body) rfl (fun _ _=>.inl (by simp)) harr⟩
    | panic ch=>exact ⟨_,a₁,w₁,⟨σ',H',M',hrep',hq⟩,.pass (x:=.inLoop body) rfl (fun _ _=>.inl (by simp)) harr⟩
    | outgrown=>exact ⟨_,a₁,w₁,⟨σ',H',M',hrep',hq⟩,.pass (x:=.inLoop body) rfl (fun _ _=>.inl (by simp)) harr⟩
 obtain ⟨e,a',w',hq,harr⟩:=key _ x0 rfl h0 a w (hent a w hrep)
 exact ⟨e,a',w',hq,.of_steps (.one step_loop) harr⟩

/-- .. two rows are lent, and one comes back -/
theorem CallK.lendR2 {f d sz sz2 sz':Nat} {l:List SV} {es es2 es':List (List Value)} {A:SV→SV→List SV} {T:SV→SV} (k k2:Nat) (hA : ∀ s t s' t' ν ν',s.val ν=s'.val ν'→t.val ν=t'.val ν'→SV.vals ν (A s t)=SV.vals ν' (A s' t')) (hT:Ctx T) (hl:l=A (.own k) (.own k2))
  (hk:hget H k=some (.row sz es)) (hk2:hget H k2=some (.row sz2 es2)) (hne:decide (k≠k2)=true) (hd:decide (d < E.N)=true)
  (h : ∀ M',M.le M'→MeetsH E.P f (A (.own 8000) (.own 8008)) [(8000,.row sz es),(8008,.row sz2 es2)] M' (OwnR T sz' es')) (hn:hNoKey d (hdelk k2 (hdelk k (hdel d H)))=true)
  (hK:K ((d,true,T (.own (8 * d))) :: sigDrop d σ) ((8 * d,.row sz' es') :: hdelk k2 (hdelk k (hdel d H))) M):CallK E f l d K σ H M:=by
 intro ν a w hs hh
 refine .inl ⟨(h M (Mem.le.refl M)).1,?_⟩
 have hsub:(hdelk k2 (hdelk k (hdel d H))).Sublist H:=(hdelk_sub k2 _).trans ((hdelk_sub k _).trans (hdel_sub d H))
 have hne':=of_decide_eq_true hne
 let rest:=hdelk k2 (hdelk k (hdel d H))
 have hrk : ∀ q ∈ rest,q.1≠k:=fun q hq=>hdelk_ne k _ q ((hdelk_sub k2 _).subset hq)
 have hrk2 : ∀ q ∈ rest,q.1≠k2:=hdelk_ne k2 _
 have hrest:Heap E ν rest M w:=hh.sublist hsub
 let M1:Mem:=fun b=>if b ∈ fp ν rest then w.heap[b]? else M b
 have hM1:M.le M1:=fun b o hb=>by
  simp only [M1]
  by_cases hf:b ∈ fp ν rest
  · have:=(hrest.apart b hf).1; rw [hb] at this; cases this
  · rw [if_neg hf]; exact hb
 have hM1w:M1.on w:=fun b o hb=>by
  simp only [M1] at hb
  split at hb
  · exact hb
  · exact hh.mem b o hb
 let ν1:Nat→Value:=fun j=>if j=8000 then ν k else if j=8008 then ν k2 else .bool false
 have e1:ν1 8000=ν k:=by simp [ν1]
 have e2:ν1 8008=ν k2:=by simp [ν1]
 have hfpk : ∀ b,blk? (ν k)=some b→M1 b=none∧E.w0.heap.size≤b:=fun b hb=>by
  have h2:=hh.apart b (List.mem_filterMap.2 ⟨_,hget_mem hk,hb⟩)
  refine ⟨?_,h2.2⟩
  simp only [M1]
  rw [if_neg (fp_hdelk hh hk hb d rest hsub hrk)]
  exact h2.1
 have hfpk2 : ∀ b,blk? (ν k2)=some b→M1 b=none∧E.w0.heap.size≤b:=fun b hb=>by
  have h2:=hh.apart b (List.mem_filterMap.2 ⟨_,hget_mem hk2,hb⟩)
  refine ⟨?_,h2.2⟩
  simp only [M1]
  rw [if_neg (fp_hdelk hh hk2 hb d rest hsub hrk2)]
  exact h2.1
 have hp1:Heap ⟨E.P,0,E.w0,M1⟩ ν1 [(8000,.row sz es),(8008,.row sz2 es2)] M1 w:=by
  refine ⟨fun p hp=>?_,?_,fun b hb=>?_,hM1w,hh.below,Mem.le.refl _,fun b hb=>.inl hb,fun j=>?_⟩
  · simp only [List.mem_cons,List.not_mem_nil,or_false] at hp
    rcases hp with rfl | rfl
    · rw [e1]; exact hh.holds _ (hget_mem hk)
    · rw [e2]; exact hh.holds _ (hget_mem hk2)
  · simp only [fp,List.filterMap_cons,List.filterMap_nil,e1,e2]
    cases hb1:blk? (ν k) with
    | none=>simp only []; cases hb2:blk? (ν k2) <;> simp
    | some b1=>
      cases hb2:blk? (ν k2) with
      | none=>simp
      | some b2=>
        simp only [List.nodup_cons,List.mem_cons,List.not_mem_nil,or_false,not_false_eq_true,List.nodup_nil,and_true]
        rintro rfl
        exact blk_ne hh hk hb1 _ (hget_mem hk2) (fun e=>hne' e.symm) hb2
  · obtain ⟨q,hq,hqb⟩:=List.mem_filterMap.1 hb
    simp only [List.mem_cons,List.not_mem_nil,or_false] at hq
    rcases hq with rfl | rfl
    · rw [e1] at hqb; exact hfpk b hqb
    · rw [e2] at hqb; exact hfpk2 b hqb
  · simp only [ν1]
    split
    · exact hh.one k
    · split
      · exact hh.one k2
      · rfl
 rw [hl,hA (.own k) (.own k2) (.own 8000) (.own 8008) ν ν1 (by simp only [SV.val,e1]) (by simp only [SV.val,e2])]
 refine ((h M1 hM1).2 E.w0 M1 ν1 w hp1).mono ?_
 rintro e w' ⟨s,H',M',ν',rfl,hh',k',rfl,hk'⟩
 let ν2:Nat→Value:=fun j=>if j / 8=d then ν' k' else ν j
 have hν : ∀ j,j / 8≠d→ν2 j=ν j:=fun j hj=>by simp [ν2,hj]
 have hν8:ν2 (8 * d)=ν' k':=by simp [ν2,show (8 * d) / 8=d by omega]
 have hMw:M.on w':=fun b o hb=>hh'.mem b o (hh'.le0 b o (hM1 b o hb))
 have hsome : ∀ b ∈ fp ν rest,∃ ob,w.heap[b]? = some ob∧M' b=some ob:=fun b hb=>by
  have hlt:=hrest.fp_lt hb
  refine ⟨w.heap[b],Array.getElem?_eq_getElem hlt,hh'.le0 b _ ?_⟩
  simp only [M1,if_pos hb]
  exact Array.getElem?_eq_getElem hlt
 have hmv:Heap E ν rest M w':=hrest.moved (fun b hb=>by obtain ⟨ob,h1,h2⟩:=hsome b hb; rw [h1]; exact hh'.mem b ob h2) hMw hh'.below
 refine ⟨_,rfl,_,_,_,⟨ν2,(hs.drop hν).put (of_decide_eq_true hd) ?_,hmv.add hn hν (fun j=>?_) ?_ (fun b hb=>?_)⟩,hK⟩
 · rw [cond_true]
   exact hT _ _ _ _ (by simp only [SV.val,hν8])
 · by_cases hj:j / 8=d
   · simp only [ν2,hj,if_true]; exact hh'.one _
   · simp only [ν2,hj,if_false]; exact hh.one j
 · rw [hν8]
   exact hh'.holds _ (hget_mem hk')
 · rw [hν8] at hb
   obtain ⟨h1,h2⟩:=hh'.apart b (List.mem_filterMap.2 ⟨_,hget_mem hk',hb⟩)
   refine ⟨fun hm=>?_,?_,h2⟩
   · obtain ⟨ob,_,h3⟩:=hsome b hm
     rw [h1] at h3
     cases h3
   · cases hM:M b with
     | none=>rfl
     | some ob=>have:=hh'.le0 b _ (hM1 b _ hM); rw [h1] at this; cases this

/-- slices.overlaps, of two blocks -/
theorem CallK.overlaps {f d tS tR e sz:Nat} {k k2 b b2 o1 o2 m n c1 c2:Nat} {cs cs2:List Value} (hd:decide (d < E.N)=true) (ht:E.P.underlying tS=some (.slice e)) (hz : ∀ w,(sizeOf e).run E.P w = .ok sz w)
  (hov : ∀ w x y v,(Extern.SlicesOverlaps.overlaps #[tS,tS] #[tR] #[x,y]).run E.P w = .ok v w→(callFunc f #[x,y]).run E.P w = .ok (.value v) w)
  (hk:hget H k=some (.box (opn cs) (some (ptrV b)))) (hk2:hget H k2=some (.box (opn cs2) (some (ptrV b2)))) (hne:decide (k≠k2)=true) (hc2:cs2.length≠0)
  (hK:K ((d,true,.v (.bool false)) :: σ) H M):CallK E f [.v (.slice (some ⟨b,o1,none⟩) m c1),.v (.slice (some ⟨b2,o2,none⟩) n c2)] d K σ H M:=by
 intro ν a w hs hh
 obtain ⟨⟨b',T,e1,e2⟩,e3⟩:=hh.holds _ (hget_mem hk)
 have e4:=e3 _ rfl
 simp only at e1 e4
 rw [e4] at e1
 cases e1
 obtain ⟨⟨b2',T2,f1,f2⟩,f3⟩:=hh.holds _ (hget_mem hk2)
 have f4:=f3 _ rfl
 simp only at f1 f4
 rw [f4] at f1
 cases f1
 rw [opn_vals] at e2 f2
 have hbb:b≠b2:=by
  rintro rfl
  exact blk_ne hh hk (b:=b) (by rw [e4]; rfl) _ (hget_mem hk2) (fun e=>(of_decide_eq_true hne) e.symm) (by simp only [f4]; rfl)
 refine .inr ⟨.bool false,w,hov w _ _ _ (Lib.run_overlaps_apart w tS tR e ht sz hz ⟨b,o1,none⟩ ⟨b2,o2,none⟩ m c1 n c2 hbb T T2 cs.length cs2.length (by simp [World.shape?,e2]) (by simp [World.shape?,f2]) hc2 (by simp [World.frozen?,e2]) (by simp [World.frozen?,e2])),_,_,_,⟨ν,hs.put (of_decide_eq_true hd) rfl,hh⟩,hK⟩
theorem CallK.openRow {f d k sz:Nat} {l:List SV} {es:List (List Value)} (e:Nat) (hk:hget H k=some (.row sz es)) (hn : ∀ v,hNoKey e (hpub k v H)=true) (hne:es≠[])
  (h1 : ∀ b cap sp,(es.length≤cap∧cap≤maxLen∧List.length sp=(cap - es.length) * sz)→(∀ e ∈ es,e.length=sz ∧ ∀ c ∈ e,c.oneCell'=true) →
    CallK E f (SV.pubs k (.slice (some ⟨b,0,none⟩) es.length cap) l) d K (sigDrop e (sigPub k (.slice (some ⟨b,0,none⟩) es.length cap) σ)) ((8 * e,.box (opn (es.flatten++sp)) (some (ptrV b))) :: hpub k (.slice (some ⟨b,0,none⟩) es.length cap) H) M)
  (hno : ∀ v,SV.concs (SV.pubs k v l)=true):CallK E f l d K σ H M:=by
 intro ν a w hs hh
 obtain ⟨g1,g2⟩:=hh.holds _ (hget_mem hk)
 simp only at g1 g2
 rcases g2 with ⟨_,h0⟩ | ⟨b,cap,T,sp,hν,g3,g4,g5,hb⟩
 · exact absurd h0 hne
 have hp:=hpub_heap hh hk
 have hps:=pub_slots (k:=k) hs
 rw [hν] at hp hps
 have hkb:blk? (ν k)=some b:=by rw [hν]; rfl
 obtain ⟨hMb,hBb⟩:=hh.apart b (List.mem_filterMap.2 ⟨(k,_),hget_mem hk,hkb⟩)
 let ν':Nat→Value:=fun j=>if j / 8=e then ptrV b else ν j
 have hν' : ∀ j,j / 8≠e→ν' j=ν j:=fun j hj=>by simp [ν',hj]
 have hν8:ν' (8 * e)=ptrV b:=by simp [ν',show (8 * e) / 8=e by omega]
 have hh2:Heap E ν' ((8 * e,.box (opn (es.flatten++sp)) (some (ptrV b))) :: hpub k (.slice (some ⟨b,0,none⟩) es.length cap) H) M w:=by
  refine hp.add (hn _) hν' (fun j=>?_) ?_ (fun c hc=>?_)
  · by_cases hj:j / 8=e
    · simp [ν',hj,Value.oneCell']
    · simp only [ν',hj,if_false]; exact hh.one j
  · rw [hν8]
    refine ⟨⟨b,T,rfl,by rw [opn_vals]; exact hb⟩,fun v hv=>?_⟩
    cases hv
    rfl
  · rw [hν8] at hc
    simp only [ptrV,blk?,Option.some.injEq] at hc
    subst hc
    refine ⟨?_,hMb,hBb⟩
    rw [fp_pub]
    exact fp_hdelk hh hk hkb 0 _ (hdelk_sub k H) (hdelk_ne k H)
 have:=h1 b cap sp ⟨g3,g4,g5⟩ g1 ν' a w (hps.drop hν') hh2
 rw [← hν] at this
 have hl:SV.vals ν' (SV.pubs k (ν k) l)=SV.vals ν l:=by
  rw [SV.concs_vals (ν:=ν) (ν':=ν') _ (hno _),SV.pubs_vals]
 rw [hl] at this
 exact this
theorem MeetsH.of_bodyS {P:Program} {f:FuncId} {fn:Func} {c:Code} {args:List SV} {R:RP} (hf:P.funcs[f]? = some fn) (hb:fn.body=some c) (hn:okFn fn args.length=true)
  (h : ∀ w M0,CodeK ⟨P,fn.ntmps,w,M0⟩ c (RetK P fn.results.toList R) (params fn.ntmps 0 args) H M):MeetsH P f args H M R:=by
 simp only [okFn,Bool.and_eq_true,Bool.not_eq_true',decide_eq_true_eq] at hn
 refine ⟨⟨fn,hf,hn.1.1,hn.1.2⟩,fun w0 M0 ν w hh=>?_⟩
 refine calls_of_wp hf hb ?_
 have hlen:(SV.vals ν args).length=args.length:=by rw [SV.vals_map]; simp
 have hheap:Heap ⟨P,fn.ntmps,w0,M0⟩ ν H M w:=⟨hh.holds,hh.nodup,hh.apart,hh.mem,hh.below,hh.le0,hh.fresh,hh.one⟩
 refine Code.wp_mono ?_ (h w0 M0 _ w ⟨ν,⟨?_,rfl,?_⟩,hheap⟩)
 · rintro e a w' ⟨σ,H,M',⟨ν,hs,hh⟩,hq⟩
   have key:(match rsvs P σ H M' fn.results.toList with | some (ss,C)=>C∧R (one? ss) H M' | none=>False)→a.defers=[] ∧ ∃ v,(results fn a.tmps).run P w' = .ok v w' ∧ ∃ s H' M' ν,Ending.returned v = .returned (s.val ν)∧Heap ⟨P,0,w0,M0⟩ ν H' M' w'∧R s H' M':=by
    intro hq
    split at hq
    · rename_i ss C hr
      exact ⟨hs.2.1,_,results_sound hs hh hr hq.1,_,_,_,ν,rfl,⟨hh.holds,hh.nodup,hh.apart,hh.mem,hh.below,hh.le0,hh.fresh,hh.one⟩,hq.2⟩
    · exact hq.elim
   cases e with
   | normal=>exact key hq
   | ret=>exact key hq
   | _=>exact hq.elim
 · simp only [Array.size_append,List.size_toArray,Array.size_replicate,hlen]; omega
 · intro k g s hk
   obtain ⟨i,rfl,hg,hi⟩:=lk_params hk
   simp only at hg hi
   subst hg
   have hlt:i < args.length:=(List.getElem?_eq_some_iff.1 hi).1
   rw [Array.getElem?_append_left (by simp only [List.size_toArray,hlen]; omega),List.getElem?_toArray,SV.vals_map,List.getElem?_map,Nat.zero_add,hi]
   rfl
theorem putV_shift (cs D x:List Value) (o:Nat) (h:o+x.length≤cs.length):putV (putV cs (o+x.length) D) o x=cs.take o++x++(D++cs.drop (o+x.length+D.length)):=by
 unfold putV
 have h1:(cs.take (o+x.length)).length=o+x.length:=by rw [List.length_take]; omega
 rw [List.append_assoc,List.append_assoc,List.append_assoc]
 congr 1
 · rw [List.take_append_of_le_length (by omega),List.take_take,Nat.min_eq_left (by omega)]
 · congr 1
   have h2:=List.drop_left (l₁:=cs.take (o+x.length)) (l₂:=D++cs.drop (o+x.length+D.length))
   rwa [h1] at h2
theorem get_of_take {l news sp:List Value} {o:Nat} (h:news=l.take o) {j:Nat} {u:Value} (hj:news[j]? = some u):(l++sp)[0+j]? = some u:=by
 subst h
 rw [List.getElem?_take] at hj
 split at hj
 · rw [Nat.zero_add,List.getElem?_append_left (List.getElem?_eq_some_iff.1 hj).1]
   exact hj
 · cases hj
theorem opn_noKeys (d:Nat) (l:List Value):SV.noKeys d (opn l)=true:=noKeys_v d l
theorem opn_pubs (k:Nat) (v:Value) (l:List Value):SV.pubs k v (opn l)=opn l:=pubs_v k v l
theorem so0:type_of% (And.intro @opn_noKeys @opn_pubs):=And.intro @opn_noKeys @opn_pubs
theorem CodeK.weak {c:Code} {Q:QP} {σ':Sig} (h:CodeK E c Q σ' H M) (he:subS σ σ'∧subH H H):CodeK E c Q σ H M:=fun a w hr=>h a w (Ent.of (S:=(σ',H,M)) ⟨he,rfl⟩ a w hr)
end
end Go.X

namespace Go.X
open Go Go.RowKit
section
variable {E:Env} {σ:Sig} {H:HS} {M:Mem} {a:Act} {w:World} {ν:Nat→Value} {K:KP} {o:Oper}
theorem Heap.boxSet (hh:Heap E ν H M w) {k j:Nat} {cs:List SV} {t:Option Value} {s s0:SV} (hk:hget H k=some (.box cs t)) (hj:cs[j]? = some s0) (hv:s.val ν=s0.val ν):Heap E ν (hset k (.box (cs.set j s) t) H) M w:=by
 refine hh.setPO (p:=.box cs t) hk (fun hx=>?_)
 obtain ⟨⟨b,T,e1,e2⟩,e3⟩:=hx
 refine ⟨⟨b,T,e1,?_⟩,e3⟩
 rw [e2]
 congr 3
 rw [SV.vals_map,SV.vals_map,List.map_set]
 apply List.ext_getElem?
 intro i
 rw [List.getElem?_set]
 split
 · rename_i ei
   subst ei
   have hjl:j < cs.length:=(List.getElem?_eq_some_iff.1 hj).1
   rw [List.length_map,if_pos hjl,List.getElem?_map,hj]
   simp only [Option.map_some,hv]
 · rfl
theorem Rep.nilBox (k j e sz:Nat) {cs:List SV} {t:Option Value} (hk:hget H k=some (.box cs t)) (hj:cs[j]? = some (.v (.slice none 0 0))) (hke:(k / 8 == e)=false) (hn:hNoKey e H=true) (hs':sigNoKey e σ=true) (hr:Rep E σ H M a w) :
  Rep E σ ((8 * e,.row sz []) :: hset k (.box (cs.set j (.own (8 * e))) t) H) M a w:=by
 obtain ⟨ν,hs,hh⟩:=hr
 let ν2:Nat→Value:=fun i=>if i / 8=e then .slice none 0 0 else ν i
 have hν : ∀ i,i / 8≠e→ν2 i=ν i:=fun i hi=>by simp [ν2,hi]
 have hν8:ν2 (8 * e) = .slice none 0 0:=by simp [ν2,show (8 * e) / 8=e by omega]
 have hke':k / 8≠e:=by simpa using hke
 have h1:Heap E ν2 ((8 * e,.row sz []) :: H) M w:=by
  refine hh.add hn hν (fun i=>?_) ?_ (fun b hb=>by rw [hν8] at hb; simp [blk?] at hb)
  · by_cases hi:i / 8=e
    · simp [ν2,hi,Value.oneCell']
    · simp only [ν2,hi,if_false]; exact hh.one i
  · rw [hν8]
    exact ⟨fun e he=>by simp at he,.inl ⟨rfl,rfl⟩⟩
 have hne : ¬ 8 * e=k:=fun he=>hke' (by omega)
 have h3:=h1.boxSet (k:=k) (j:=j) (s:=.own (8 * e)) (by simp only [hget]; rw [if_neg (fun e'=>hne e'.symm)]; exact hk) hj (by simp only [SV.val,hν8])
 simp only [hset,if_neg hne] at h3
 exact ⟨ν2,⟨hs.1,hs.2.1,fun i g s hi=>by rw [hs.2.2 i g s hi,SV.val_congr hν s (sigNoKey_lk hs' hi)]⟩,h3⟩
theorem LoopK.nilBox {live:List Nat} {body:Code} {Q:QP} (k j e sz:Nat) {cs:List SV} {t:Option Value} (hk:hget H k=some (.box cs t)) (hj:cs[j]? = some (.v (.slice none 0 0))) (hke:(k / 8 == e)=false) (hn:hNoKey e H=true) (hs':sigNoKey e σ=true)
  (h:LoopK E live body Q σ ((8 * e,.row sz []) :: hset k (.box (cs.set j (.own (8 * e))) t) H) M):LoopK E live body Q σ H M:=
 fun a w hr=>h a w (hr.nilBox k j e sz hk hj hke hn hs')
/-- a row in a box gets another key -/
theorem Ent.rekeyB {S:Sig×HS×Mem} (kb j k1 e sz:Nat) (es:List (List Value)) {cs:List SV} {t:Option Value} (hk1:hget H k1=some (.row sz es)) (hkb:hget ((8 * e,.row sz es) :: hdelk k1 (hdel e H)) kb=some (.box cs t)) (hj:cs[j]? = some (.own k1)) (hke:(k1 / 8 == e)=false) (hn:hNoKey e (hdelk k1 (hdel e H))=true)
  (h:Ent E (sigDrop e σ) (hset kb (.box (cs.set j (.own (8 * e))) t) ((8 * e,.row sz es) :: hdelk k1 (hdel e H))) M S):Ent E σ H M S:=by
 rintro a w ⟨ν,hs,hh⟩
 refine h a w ?_
 have hke':k1 / 8≠e:=by simpa using hke
 let ν2:Nat→Value:=fun i=>if i / 8=e then ν k1 else ν i
 have hν : ∀ i,i / 8≠e→ν2 i=ν i:=fun i hi=>by simp [ν2,hi]
 have hν8:ν2 (8 * e)=ν k1:=by simp [ν2,show (8 * e) / 8=e by omega]
 have hsub:(hdelk k1 (hdel e H)).Sublist H:=(hdelk_sub k1 _).trans (hdel_sub e H)
 have h1:Heap E ν2 ((8 * e,.row sz es) :: hdelk k1 (hdel e H)) M w:=by
  refine (hh.sublist hsub).add hn hν (fun i=>?_) ?_ (fun b hb=>?_)
  · by_cases hi:i / 8=e
    · simp only [ν2,hi,if_true]; exact hh.one k1
    · simp only [ν2,hi,if_false]; exact hh.one i
  · rw [hν8]
    exact hh.holds _ (hget_mem hk1)
  · rw [hν8] at hb
    obtain ⟨g1,g2⟩:=hh.apart b (List.mem_filterMap.2 ⟨(k1,_),hget_mem hk1,hb⟩)
    exact ⟨fp_hdelk hh hk1 hb e _ hsub (hdelk_ne k1 _),g1,g2⟩
 exact ⟨ν2,hs.drop hν,h1.boxSet hkb hj (by simp only [SV.val,hν8,hν k1 hke'])⟩
end
end Go.X

namespace Go.X
open Go Go.RowKit

section
variable {E:Env} {σ:Sig} {H:HS} {M:Mem} {a:Act} {w:World} {ν:Nat→Value} {K:KP} {o:Oper}

/-- a new object becomes known -/
theorem Heap.known (hh:Heap E ν H M w) {w':World} {ob:Obj} (hb:Below w.heap.size w w') (hn:w'.heap[w.heap.size]? = some ob) :
  ∃ M',M.le M'∧M' w.heap.size=some ob∧Heap E ν H M' w':=by
 have hw:=hh.grow hb
 have hMn:M w.heap.size=none:=by
  cases hM:M w.heap.size with
  | none=>rfl
  | some o=>have:=hh.mem.lt hM; omega
 let M':Mem:=fun c=>if c=w.heap.size then some ob else M c
 have hle:M.le M':=fun c o hc=>by
  simp only [M']
  rw [if_neg (fun e=>by rw [e,hMn] at hc; cases hc)]
  exact hc
 refine ⟨M',hle,by simp [M'],hw.holds,hw.nodup,fun b hb'=>?_,fun c o' hc=>?_,hw.below,hw.le0.trans hle,fun c hc=>?_,hw.one⟩
 · have:=hh.fp_lt hb'
   simp only [M',if_neg (show b≠w.heap.size by omega)]
   exact hw.apart b hb'
 · simp only [M'] at hc
   split at hc
   · rename_i e
     simp only [Option.some.injEq] at hc
     subst hc e
     exact hn
   · exact hw.mem c o' hc
 · simp only [M'] at hc
   split at hc
   · rename_i e; subst e; exact .inr hh.below.size
   · exact hw.fresh c hc

end
end Go.X

