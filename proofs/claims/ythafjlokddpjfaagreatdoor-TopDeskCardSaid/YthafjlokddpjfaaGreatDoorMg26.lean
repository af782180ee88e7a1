/- Contracts of functions and the logic that they are proved in (4 texts in one). Conditions: none. -/
import Derived.KernelRfl
import Derived.Test.YthafjlokddpjfaaGreatDoorMg10
import Derived.Test.YthafjlokddpjfaaGreatDoorMg25
import Derived.Test.YthafjlokddpjfaaGreatDoorMg24
open Int renaming cast_ofNat_Int→zl,natCast_zero→za,natCast_one→ze,toNat_natCast→zo
namespace Go.X.Vo
end Go.X.Vo
namespace Go.X.Tg
end Go.X.Tg
namespace Go.X.Bg
end Go.X.Bg
namespace Go.X.Nm
end Go.X.Nm
namespace Go.X.Bp
end Go.X.Bp
namespace Go.X.Sb
end Go.X.Sb
set_option linter.unusedSimpArgs false
set_option linter.unusedVariables false
set_option maxHeartbeats 4000000
set_option maxRecDepth 20000
namespace Go.X.Dk
theorem words_at {p r:Tx} (h:32 ∉ p) (h0:p≠[]):wordsS (p++32 :: r)=p :: wordsS r:=by
 unfold wordsS
 rw [splitC_at h,List.filter_cons_of_pos (by simp [isW,h0])]
theorem words_one {p:Tx} (h:32 ∉ p) (h0:p≠[]):wordsS p=[p]:=by
 unfold wordsS
 rw [splitC_no h]
 simp [isW,h0]
theorem hex_rng {n:Nat} (h:n < 16):33≤(hexS n).toNat∧(hexS n).toNat≤126∧unhexS (hexS n)=some n:=by
 have : ∀ n:Fin 16,33≤(hexS n.val).toNat∧(hexS n.val).toNat≤126∧unhexS (hexS n.val)=some n.val:=by decide
 exact this ⟨n,h⟩
theorem show1_rng (b:UInt8) : ∀ c ∈ show1 b,33≤c.toNat∧c.toNat≤126:=by
 intro c hc
 unfold show1 at hc
 split at hc
 · rename_i h
   simp only [List.mem_singleton] at hc
   subst hc
   have:=of_decide_eq_true h.1
   exact ⟨this.1,this.2.1⟩
 · have hb:=UInt8.toNat_lt b
   simp only [List.mem_cons,List.not_mem_nil,or_false] at hc
   rcases hc with rfl | rfl | rfl
   · decide
   · exact ⟨(hex_rng (by omega)).1,(hex_rng (by omega)).2.1⟩
   · exact ⟨(hex_rng (Nat.mod_lt _ (by decide))).1,(hex_rng (Nat.mod_lt _ (by decide))).2.1⟩
theorem show_rng (s:Tx) : ∀ c ∈ showS s,33≤c.toNat∧c.toNat≤126:=by
 intro c hc
 unfold showS at hc
 split at hc
 · simp only [List.mem_singleton] at hc
   subst hc
   decide
 · obtain ⟨b,_,h⟩:=List.mem_flatMap.1 hc
   exact show1_rng b c h
theorem show_no (s:Tx):32 ∉ showS s∧10 ∉ showS s:=⟨fun h=>absurd (show_rng s _ h).1 (by decide),fun h=>absurd (show_rng s _ h).1 (by decide)⟩
theorem show1_ne (b:UInt8):show1 b≠[]:=by unfold show1; split <;> simp
theorem show_ne (s:Tx):showS s≠[]:=by
 unfold showS
 split
 · simp
 · rename_i h
   cases s with
   | nil=>exact absurd rfl h
   | cons b s=>
     rw [List.flatMap_cons]
     intro e
     exact show1_ne b (List.append_eq_nil_iff.1 e).1
theorem tx_show : ∀ s:Tx,txT (s.flatMap show1)=some s
 | []=>rfl
 | b :: s=>by
   have ih:=tx_show s
   have hb:=UInt8.toNat_lt b
   rw [List.flatMap_cons]
   by_cases h:plainB b=true∧b.toNat≠37
   · have e:show1 b=[b]:=if_pos h
     rw [e]
     show txT (b :: s.flatMap show1)=_
     rw [txT_one h.1 h.2,ih]
     rfl
   · have e:show1 b=[37,hexS (b.toNat / 16),hexS (b.toNat % 16)]:=if_neg h
     rw [e]
     show txT (37 :: hexS (b.toNat / 16) :: hexS (b.toNat % 16) :: s.flatMap show1)=_
     rw [txT_hex rfl,(hex_rng (n:=b.toNat / 16) (by omega)).2.2,(hex_rng (n:=b.toNat % 16) (Nat.mod_lt _ (by decide))).2.2,ih]
     simp only [Option.map_some]
     have:16 * (b.toNat / 16)+b.toNat % 16=b.toNat:=by omega
     rw [this,UInt8.ofNat_toNat]
theorem show_ne95 (s:Tx) (h:s≠[]):s.flatMap show1≠[95]:=fun e=>by
 cases s with
 | nil=>exact h rfl
 | cons b s=>
   rw [List.flatMap_cons] at e
   unfold show1 at e
   split at e
   · rename_i h1
     simp only [List.cons_append,List.nil_append,List.cons.injEq] at e
     have h2:=of_decide_eq_true h1.1
     rw [e.1] at h2
     exact absurd rfl h2.2.2
   · simp only [List.cons_append,List.cons.injEq] at e
     exact absurd e.1 (by decide)
theorem text_show (s:Tx):textS (showS s)=some s:=by
 unfold showS
 split
 · rename_i h
   rw [h]
   rfl
 · rename_i h
   unfold textS
   rw [if_neg (show_ne95 s h)]
   exact tx_show s
/-! the session -/
def c1S:Tx:=[109,97,107,101,32,49,32,118,32,50,10,119,114,105,116,101,32,49,32,118,32,48,32]
def c2S:Tx:=[10,99,108,111,110,101,32,49,32,118,32,119,10,119,114,105,116,101,32,49,32,119,32,48,32]
def c3S:Tx:=[10,114,101,97,100,32,49,32,118,32,48,10,114,101,97,100,32,49,32,119,32,48,10,114,101,97,100,32,49,32,119,32,49,10,114,101,103,105,115,116,101,114,32,50,32,48,32,55,10,114,101,115,101,114,118,101,32,50,32,55,32,51,10,114,101,97,100,32,49,32,118,32,48,10,114,101,97,100,32,50,32,119,32,48,10,99,114,97,115,104,32,57,57,57,57,57,57,10,114,101,97,100,32,49,32,119,32,48,10,97,108,108,10,99,114,97,115,104,32,51,48,10,114,101,97,100,32,49,32,119,32,48,10]
def inS (a b:Tx):Tx:=c1S++a++c2S++b++c3S
def sess (a b:Tx):List (List Tx):=[[[109,97,107,101],[49],[118],[50]],[[119,114,105,116,101],[49],[118],[48],a],[[99,108,111,110,101],[49],[118],[119]],[[119,114,105,116,101],[49],[119],[48],b],
 [[114,101,97,100],[49],[118],[48]],[[114,101,97,100],[49],[119],[48]],[[114,101,97,100],[49],[119],[49]],[[114,101,103,105,115,116,101,114],[50],[48],[55]],[[114,101,115,101,114,118,101],[50],[55],[51]],[[114,101,97,100],[49],[118],[48]],[[114,101,97,100],[50],[119],[48]],
 [[99,114,97,115,104],[57,57,57,57,57,57]],[[114,101,97,100],[49],[119],[48]],[[97,108,108]],[[99,114,97,115,104],[51,48]],[[114,101,97,100],[49],[119],[48]]]
theorem no10 {p a:Tx} (h:10 ∉ p) (h2:10 ∉ a):10 ∉ p++a:=fun h3=>(List.mem_append.1 h3).elim h h2
theorem words_write {n a:Tx} (h:32 ∉ n) (h0:n≠[]) (ha:32 ∉ a) (ha0:a≠[]):wordsS ([119,114,105,116,101,32,49,32]++(n++([32,48,32]++a)))=[[119,114,105,116,101],[49],n,[48],a]:=by
 show wordsS ([119,114,105,116,101]++32 :: ([49]++32 :: (n++32 :: ([48]++32 :: a))))=_
 rw [words_at (by decide) (by decide),words_at (by decide) (by decide),words_at h h0,words_at (by decide) (by decide),words_one ha ha0]
theorem lines_in (a b:Tx) (ha:10 ∉ a) (hb:10 ∉ b):linesS (inS a b)=[[109,97,107,101,32,49,32,118,32,50],[119,114,105,116,101,32,49,32,118,32,48,32]++a,[99,108,111,110,101,32,49,32,118,32,119],[119,114,105,116,101,32,49,32,119,32,48,32]++b,[114,101,97,100,32,49,32,118,32,48],[114,101,97,100,32,49,32,119,32,48],[114,101,97,100,32,49,32,119,32,49],[114,101,103,105,115,116,101,114,32,50,32,48,32,55],[114,101,115,101,114,118,101,32,50,32,55,32,51],[114,101,97,100,32,49,32,118,32,48],[114,101,97,100,32,50,32,119,32,48],[99,114,97,115,104,32,57,57,57,57,57,57],[114,101,97,100,32,49,32,119,32,48],[97,108,108],[99,114,97,115,104,32,51,48],[114,101,97,100,32,49,32,119,32,48]]:=by
 have e:inS a b=[109,97,107,101,32,49,32,118,32,50]++10 :: (([119,114,105,116,101,32,49,32,118,32,48,32]++a)++10 :: ([99,108,111,110,101,32,49,32,118,32,119]++10 :: (([119,114,105,116,101,32,49,32,119,32,48,32]++b)++10 :: ([114,101,97,100,32,49,32,118,32,48]++10 :: ([114,101,97,100,32,49,32,119,32,48]++10 :: ([114,101,97,100,32,49,32,119,32,49]++10 :: ([114,101,103,105,115,116,101,114,32,50,32,48,32,55]++10 :: ([114,101,115,101,114,118,101,32,50,32,55,32,51]++10 :: ([114,101,97,100,32,49,32,118,32,48]++10 :: ([114,101,97,100,32,50,32,119,32,48]++10 :: ([99,114,97,115,104,32,57,57,57,57,57,57]++10 :: ([114,101,97,100,32,49,32,119,32,48]++10 :: ([97,108,108]++10 :: ([99,114,97,115,104,32,51,48]++10 :: ([114,101,97,100,32,49,32,119,32,48]++10 :: []))))))))))))))):=by
  unfold inS c1S c2S c3S
  simp only [List.append_assoc,List.cons_append,List.nil_append]
 rw [e,linesS_at (by decide),linesS_at (no10 (by decide) ha),linesS_at (by decide),linesS_at (no10 (by decide) hb),linesS_at (by decide),linesS_at (by decide),linesS_at (by decide),linesS_at (by decide),linesS_at (by decide),linesS_at (by decide),linesS_at (by decide),linesS_at (by decide),linesS_at (by decide),linesS_at (by decide),linesS_at (by decide),linesS_at (by decide),linesS_nil]
theorem said_in (s t:Tx):saidS (inS (showS s) (showS t))=sess (showS s) (showS t):=by
 unfold saidS
 rw [lines_in _ _ (show_no s).2 (show_no t).2]
 have w1:wordsS ([119,114,105,116,101,32,49,32,118,32,48,32]++showS s)=[[119,114,105,116,101],[49],[118],[48],showS s]:=words_write (n:=[118]) (by decide) (by decide) (show_no s).1 (show_ne s)
 have w2:wordsS ([119,114,105,116,101,32,49,32,119,32,48,32]++showS t)=[[119,114,105,116,101],[49],[119],[48],showS t]:=words_write (n:=[119]) (by decide) (by decide) (show_no t).1 (show_ne t)
 simp only [List.map_cons,List.map_nil,w1,w2]
 rfl
theorem num1 {d:UInt8} (h:isD d=true):numS [d]=some (d.toNat - 48):=by
 have hd:=of_decide_eq_true h
 refine numS_iff.2 ⟨?_,by simp⟩
 rw [Lib.decDigits_one (by omega)]
 have:(48+(d.toNat - 48))=d.toNat:=by omega
 rw [this,UInt8.ofNat_toNat]
theorem num30:numS [51,48]=some 30:=numS_iff.2 ⟨by simp [Lib.decDigits],by decide⟩
theorem num6:numS [57,57,57,57,57,57]=some 999999:=numS_iff.2 ⟨by simp [Lib.decDigits],by decide⟩
end Go.X.Dk

namespace Go.X.Dk
open Go Go.X Go.RowKit Go.X.Vo Go.X.Tg
def oM:OpT:=(1,[118],[],2,[])
def oW (s:Tx):OpT:=(3,[118],[],0,s)
def oC:OpT:=(5,[118],[119],0,[])
def oX (t:Tx):OpT:=(3,[119],[],0,t)
theorem oM_ok:Lg.opE oM=0:=by decide
theorem oC_ok:Lg.opE oC=0:=by decide
theorem oW_ok {s:Tx} (h:s.length≤64):Lg.opE (oW s)=0:=by
 unfold Lg.opE oW
 simp only
 rw [if_neg (by decide),if_neg (by decide),if_neg (by decide),if_neg (by omega),if_neg (by decide),if_neg (by simp),if_neg (by decide)]
theorem oX_ok {s:Tx} (h:s.length≤64):Lg.opE (oX s)=0:=by
 unfold Lg.opE oX
 simp only
 rw [if_neg (by decide),if_neg (by decide),if_neg (by decide),if_neg (by omega),if_neg (by decide),if_neg (by simp),if_neg (by decide)]
def A1:St:=([],[([118],[hole,hole])])
def id1 (s:Tx):Id3:=(true,Bg.sumT s,0)
def A2 (s:Tx):St:=([(Bg.sumT s,0,s,1)],[([118],[id1 s,hole])])
def A3 (s:Tx):St:=([(Bg.sumT s,0,s,2)],[([118],[id1 s,hole]),([119],[id1 s,hole])])
theorem d1:doA zSt.1 zSt.2 oM=(A1,0):=by kernel_rfl
theorem free0 (x:Int):Bp.freeN [] x=0:=rfl
theorem put0 {s:Tx} (h:s.length≤64):Bp.putG [] s=([(Bg.sumT s,0,s,1)],id1 s,0):=by
 have:Bp.txtIx [] s = -1:=by simp [Bp.txtIx,fidx]
 unfold Bp.putG
 rw [if_neg (by omega),this,if_neg (by decide),if_neg (by decide),free0]
 rfl
theorem d2 {s:Tx} (h:s.length≤64):doA A1.1 A1.2 (oW s)=(A2 s,0):=by
 have e1:plE A1.1 A1.2 [118] 0=0:=by kernel_rfl
 have e2:(volIx A1.2 [118]).toNat=0:=by decide
 have e3:lessId A1.1 (idAt A1.2 0 0)=[]:=by decide
 show writeA A1.1 A1.2 [118] 0 s=_
 unfold writeA
 rw [e1,if_neg (by decide),e2]
 show writeS A1.1 A1.2 0 0 s=_
 unfold writeS
 rw [e3,put0 h,if_neg (by simp)]
 rfl
theorem right2 {s:Tx} (h:s.length≤64):stE (A2 s).1 (A2 s).2=0:=by
 have:=doA_right A1.1 A1.2 (oW s)
 rw [d2 h] at this
 exact this
theorem inc2 (s:Tx):Bp.idIx [(Bg.sumT s,(0:Int),s,(1:Int))] (id1 s)=0:=by simp [Bp.idIx,fidx,Bg.isId,id1]
theorem d3 {s:Tx} (h:s.length≤64):doA (A2 s).1 (A2 s).2 oC=(A3 s,0):=by
 show cloneA (A2 s).1 (A2 s).2 [118] [119]=_
 have e2:volIx (A2 s).2 [118]=0:=rfl
 have e3:freshE (A2 s).2 [119]=0:=rfl
 unfold cloneA
 rw [right2 h,if_neg (by decide),e2,if_neg (by decide),e3,if_neg (by decide)]
 have e4:incId (A2 s).1 (id1 s)=[(Bg.sumT s,0,s,2)]:=by
  unfold incId
  rw [show Bp.idIx (A2 s).1 (id1 s)=0 from inc2 s,if_pos (by decide)]
  rfl
 have e5:incId [(Bg.sumT s,(0:Int),s,(2:Int))] hole=[(Bg.sumT s,0,s,2)]:=rfl
 show (cloneS (A2 s).1 (A2 s).2 0 [119],(0:Int))=_
 unfold cloneS
 show ((incId (incId (A2 s).1 (id1 s)) hole,_),(0:Int))=_
 rw [e4,e5]
 rfl
theorem right3 {s:Tx} (h:s.length≤64):stE (A3 s).1 (A3 s).2=0:=by
 have:=doA_right (A2 s).1 (A2 s).2 oC
 rw [d3 h] at this
 exact this
theorem less3 (s:Tx):lessId (A3 s).1 (id1 s)=[(Bg.sumT s,0,s,1)]:=by
 have:Bp.idIx (A3 s).1 (id1 s)=0:=by simp [Bp.idIx,fidx,Bg.isId,id1,A3]
 unfold lessId
 rw [if_pos (show (id1 s).1=true from rfl)]
 unfold Bp.lessG
 rw [this,if_neg (by decide)]
 rfl
/-- the second text's number, the bag behind the second writing -/
def n2 (s t:Tx):Int:=if Bg.sumT t=Bg.sumT s then 1 else 0
def id2 (s t:Tx):Id3:=if t=s then id1 s else (true,Bg.sumT t,n2 s t)
def bag4 (s t:Tx):List Bg.It:=if t=s then [(Bg.sumT s,0,s,2)] else if Bg.sumT t < Bg.sumT s then [(Bg.sumT t,0,t,1),(Bg.sumT s,0,s,1)] else [(Bg.sumT s,0,s,1),(Bg.sumT t,n2 s t,t,1)]
def A4 (s t:Tx):St:=(bag4 s t,[([118],[id1 s,hole]),([119],[id2 s t,hole])])
theorem free1 (s t:Tx):(Bp.freeN [(Bg.sumT s,(0:Int),s,(1:Int))] (Bg.sumT t):Int)=n2 s t:=by
 unfold n2 Bp.freeN
 by_cases h:Bg.sumT t=Bg.sumT s
 · rw [if_pos h]
   have h0:Bp.has [(Bg.sumT s,(0:Int),s,(1:Int))] (Bg.sumT t) 0=true:=by simp [Bp.has,fidx,Bg.isId,h]
   have h1:Bp.has [(Bg.sumT s,(0:Int),s,(1:Int))] (Bg.sumT t) 1=false:=by simp [Bp.has,fidx,Bg.isId]
   have:List.range 65=0 :: 1 :: (List.range 65).drop 2:=rfl
   rw [this,List.find?_cons_of_neg (by simp [h0]),List.find?_cons_of_pos (by simp [h1])]
   rfl
 · rw [if_neg h]
   have h0:Bp.has [(Bg.sumT s,(0:Int),s,(1:Int))] (Bg.sumT t) 0=false:=by simp [Bp.has,fidx,Bg.isId,show ¬ Bg.sumT s=Bg.sumT t from fun e=>h e.symm]
   have:List.range 65=0 :: (List.range 65).drop 1:=rfl
   rw [this,List.find?_cons_of_pos (by simp [h0])]
   rfl
theorem put1 {s t:Tx} (h:t.length≤64):Bp.putG [(Bg.sumT s,(0:Int),s,(1:Int))] t=(bag4 s t,id2 s t,0):=by
 unfold Bp.putG
 rw [if_neg (by omega)]
 by_cases e:t=s
 · subst e
   have:Bp.txtIx [(Bg.sumT t,(0:Int),t,(1:Int))] t=0:=by simp [Bp.txtIx,fidx]
   rw [this,if_pos (by decide),if_neg (show ¬ ((Bp.atI [(Bg.sumT t,(0:Int),t,(1:Int))] 0).2.2.2=1000000) from (by decide : ¬ ((1:Int)=1000000)))]
   unfold bag4 id2
   rw [if_pos rfl,if_pos rfl]
   rfl
 · have:Bp.txtIx [(Bg.sumT s,(0:Int),s,(1:Int))] t = -1:=by simp [Bp.txtIx,fidx,show ¬ s=t from fun h=>e h.symm]
   rw [this,if_neg (by decide),if_neg (by simp),free1]
   unfold bag4 id2
   rw [if_neg e,if_neg e]
   congr 1
   unfold Bp.insI
   by_cases h1:Bg.sumT t < Bg.sumT s
   · have h2 : ¬ Bg.sumT s=Bg.sumT t:=by omega
     have hn:n2 s t=0:=if_neg (by omega)
     rw [if_pos h1,hn]
     have:Sb.bk (fun y=>Bg.cmpT y (Bg.sumT t,0,t,1)) [(Bg.sumT s,(0:Int),s,(1:Int))]=0:=by
      simp only [Sb.bk,Bg.cmpT,if_neg h2]
      rw [if_neg (by omega)]
     rw [this]
     rfl
   · rw [if_neg h1]
     have:Sb.bk (fun y=>Bg.cmpT y (Bg.sumT t,n2 s t,t,1)) [(Bg.sumT s,(0:Int),s,(1:Int))]=1:=by
      simp only [Sb.bk,Bg.cmpT]
      by_cases h2:Bg.sumT s=Bg.sumT t
      · have hn:n2 s t=1:=if_pos h2.symm
        rw [if_pos h2,hn]
        rfl
      · rw [if_neg h2,if_pos (by omega)]
     rw [this]
     rfl
theorem d4 {s t:Tx} (h:s.length≤64) (h':t.length≤64):doA (A3 s).1 (A3 s).2 (oX t)=(A4 s t,0):=by
 have e2:volIx (A3 s).2 [119]=1:=rfl
 have e1:plE (A3 s).1 (A3 s).2 [119] 0=0:=by
  unfold plE
  rw [right3 h,if_neg (by decide),e2,if_neg (by decide)]
  rfl
 show writeA (A3 s).1 (A3 s).2 [119] 0 t=_
 unfold writeA
 rw [e1,if_neg (by decide),e2]
 show writeS (A3 s).1 (A3 s).2 1 0 t=_
 unfold writeS
 rw [show idAt (A3 s).2 1 0=id1 s from rfl,less3,put1 h',if_neg (by simp)]
 rfl
theorem right4 {s t:Tx} (h:s.length≤64) (h':t.length≤64):stE (A4 s t).1 (A4 s t).2=0:=by
 have:=doA_right (A3 s).1 (A3 s).2 (oX t)
 rw [d4 h h'] at this
 exact this
/-! what is read -/
theorem txt1 (s t:Tx):txtId (bag4 s t) (id1 s)=s:=by
 unfold bag4
 split
 · simp [txtId,fidx,Bg.isId,id1]
 · split
   · rename_i h1 h2
     have : ¬ Bg.sumT t=Bg.sumT s:=by omega
     simp [txtId,fidx,Bg.isId,id1,this]
   · simp [txtId,fidx,Bg.isId,id1]
theorem txt2 (s t:Tx):txtId (bag4 s t) (id2 s t)=t:=by
 unfold bag4 id2
 split
 · rename_i e
   simp [txtId,fidx,Bg.isId,id1,e]
 · split
   · rename_i h1 h2
     have hn:n2 s t=0:=if_neg (by omega)
     simp [txtId,fidx,Bg.isId,hn]
   · rename_i h1 h2
     by_cases h3:Bg.sumT t=Bg.sumT s
     · have hn:n2 s t=1:=if_pos h3
       simp [txtId,fidx,Bg.isId,hn,h3]
     · have h4 : ¬ Bg.sumT s=Bg.sumT t:=fun e=>h3 e.symm
       simp [txtId,fidx,Bg.isId,h4]
theorem id2_is (s t:Tx):(id2 s t).1=true:=by unfold id2; split <;> rfl
theorem read_v {s t:Tx} (h:s.length≤64) (h':t.length≤64):plE (A4 s t).1 (A4 s t).2 [118] 0=0∧rdS (A4 s t).1 (A4 s t).2 [118] 0=s:=by
 have e1:plE (A4 s t).1 (A4 s t).2 [118] 0=0:=by
  unfold plE
  rw [right4 h h',if_neg (by decide),show volIx (A4 s t).2 [118]=0 from rfl,if_neg (by decide)]
  rfl
 refine ⟨e1,?_⟩
 unfold rdS
 rw [if_pos e1,show rdId (A4 s t).2 [118] 0=id1 s from rfl,if_pos (show (id1 s).1=true from rfl)]
 exact txt1 s t
theorem read_w {s t:Tx} (h:s.length≤64) (h':t.length≤64):plE (A4 s t).1 (A4 s t).2 [119] 0=0∧rdS (A4 s t).1 (A4 s t).2 [119] 0=t:=by
 have e1:plE (A4 s t).1 (A4 s t).2 [119] 0=0:=by
  unfold plE
  rw [right4 h h',if_neg (by decide),show volIx (A4 s t).2 [119]=1 from rfl,if_neg (by decide)]
  rfl
 refine ⟨e1,?_⟩
 unfold rdS
 rw [if_pos e1,show rdId (A4 s t).2 [119] 0=id2 s t from rfl,if_pos (id2_is s t)]
 exact txt2 s t
theorem read_w1 {s t:Tx} (h:s.length≤64) (h':t.length≤64):plE (A4 s t).1 (A4 s t).2 [119] 1=0∧rdS (A4 s t).1 (A4 s t).2 [119] 1=[]:=by
 have e1:plE (A4 s t).1 (A4 s t).2 [119] 1=0:=by
  unfold plE
  rw [right4 h h',if_neg (by decide),show volIx (A4 s t).2 [119]=1 from rfl,if_neg (by decide)]
  rfl
 refine ⟨e1,?_⟩
 unfold rdS
 rw [if_pos e1,show rdId (A4 s t).2 [119] 1=hole from rfl]
 rfl
theorem many4 (s t:Tx):(A4 s t).1.length=if s=t then 1 else 2:=by
 show (bag4 s t).length=_
 unfold bag4
 by_cases h:s=t
 · rw [if_pos h.symm,if_pos h]; rfl
 · rw [if_neg (fun e=>h e.symm),if_neg h]
   split <;> rfl
end Go.X.Dk

namespace Go.X
open Go Go.RowKit
section
variable {E:Env} {σ:Sig} {H:HS} {M:Mem} {K:KP}
theorem Rep.back {d:Nat} {v:Value} {s:SV} {a:Act} {ν ν2:Nat→Value} (hd:decide (d < E.N)=true) (hs:Slots E.N ν σ a) (hs2:Slots E.N ν2 [(d,true,s)] (a.put (some d) v)) (hc:s.conc=true):Slots E.N ν ((d,true,s) :: σ) (a.put (some d) v):=by
 have hv:v=s.val ν:=by
  have h1:=hs2.2.2 d true s (by simp [lk])
  have h2:d < a.tmps.size:=by rw [hs.1]; exact of_decide_eq_true hd
  have h3:(a.put (some d) v).tmps[d]? = some v:=by simp [Act.put,h2]
  rw [h3,Option.some.injEq] at h1
  rw [h1,cond_true]
  exact SV.conc_val s hc
 exact hs.put (of_decide_eq_true hd) (by rw [cond_true]; exact hv)
theorem CallK.ren3 {f d:Nat} {A:SV→List SV} {oc rc tc:List SV} {t1 t2 t3:Option Value} {R:SV→List SV→Mem→Prop} (k1 k2 k3:Nat) (hA:Ctxs A) (hd:decide (d < E.N)=true) (hcs:(SV.concs oc && (SV.concs rc && SV.concs tc))=true)
  (L : ∀ (qa qb qc:Option Value) (K0:KP),(∀ s tc' M',R s tc' M'→K0 [(d,true,s)] [(104,.box oc qa),(264,.box rc qb),(248,.box tc' qc)] M')→CallK E f (A (.ptr 248 0 0 0)) d K0 [] [(104,.box oc qa),(264,.box rc qb),(248,.box tc qc)] M)
  (hR : ∀ s tc' M',R s tc' M'→s.conc=true∧SV.concs tc'=true)
  (hK : ∀ s tc' M',R s tc' M'→K ((d,true,s) :: σ) [(k1,.box oc t1),(k2,.box rc t2),(k3,.box tc' t3)] M'):CallK E f (A (.ptr k3 0 0 0)) d K σ [(k1,.box oc t1),(k2,.box rc t2),(k3,.box tc t3)] M:=by
 simp only [Bool.and_eq_true] at hcs
 obtain ⟨hoc,hrc,htc⟩:=hcs
 intro ν a w hs hh
 have p1:=hh.holds (k1,.box oc t1) (by simp)
 have p2:=hh.holds (k2,.box rc t2) (by simp)
 have p3:=hh.holds (k3,.box tc t3) (by simp)
 let ν1:Nat→Value:=fun j=>if j=104 then ν k1 else if j=264 then ν k2 else if j=248 then ν k3 else .bool false
 have n1:ν1 104=ν k1:=by simp [ν1]
 have n2:ν1 264=ν k2:=by simp [ν1]
 have n3:ν1 248=ν k3:=by simp [ν1]
 have hfp : ∀ (t1' t2' t3':Option Value) (tc':List SV),fp ν1 [(104,PO.box oc t1'),(264,PO.box rc t2'),(248,PO.box tc' t3')]=fp ν [(k1,PO.box oc t1),(k2,PO.box rc t2),(k3,PO.box tc t3)]:=fun _ _ _ _=>by simp only [fp,List.filterMap_cons,List.filterMap_nil,n1,n2,n3]
 have tr : ∀ {x y:Value} {cs:List SV} {t:Option Value} {ν ν':Nat→Value} {w:World},SV.concs cs=true→x=y→(PO.box cs t).holds ν w x→(PO.box cs (some y)).holds ν' w y:=fun {x y cs t ν ν' w} hc hxy h=>by
  subst hxy
  obtain ⟨⟨b,T,e1,e2⟩,_⟩:=h
  exact ⟨⟨b,T,e1,by rw [e2,SV.concs_vals (ν:=ν) (ν':=ν') cs hc]⟩,fun v hv=>by cases hv; rfl⟩
 have hh1:Heap E ν1 [(104,.box oc (some (ν k1))),(264,.box rc (some (ν k2))),(248,.box tc (some (ν k3)))] M w:=by
  refine ⟨fun p hp=>?_,by rw [hfp]; exact hh.nodup,by rw [hfp]; exact hh.apart,hh.mem,hh.below,hh.le0,hh.fresh,fun j=>?_⟩
  · simp only [List.mem_cons,List.not_mem_nil,or_false] at hp
    rcases hp with rfl | rfl | rfl
    · rw [n1]; exact tr hoc rfl p1
    · rw [n2]; exact tr hrc rfl p2
    · rw [n3]; exact tr htc rfl p3
  · simp only [ν1]
    split
    · exact hh.one k1
    · split
      · exact hh.one k2
      · split
        · exact hh.one k3
        · rfl
 have hl:=L (some (ν k1)) (some (ν k2)) (some (ν k3)) (fun σ' H' M'=>∃ s tc',σ'=[(d,true,s)]∧H'=[(104,.box oc (some (ν k1))),(264,.box rc (some (ν k2))),(248,.box tc' (some (ν k3)))]∧R s tc' M') (fun s tc' M' h=>⟨s,tc',rfl,rfl,h⟩) ν1 a w ⟨hs.1,hs.2.1,fun j g s h=>by simp [lk] at h⟩ hh1
 rw [hA (.ptr 248 0 0 0) (.ptr k3 0 0 0) ν1 ν (by simp only [SV.val,n3])] at hl
 have key : ∀ v w',(∃ σ' H' M',Rep E σ' H' M' (a.put (some d) v) w' ∧ ∃ s tc',σ'=[(d,true,s)]∧H'=[(104,.box oc (some (ν k1))),(264,.box rc (some (ν k2))),(248,.box tc' (some (ν k3)))]∧R s tc' M') → ∃ σ' H' M',Rep E σ' H' M' (a.put (some d) v) w'∧K σ' H' M':=by
  rintro v w' ⟨_,_,M',⟨ν2,hs2,hh2⟩,s,tc',rfl,rfl,hr⟩
  obtain ⟨c1,c2⟩:=hR s tc' M' hr
  refine ⟨_,_,M',⟨ν,Rep.back hd hs hs2 c1,?_⟩,hK s tc' M' hr⟩
  have q1:=hh2.holds (104,.box oc (some (ν k1))) (by simp)
  have q2:=hh2.holds (264,.box rc (some (ν k2))) (by simp)
  have q3:=hh2.holds (248,.box tc' (some (ν k3))) (by simp)
  have m1:ν2 104=ν k1:=q1.2 _ rfl
  have m2:ν2 264=ν k2:=q2.2 _ rfl
  have m3:ν2 248=ν k3:=q3.2 _ rfl
  have hfp2:fp ν [(k1,PO.box oc t1),(k2,PO.box rc t2),(k3,PO.box tc' t3)]=fp ν2 [(104,PO.box oc (some (ν k1))),(264,PO.box rc (some (ν k2))),(248,PO.box tc' (some (ν k3)))]:=by simp only [fp,List.filterMap_cons,List.filterMap_nil,m1,m2,m3]
  have tb : ∀ {x y:Value} {cs:List SV} {t t':Option Value} {ν ν':Nat→Value} {w:World},SV.concs cs=true→x=y→tieB t' y→(PO.box cs t).holds ν w x→(PO.box cs t').holds ν' w y:=fun {x y cs t t' ν ν' w} hc hxy ht h=>by
   subst hxy
   obtain ⟨⟨b,T,e1,e2⟩,_⟩:=h
   exact ⟨⟨b,T,e1,by rw [e2,SV.concs_vals (ν:=ν) (ν':=ν') cs hc]⟩,ht⟩
  refine ⟨fun p hp=>?_,by rw [hfp2]; exact hh2.nodup,by rw [hfp2]; exact hh2.apart,hh2.mem,hh2.below,hh2.le0,hh2.fresh,hh.one⟩
  simp only [List.mem_cons,List.not_mem_nil,or_false] at hp
  rcases hp with rfl | rfl | rfl
  · exact tb hoc m1 p1.2 q1
  · exact tb hrc m2 p2.2 q2
  · exact tb c2 m3 p3.2 q3
 rcases hl with ⟨h1,h2⟩ | ⟨v,w',h1,h2⟩
 · exact .inl ⟨h1,h2.mono fun e w' ⟨v,he,hx⟩=>⟨v,he,key v w' hx⟩⟩
 · exact .inr ⟨v,w',h1,key v w' h2⟩
end
end Go.X

namespace Go.X
open Go Go.RowKit
section
variable {E:Env} {σ:Sig} {H:HS} {M:Mem} {K:KP}
theorem CallK.ren2 {f d:Nat} {A:SV→List SV} {oc tc:List SV} {t1 t3:Option Value} {R:SV→List SV→Mem→Prop} (k1 k3:Nat) (hA:Ctxs A) (hd:decide (d < E.N)=true) (hcs:(SV.concs oc && SV.concs tc)=true)
  (L : ∀ (qa qc:Option Value) (K0:KP),(∀ s tc' M',R s tc' M'→K0 [(d,true,s)] [(104,.box oc qa),(248,.box tc' qc)] M')→CallK E f (A (.ptr 248 0 0 0)) d K0 [] [(104,.box oc qa),(248,.box tc qc)] M)
  (hR : ∀ s tc' M',R s tc' M'→s.conc=true∧SV.concs tc'=true)
  (hK : ∀ s tc' M',R s tc' M'→K ((d,true,s) :: σ) [(k1,.box oc t1),(k3,.box tc' t3)] M'):CallK E f (A (.ptr k3 0 0 0)) d K σ [(k1,.box oc t1),(k3,.box tc t3)] M:=by
 simp only [Bool.and_eq_true] at hcs
 obtain ⟨hoc,htc⟩:=hcs
 intro ν a w hs hh
 have p1:=hh.holds (k1,.box oc t1) (by simp)
 have p3:=hh.holds (k3,.box tc t3) (by simp)
 let ν1:Nat→Value:=fun j=>if j=104 then ν k1 else if j=248 then ν k3 else .bool false
 have n1:ν1 104=ν k1:=by simp [ν1]
 have n3:ν1 248=ν k3:=by simp [ν1]
 have hfp : ∀ (t1' t3':Option Value) (tc':List SV),fp ν1 [(104,PO.box oc t1'),(248,PO.box tc' t3')]=fp ν [(k1,PO.box oc t1),(k3,PO.box tc t3)]:=fun _ _ _=>by simp only [fp,List.filterMap_cons,List.filterMap_nil,n1,n3]
 have tr : ∀ {x y:Value} {cs:List SV} {t:Option Value} {ν ν':Nat→Value} {w:World},SV.concs cs=true→x=y→(PO.box cs t).holds ν w x→(PO.box cs (some y)).holds ν' w y:=fun {x y cs t ν ν' w} hc hxy h=>by
  subst hxy
  obtain ⟨⟨b,T,e1,e2⟩,_⟩:=h
  exact ⟨⟨b,T,e1,by rw [e2,SV.concs_vals (ν:=ν) (ν':=ν') cs hc]⟩,fun v hv=>by cases hv; rfl⟩
 have hh1:Heap E ν1 [(104,.box oc (some (ν k1))),(248,.box tc (some (ν k3)))] M w:=by
  refine ⟨fun p hp=>?_,by rw [hfp]; exact hh.nodup,by rw [hfp]; exact hh.apart,hh.mem,hh.below,hh.le0,hh.fresh,fun j=>?_⟩
  · simp only [List.mem_cons,List.not_mem_nil,or_false] at hp
    rcases hp with rfl | rfl
    · rw [n1]; exact tr hoc rfl p1
    · rw [n3]; exact tr htc rfl p3
  · simp only [ν1]
    split
    · exact hh.one k1
    · split
      · exact hh.one k3
      · rfl
 have hl:=L (some (ν k1)) (some (ν k3)) (fun σ' H' M'=>∃ s tc',σ'=[(d,true,s)]∧H'=[(104,.box oc (some (ν k1))),(248,.box tc' (some (ν k3)))]∧R s tc' M') (fun s tc' M' h=>⟨s,tc',rfl,rfl,h⟩) ν1 a w ⟨hs.1,hs.2.1,fun j g s h=>by simp [lk] at h⟩ hh1
 rw [hA (.ptr 248 0 0 0) (.ptr k3 0 0 0) ν1 ν (by simp only [SV.val,n3])] at hl
 have key : ∀ v w',(∃ σ' H' M',Rep E σ' H' M' (a.put (some d) v) w' ∧ ∃ s tc',σ'=[(d,true,s)]∧H'=[(104,.box oc (some (ν k1))),(248,.box tc' (some (ν k3)))]∧R s tc' M') → ∃ σ' H' M',Rep E σ' H' M' (a.put (some d) v) w'∧K σ' H' M':=by
  rintro v w' ⟨_,_,M',⟨ν2,hs2,hh2⟩,s,tc',rfl,rfl,hr⟩
  obtain ⟨c1,c2⟩:=hR s tc' M' hr
  refine ⟨_,_,M',⟨ν,Rep.back hd hs hs2 c1,?_⟩,hK s tc' M' hr⟩
  have q1:=hh2.holds (104,.box oc (some (ν k1))) (by simp)
  have q3:=hh2.holds (248,.box tc' (some (ν k3))) (by simp)
  have m1:ν2 104=ν k1:=q1.2 _ rfl
  have m3:ν2 248=ν k3:=q3.2 _ rfl
  have hfp2:fp ν [(k1,PO.box oc t1),(k3,PO.box tc' t3)]=fp ν2 [(104,PO.box oc (some (ν k1))),(248,PO.box tc' (some (ν k3)))]:=by simp only [fp,List.filterMap_cons,List.filterMap_nil,m1,m3]
  have tb : ∀ {x y:Value} {cs:List SV} {t t':Option Value} {ν ν':Nat→Value} {w:World},SV.concs cs=true→x=y→tieB t' y→(PO.box cs t).holds ν w x→(PO.box cs t').holds ν' w y:=fun {x y cs t t' ν ν' w} hc hxy ht h=>by
   subst hxy
   obtain ⟨⟨b,T,e1,e2⟩,_⟩:=h
   exact ⟨⟨b,T,e1,by rw [e2,SV.concs_vals (ν:=ν) (ν':=ν') cs hc]⟩,ht⟩
  refine ⟨fun p hp=>?_,by rw [hfp2]; exact hh2.nodup,by rw [hfp2]; exact hh2.apart,hh2.mem,hh2.below,hh2.le0,hh2.fresh,hh.one⟩
  simp only [List.mem_cons,List.not_mem_nil,or_false] at hp
  rcases hp with rfl | rfl
  · exact tb hoc m1 p1.2 q1
  · exact tb c2 m3 p3.2 q3
 rcases hl with ⟨h1,h2⟩ | ⟨v,w',h1,h2⟩
 · exact .inl ⟨h1,h2.mono fun e w' ⟨v,he,hx⟩=>⟨v,he,key v w' hx⟩⟩
 · exact .inr ⟨v,w',h1,key v w' h2⟩
end
end Go.X
namespace Go.X.Th
open Go Go.X Go.RowKit Go.X.Bg Go.X.Nm Go.X.Bp Go.X.Sb Go.X.Vo Go.X.Tg
abbrev H2 (qa qc:Option Value) (oc tc:List SV):HS:=[(104,.box oc qa),(248,.box tc qc)]
section
variable {N:Nat} {w0:World} {M0 M:Mem} {σ:Sig} {K:KP} {d:Nat} {qa qc t1 t2 t3:Option Value} {oc rc:List SV} {T:TG} {b v rg:Value} {ws:List WV}
theorem tstateK2 (hd:decide (d < N)=true) (ho:SV.concs oc=true) (hT:TgM M T b v rg ws) (hR:TgR T)
  (hk : ∀ b' v' ws' M',M.le M'→ws'.map (·.2)=T.1.2→RowM M' b' 4 (T.1.1.map Bg.encT)→VolsM M' v' ws'→K ((d,true,.agg [.v b',.v v']) :: σ) (H2 qa qc oc (tgC T b v rg)) M') :
  CallK ⟨Proofs.Tryz.prog,N,w0,M0⟩ 132 [.ptr 248 0 0 0] d K σ (H2 qa qc oc (tgC T b v rg)) M:=by
 refine CallK.lendB 8000 [0,2] Proofs.Tryz.func132 rfl (by kernel_rfl) hd (by simp only [lentB,tgC,SV.concs,SV.conc,ho,Bool.and_self]) fun xs=>?_
 obtain ⟨A,⟨g,l,k,h⟩,tx,many⟩:=T
 have o1:=fun d=>concs_noKeys d oc ho
 have hs:=hR.st
 simp only at hs
 obtain ⟨hB,hV,_⟩:=stE_ok hs
 have hVo:=volsE_ok hV
 have hbl:=bag_len hB
 have hwl:ws.length=A.2.length:=by rw [← hT.vw,List.length_map]
 have hli : ∀ w ∈ ws,w.2.2.length≤32:=fun w hw=>(hVo.2 w.2 (by rw [← hT.vw]; exact List.mem_map_of_mem hw)).1
 have hcp:=(copied b v A.1 ws M hT.bag hT.vols (by omega) (by omega) (fun w hw=>Nat.le_trans (hli w hw) (by omega))).mono (fun r H M' _ h=>h.weak)
 rw [hT.vw] at hcp
 simp only [stV] at hcp
 simp only [tgC] at hk
 simp only [Proofs.Tryz.f132,tgC,sd2,sd3,zz,zq,seval,zl,za,ze,zo,nzs,hT.bag.one,hT.vols.row.one,o1]
 refine CallK.stM (T:=fun s=>s) (fun _ _=>rfl) rfl rfl hcp fun b3 v3 ws3 M3 hM3 hw3 hb3 hv3=>?_
 simp only [sd2,sd3,zz,zq,seval,zl,za,ze,zo,nzs,stV,hb3.one,hv3.row.one,ho]
 exact hk b3 v3 ws3 M3 hM3 hw3 hb3 hv3
theorem tresvK2 (hd:decide (d < N)=true) (ho:SV.concs oc=true) (hT:TgM M T b v rg ws) (hR:TgR T)
  (hk : ∀ y M',M.le M'→RowM M' y 2 (T.2.1.2.1.map Rv.encR)→K ((d,true,.agg [.v (.int .i64 T.2.1.1),.v y,.v (.int .i64 T.2.1.2.2.1),.v (.int .i64 T.2.1.2.2.2)]) :: σ) (H2 qa qc oc (tgC T b v rg)) M') :
  CallK ⟨Proofs.Tryz.prog,N,w0,M0⟩ 133 [.ptr 248 0 0 0] d K σ (H2 qa qc oc (tgC T b v rg)) M:=by
 refine CallK.lendBR 8000 (fun s=>.agg [.v (.int .i64 T.2.1.1),s,.v (.int .i64 T.2.1.2.2.1),.v (.int .i64 T.2.1.2.2.2)]) (fun s s' ν ν' h=>by simp only [SV.val,SV.vals,h]) [0,2,3] Proofs.Tryz.func133 rfl (by kernel_rfl) hd (by simp only [lentB,tgC,SV.concs,SV.conc,ho,Bool.and_self]) fun xs=>?_
 obtain ⟨A,⟨g,l,k,h⟩,tx,many⟩:=T
 have o1:=fun d=>concs_noKeys d oc ho
 have hs:=hR.rv
 simp only at hs
 have h8:=Rv.len8 (Rv.resvE_ok hs).2.1
 obtain ⟨q1,q2⟩:=hT.regs.rows (by omega)
 simp only at q1 q2
 simp only [tgC] at hk
 simp only [Proofs.Tryz.f133,tgC,sd2,sd3,zz,zq,seval,zl,za,ze,zo,nzs,hT.regs.one,hT.regs.sl,o1,q1,List.length_map,ho]
 refine ⟨⟨⟨by omega,by omega⟩,q2⟩,80,2,_,rfl,rfl,fun y M'' hM'' hy=>?_⟩
 simp only [sp1,sp2,sp3,sd2,sd3,zz,zq,seval,zl,za,ze,zo,nzs,ho,concs_pubs _ _ oc ho]
 exact hk y M'' hM'' hy
theorem stateA2 (k1:Nat) (hd:decide (d < N)=true) (ho:SV.concs oc=true) (hT:TgM M T b v rg ws) (hR:TgR T)
  (hk : ∀ b' v' ws' M',M.le M'→ws'.map (·.2)=T.1.2→RowM M' b' 4 (T.1.1.map Bg.encT)→VolsM M' v' ws'→K ((d,true,.agg [.v b',.v v']) :: σ) [(k1,.box oc t1),(248,.box (tgC T b v rg) t3)] M') :
  CallK ⟨Proofs.Tryz.prog,N,w0,M0⟩ 132 [.ptr 248 0 0 0] d K σ [(k1,.box oc t1),(248,.box (tgC T b v rg) t3)] M:=
 CallK.ren2 (A:=fun s=>[s]) (oc:=oc) (tc:=tgC T b v rg) (R:=fun s tc' M'=>∃ b' v' ws',((M.le M'∧ws'.map (·.2)=T.1.2)∧RowM M' b' 4 (T.1.1.map Bg.encT)∧VolsM M' v' ws')∧s = .agg [.v b',.v v']∧tc'=tgC T b v rg) k1 248 (fun s s' ν ν' h=>by simp only [SV.vals,h]) hd (by rw [ho]; rfl)
  (fun qa qc K0 h=>tstateK2 hd ho hT hR (fun b' v' ws' M' h1 h2 h3 h4=>h _ _ _ ⟨b',v',ws',⟨⟨h1,h2⟩,h3,h4⟩,rfl,rfl⟩))
  (fun s tc' M' ⟨b',v',ws',_,h1,h2⟩=>by subst h1 h2; exact ⟨rfl,rfl⟩) (fun s tc' M' ⟨b',v',ws',⟨⟨h3,h4⟩,h5,h6⟩,h1,h2⟩=>by subst h1 h2; exact hk b' v' ws' M' h3 h4 h5 h6)
theorem stateA3 (k1 k2:Nat) (hd:decide (d < N)=true) (ho:SV.concs oc=true) (hr:SV.concs rc=true) (hT:TgM M T b v rg ws) (hR:TgR T)
  (hk : ∀ b' v' ws' M',M.le M'→ws'.map (·.2)=T.1.2→RowM M' b' 4 (T.1.1.map Bg.encT)→VolsM M' v' ws'→K ((d,true,.agg [.v b',.v v']) :: σ) [(k1,.box oc t1),(k2,.box rc t2),(248,.box (tgC T b v rg) t3)] M') :
  CallK ⟨Proofs.Tryz.prog,N,w0,M0⟩ 132 [.ptr 248 0 0 0] d K σ [(k1,.box oc t1),(k2,.box rc t2),(248,.box (tgC T b v rg) t3)] M:=
 CallK.ren3 (A:=fun s=>[s]) (oc:=oc) (rc:=rc) (tc:=tgC T b v rg) (R:=fun s tc' M'=>∃ b' v' ws',((M.le M'∧ws'.map (·.2)=T.1.2)∧RowM M' b' 4 (T.1.1.map Bg.encT)∧VolsM M' v' ws')∧s = .agg [.v b',.v v']∧tc'=tgC T b v rg) k1 k2 248 (fun s s' ν ν' h=>by simp only [SV.vals,h]) hd (by rw [ho,hr]; rfl)
  (fun qa qb qc K0 h=>tstateK hd ho hr hT hR (fun b' v' ws' M' h1 h2 h3 h4=>h _ _ _ ⟨b',v',ws',⟨⟨h1,h2⟩,h3,h4⟩,rfl,rfl⟩))
  (fun s tc' M' ⟨b',v',ws',_,h1,h2⟩=>by subst h1 h2; exact ⟨rfl,rfl⟩) (fun s tc' M' ⟨b',v',ws',⟨⟨h3,h4⟩,h5,h6⟩,h1,h2⟩=>by subst h1 h2; exact hk b' v' ws' M' h3 h4 h5 h6)
theorem resvA2 (k1:Nat) (hd:decide (d < N)=true) (ho:SV.concs oc=true) (hT:TgM M T b v rg ws) (hR:TgR T)
  (hk : ∀ y M',M.le M'→RowM M' y 2 (T.2.1.2.1.map Rv.encR)→K ((d,true,.agg [.v (.int .i64 T.2.1.1),.v y,.v (.int .i64 T.2.1.2.2.1),.v (.int .i64 T.2.1.2.2.2)]) :: σ) [(k1,.box oc t1),(248,.box (tgC T b v rg) t3)] M') :
  CallK ⟨Proofs.Tryz.prog,N,w0,M0⟩ 133 [.ptr 248 0 0 0] d K σ [(k1,.box oc t1),(248,.box (tgC T b v rg) t3)] M:=
 CallK.ren2 (A:=fun s=>[s]) (oc:=oc) (tc:=tgC T b v rg) (R:=fun s tc' M'=>∃ y,(M.le M'∧RowM M' y 2 (T.2.1.2.1.map Rv.encR))∧s = .agg [.v (.int .i64 T.2.1.1),.v y,.v (.int .i64 T.2.1.2.2.1),.v (.int .i64 T.2.1.2.2.2)]∧tc'=tgC T b v rg) k1 248 (fun s s' ν ν' h=>by simp only [SV.vals,h]) hd (by rw [ho]; rfl)
  (fun qa qc K0 h=>tresvK2 hd ho hT hR (fun y M' h1 h2=>h _ _ _ ⟨y,⟨h1,h2⟩,rfl,rfl⟩))
  (fun s tc' M' ⟨y,_,h1,h2⟩=>by subst h1 h2; exact ⟨rfl,rfl⟩) (fun s tc' M' ⟨y,⟨h3,h4⟩,h1,h2⟩=>by subst h1 h2; exact hk y M' h3 h4)
theorem resvA3 (k1 k2:Nat) (hd:decide (d < N)=true) (ho:SV.concs oc=true) (hr:SV.concs rc=true) (hT:TgM M T b v rg ws) (hR:TgR T)
  (hk : ∀ y M',M.le M'→RowM M' y 2 (T.2.1.2.1.map Rv.encR)→K ((d,true,.agg [.v (.int .i64 T.2.1.1),.v y,.v (.int .i64 T.2.1.2.2.1),.v (.int .i64 T.2.1.2.2.2)]) :: σ) [(k1,.box oc t1),(k2,.box rc t2),(248,.box (tgC T b v rg) t3)] M') :
  CallK ⟨Proofs.Tryz.prog,N,w0,M0⟩ 133 [.ptr 248 0 0 0] d K σ [(k1,.box oc t1),(k2,.box rc t2),(248,.box (tgC T b v rg) t3)] M:=
 CallK.ren3 (A:=fun s=>[s]) (oc:=oc) (rc:=rc) (tc:=tgC T b v rg) (R:=fun s tc' M'=>∃ y,(M.le M'∧RowM M' y 2 (T.2.1.2.1.map Rv.encR))∧s = .agg [.v (.int .i64 T.2.1.1),.v y,.v (.int .i64 T.2.1.2.2.1),.v (.int .i64 T.2.1.2.2.2)]∧tc'=tgC T b v rg) k1 k2 248 (fun s s' ν ν' h=>by simp only [SV.vals,h]) hd (by rw [ho,hr]; rfl)
  (fun qa qb qc K0 h=>tresvK hd ho hr hT hR (fun y M' h1 h2=>h _ _ _ ⟨y,⟨h1,h2⟩,rfl,rfl⟩))
  (fun s tc' M' ⟨y,_,h1,h2⟩=>by subst h1 h2; exact ⟨rfl,rfl⟩) (fun s tc' M' ⟨y,⟨h3,h4⟩,h1,h2⟩=>by subst h1 h2; exact hk y M' h3 h4)
end
end Go.X.Th

