/- Contracts of functions and the logic that they are proved in (2 texts in one). Conditions: none. -/
import Derived.Test.YthafjlokddpjfaaGreatDoorMg22
import Derived.Test.YthafjlokddpjfaaGreatDoorMg7
open Go.Proofs.Tryz renaming prog → qz
open Int renaming cast_ofNat_Int→zl,natCast_zero→za,natCast_one→ze,toNat_natCast→zo
namespace Go.X.Rp
end Go.X.Rp
namespace Go.X.Sl
end Go.X.Sl
set_option linter.unusedSimpArgs false
set_option linter.unusedVariables false
set_option maxHeartbeats 4000000
set_option maxRecDepth 20000
namespace Go.X.Rv
open Go Go.X Go.X.Rp Go.X.Sl

def rsv (g:Int) (s:SV) (k h:Int):SV:=.agg [.v (.int .i64 g),s,.v (.int .i64 k),.v (.int .i64 h)]
theorem ctxR (g k h:Int):Ctx (fun s=>rsv g s k h):=fun s s' ν ν' e=>by simp only [Rv.rsv,SV.val,SV.vals,e]
theorem ctxE (g k h e:Int):Ctx (fun s=>.tup [rsv g s k h,.v (.int .i64 e)]):=fun s s' ν ν' e=>by simp only [Rv.rsv,SV.val,SV.vals,e]
theorem cloneR (u:Value) (l:List (Int×Int)) (M:Mem) (hu:RowM M u 2 (l.map encR)) (hb:l.length≤1000000) :
  Meets qz 281 [.v u] M (OwnR (fun s=>s) 2 (l.map encR)):=by
 obtain ⟨r1,r2⟩:=hu.rows (by omega)
 cases hs:someV u with
 | true=>
   refine Meets.of_body [0,2,4] Proofs.Tryz.func281 rfl (by kernel_rfl) rfl fun w=>?_
   simp only [Proofs.Tryz.f281,zz,zq,seval,zl,za,ze,zo,hu.sl,hs,r1,List.length_map]
   exact ⟨⟨by omega,r2⟩,56,rfl,rfl⟩
 | false=>
   have hn:l=[]:=by
    cases l with
    | nil=>rfl
    | cons a r=>have:=hu.2.1 (by simp); rw [hs] at this; cases this
   subst hn
   refine Meets.nilOwn ?_
   refine Meets.of_body [0,2,4] Proofs.Tryz.func281 rfl (by kernel_rfl) rfl fun w=>?_
   simp only [Proofs.Tryz.f281,zz,zq,seval,zl,za,ze,zo,hu.sl,hs]

theorem next (g:Int) (y:Value) (kd hd st:Int) (l:List (Int×Int)) (M:Mem) (hy:RowM M y 2 (l.map encR)) (hb:l.length≤1000000) (hg:inK .i64 (g+st)) :
  Meets qz 230 [resvV g y kd hd,.v (.int .i64 st)] M (OwnR (fun s=>rsv (g+st) s kd hd) 2 (l.map encR)):=by
 refine Meets.of_body [0,1,2,4] Proofs.Tryz.func230 rfl (by kernel_rfl) rfl fun w=>?_
 simp only [Proofs.Tryz.f230,resvV,zz,zq,seval,zl,za,ze,zo,nzs]
 refine CallK.own Ctx.id rfl rfl (cloneR y l M hy hb) rfl fun M2 hM2=>?_
 simp only [zz,zq,seval,zl,za,ze,zo,nzs]
 exact ⟨hg,56,rfl,rfl⟩
theorem free (g kd hd:Int) (es:List (List Value)) (M:Mem) :
  MeetsH qz 238 [rsv g (.own 8000) kd hd] [(8000,.row 2 es)] M (OwnR (fun s=>rsv g s 0 0) 2 es):=by
 refine MeetsH.of_body [0,1,2] Proofs.Tryz.func238 rfl (by kernel_rfl) fun w M0=>?_
 simp only [Proofs.Tryz.f238,rsv,zz,zq,seval,zl,za,ze,zo,nzs]
 exact ⟨8000,rfl,rfl⟩
theorem outC (b:Nat) (t:Int) (x:Int×Int) (M:Mem) (hb:BoxM M b [.int .i64 t]):Meets qz 283 [.agg [.v (.int .i64 x.1),.v (.int .i64 x.2)],.v (ptrV b)] M fun r _ _=>r = .v (.bool (decide (x.1=t))):=by
 refine Meets.of_body [0,1,2,3] Proofs.Tryz.func283 rfl (by kernel_rfl) rfl fun w=>?_
 have g0:=hb.at (j:=0) rfl
 simp only [Proofs.Tryz.f283,zz,zq,seval,zl,za,ze,zo,nz,g0.1,g0.2]
theorem preC (b:Nat) (t:Int) (x:Int×Int) (M:Mem) (hb:BoxM M b [.int .i64 t]):Meets qz 240 [.agg [.v (.int .i64 x.1),.v (.int .i64 x.2)],.v (ptrV b)] M fun r _ _=>r = .v (.bool (decide (x.2=t))):=by
 refine Meets.of_body [0,1,2,3] Proofs.Tryz.func240 rfl (by kernel_rfl) rfl fun w=>?_
 have g0:=hb.at (j:=0) rfl
 simp only [Proofs.Tryz.f240,zz,zq,seval,zl,za,ze,zo,nz,g0.1,g0.2]
def outL (l:List (Int×Int)) (w:Int):List (Int×Int):=l.filter fun x=>!decide (x.1=w)
def outF (l:List (Int×Int)) (k h w:Int):Bool:=hasB l k h w && (!allB k || decide (outL l w=[]))
theorem out (g kd hd wh:Int) (l:List (Int×Int)) (M:Mem) (hb:l.length≤1000000) :
  MeetsH qz 231 [rsv g (.own 8000) kd hd,.v (.int .i64 wh)] [(8000,.row 2 (l.map encR))] M (OwnR (fun s=>rsv g s (if outF l kd hd wh=true then 0 else kd) (if outF l kd hd wh=true then 0 else hd)) 2 ((outL l wh).map encR)):=by
 refine MeetsH.of_body [0,1,2,3,4,5,26] Proofs.Tryz.func231 rfl (by kernel_rfl) fun w M0=>?_
 simp only [Proofs.Tryz.f231,rsv,zz,zq,seval,zl,za,ze,zo,nzs]
 refine CallK.lend (k:=8000) rfl rfl rfl (fun _=>rfl) (fun v2 M2 hM2 hv2=>has g v2 kd hd wh l M2 hv2) ?_
 simp only [zz,zq,seval,zl,za,ze,zo,nzs]
 refine stepK.mkFn rfl rfl ?_
 simp only [zz,zq,seval,zl,za,ze,zo,nzs]
 refine CallK.pubB (k:=24) rfl rfl fun bb M2 hM2 hb2=>?_
 simp only [shA1,shA2,zz,zq,seval,zl,za,ze,zo]
 refine CallK.lendR (A:=fun s=>[s,.fn 283 [.v (ptrV bb)]]) 8000 (Ctxs.cons0 _ rfl) Ctx.id rfl rfl rfl (fun M6 h6=>delR (α:=Int×Int) (fun x=>.int .i64 x.1) (fun x=>.int .i64 x.2) (fun x=>decide (x.1=wh)) _ _ l M6 hb (fun _ _=>⟨rfl,rfl⟩) (fun M7 h7 x _=>outC bb wh x M7 ((hb2.le h6).le h7))) rfl ?_
 simp only [zz,zq,seval,zl,za,ze,zo,nzs]
 have hlen:((((l.filter fun x=>!decide (x.1=wh)).map fun x=>[Value.int .i64 x.1,Value.int .i64 x.2]).length:Int)=0)=(outL l wh=[]):=by
  apply propext
  rw [List.length_map,outL,← List.length_eq_zero_iff]
  omega
 have hrow:((l.filter fun x=>!decide (x.1=wh)).map fun x=>[Value.int .i64 x.1,Value.int .i64 x.2])=(outL l wh).map encR:=rfl
 have hF:outF l kd hd wh=(hasB l kd hd wh && (!allB kd || decide (outL l wh=[]))):=rfl
 cases hH:hasB l kd hd wh with
 | false=>
   rw [hH,Bool.false_and] at hF
   rw [hF]
   simp only [zz,zq,seval,zl,za,ze,zo,nzs]
   exact ⟨96,rfl,rfl⟩
 | true=>
   simp only [zz,zq,seval,zl,za,ze,zo,nzs]
   refine CallK.pure ⟨rfl,rfl⟩ rfl (all kd M2) ?_
   cases hA:allB kd with
   | false=>
     rw [hH,hA] at hF
     simp only [Bool.not_false,Bool.true_or,Bool.and_self] at hF
     rw [hF]
     simp only [zz,zq,seval,zl,za,ze,zo,nzs]
     refine CallK.lendR (A:=fun s=>[.agg [.v (.int .i64 g),s,.v (.int .i64 kd),.v (.int .i64 hd)]]) 96 (fun s s' ν ν' e=>by simp only [SV.vals,SV.val,e]) (ctxR g 0 0) rfl rfl rfl (fun M6 h6=>free g kd hd _ M6) rfl ?_
     simp only [rsv,zz,zq,seval,zl,za,ze,zo,nzs]
     exact ⟨224,rfl,rfl⟩
   | true=>
     rw [hH,hA] at hF
     simp only [Bool.not_true,Bool.false_or,Bool.true_and] at hF
     by_cases hE:outL l wh=[]
     · rw [hF,decide_eq_true hE]
       have c1:=hlen.trans (eq_true hE)
       simp only [zz,zq,seval,zl,za,ze,zo,nzs,c1]
       refine CallK.lendR (A:=fun s=>[.agg [.v (.int .i64 g),s,.v (.int .i64 kd),.v (.int .i64 hd)]]) 96 (fun s s' ν ν' e=>by simp only [SV.vals,SV.val,e]) (ctxR g 0 0) rfl rfl rfl (fun M6 h6=>free g kd hd _ M6) rfl ?_
       simp only [rsv,zz,zq,seval,zl,za,ze,zo,nzs]
       exact ⟨224,rfl,rfl⟩
     · rw [hF,decide_eq_false hE]
       have c1:=hlen.trans (eq_false hE)
       simp only [zz,zq,seval,zl,za,ze,zo,nzs,c1]
       exact ⟨96,rfl,rfl⟩

def keyE (g:Int) (l:List (Int×Int)) (k h w key:Int):Int:=if resvE g l k h≠0 then resvE g l k h else if whoB w=false then 1 else if fi w l 0 < 0∨ky w l≠key then 9 else 0
theorem keyed (g:Int) (y:Value) (kd hd wh ke:Int) (l:List (Int×Int)) (M:Mem) (hy:RowM M y 2 (l.map encR)) :
  Meets qz 235 [rsv g (.v y) kd hd,.v (.int .i64 wh),.v (.int .i64 ke)] M fun r _ _=>r = .v (.int .i64 (keyE g l kd hd wh ke)):=by
 refine Meets.of_body [0,1,2,3,6,7,8,12,16,31] Proofs.Tryz.func235 rfl (by kernel_rfl) rfl fun w=>?_
 have hyl:=hy.len_le
 rw [List.length_map] at hyl
 simp only [Proofs.Tryz.f235,rsv,zz,zq,seval,zl,za,ze,zo,nzs]
 refine CallK.pure ⟨rfl,rfl⟩ rfl (check g y kd hd l M hy) ?_
 generalize hc:keyE g l kd hd wh ke=c
 unfold keyE at hc
 by_cases he:resvE g l kd hd=0
 rotate_left
 · have c1:(resvE g l kd hd=0)=False:=eq_false he
   rw [if_pos he] at hc
   subst hc
   simp only [zz,zq,seval,zl,za,ze,zo,nzs,c1]
 rw [if_neg (by simp [he])] at hc
 simp only [zz,zq,seval,zl,za,ze,zo,nzs,he]
 refine CallK.pure ⟨rfl,rfl⟩ rfl (who wh M) ?_
 cases hw:whoB wh with
 | false=>
   rw [if_pos hw] at hc
   subst hc
   simp only [zz,zq,seval,zl,za,ze,zo,nzs]
 | true=>
 rw [if_neg (by simp [hw])] at hc
 simp only [zz,zq,seval,zl,za,ze,zo,nzs]
 refine CallK.pure ⟨rfl,rfl⟩ rfl (find g y kd hd wh l M hy) ?_
 rcases fi_some (w:=wh) (l:=l) (i:=0) with ⟨h1,h2⟩ | ⟨j,⟨a,b⟩,h1,hx,h3,h4⟩
 · rw [h1] at hc ⊢
   rw [if_pos (.inl (by decide))] at hc
   subst hc
   simp only [zz,zq,seval,zl,za,ze,zo,nzs]
 · rw [Nat.zero_add] at h1
   rw [h1,h4] at hc
   rw [h1]
   have hjl:j < l.length:=(List.getElem?_eq_some_iff.1 hx).1
   have c0:((j:Int) < 0)=False:=eq_false (by omega)
   have g1:=hy.cell (i:=j) (e:=[.int .i64 a,.int .i64 b]) (by rw [List.getElem?_map,hx]; rfl) (off:=1) (by omega)
   have i0:=hy.ix (i:=(j:Int)) (by omega) (by rw [List.length_map]; omega)
   simp only [List.getD_cons_zero,List.getD_cons_succ] at g1
   by_cases hb:b=ke
   · have c1:(b=ke)=True:=eq_true hb
     rw [if_neg (by omega)] at hc
     subst hc
     simp only [zz,zq,seval,zl,za,ze,zo,nzs,c0,c1,i0,i0.2,g1.1,g1.2.1]
   · have c1:(b=ke)=False:=eq_false hb
     rw [if_pos (.inr hb)] at hc
     subst hc
     simp only [zz,zq,seval,zl,za,ze,zo,nzs,c0,c1,i0,i0.2,g1.1,g1.2.1]

def kF (l:List (Int×Int)) (k h w key:Int):Bool:=(allB k && decide (kr l w key=[])) || (!allB k && (hasB l k h w && decide (key=0)))
end Go.X.Rv

namespace Go.X.Rv
open Go Go.X Go.X.Rp Go.X.Sl

/-- an answer: the error, the generation, who is registered, kind and holder -/
abbrev RS:=Int×Int×List (Int×Int)×Int×Int
def rsT (x:RS) (s:SV):SV:=.tup [rsv x.2.1 s x.2.2.2.1 x.2.2.2.2,.v (.int .i64 x.1)]
theorem ctxT (x:RS):Ctx (rsT x):=ctxE _ _ _ _
def zr (e:Int):RS:=(e,0,[],0,0)
def resR (x:RS):RP:=RowR (rsT x) 2 (x.2.2.1.map encR)

theorem resvE_ok {g:Int} {l:List (Int×Int)} {k h:Int} (he:resvE g l k h=0):(0≤g∧g≤2147483647)∧srt 0 l∧(0≤k∧k≤8)∧(allB k=true→h=0∧l≠[])∧(k=0→h=0)∧0≤h:=by
 unfold resvE at he
 split at he
 · cases he
 · rename_i h1
   split at he
   · rename_i h2
     exact (h2 he).elim
   · rename_i h2
     have hs:=srt_ck (l:=l) (last:=-1) (by omega) (Classical.not_not.1 h2)
     refine ⟨by omega,hs,?_⟩
     unfold kE at he
     split at he
     · rename_i h3
       split at he
       · cases he
       · rename_i h4
         refine ⟨?_,fun hA=>⟨by omega,fun hl=>h4 (.inr ⟨hA,hl⟩)⟩,fun _=>by omega,by omega⟩
         rcases h3 with h3 | h3
         · omega
         · unfold allB at h3
           simp only [Bool.or_eq_true,decide_eq_true_eq] at h3
           omega
     · rename_i h3
       split at he
       · cases he
       · rename_i h4
         have h5:kindB k=true:=by simpa using h4
         split at he
         · cases he
         · rename_i h6
           refine ⟨?_,fun hA=>(h3 (.inr hA)).elim,fun hk=>(h3 (.inl hk)).elim,?_⟩
           · unfold kindB at h5
             simp only [Bool.or_eq_true,Bool.and_eq_true,decide_eq_true_eq] at h5
             omega
           · have hm : ∀ {m:List (Int×Int)} {b:Int},srt b m → ∀ y ∈ m,b≤y.1:=by
              intro m
              induction m with
              | nil=>intro b _ y hy; cases hy
              | cons z m ih=>
                intro b ⟨g3,_,g5⟩ y hy
                rcases List.mem_cons.1 hy with rfl | hy
                · exact g3.1
                · have:=ih g5 y hy; omega
             rcases fi_some (w:=h) (l:=l) (i:=0) with ⟨q1,_⟩ | ⟨j,x,q1,q2,q3,_⟩
             · rw [q1] at h6; omega
             · have:=hm hs x (List.mem_of_getElem? q2); omega
theorem srt_keys {l:List (Int×Int)} (hs:srt 0 l) : ∀ x ∈ l,1≤x.2:=by
 have hm : ∀ {m:List (Int×Int)} {b:Int},srt b m → ∀ y ∈ m,1≤y.2:=by
  intro m
  induction m with
  | nil=>intro b _ y hy; cases hy
  | cons z m ih=>
    intro b ⟨_,g4,g5⟩ y hy
    rcases List.mem_cons.1 hy with rfl | hy
    · exact g4.1
    · exact ih g5 y hy
 exact hm hs
theorem len8 {l:List (Int×Int)} (hs:srt 0 l):l.length≤8:=by
 rcases srt_len (a:=0) (by omega) hs with h | rfl
 · omega
 · simp
/-- striking a hand: the two ways to say whether nobody has it from then on -/
theorem flag_eq {l:List (Int×Int)} {k h:Int} (w:Int) (hs:srt 0 l) (hA:allB k=true→l≠[]):kF l k h w 0=outF l k h w:=by
 unfold kF outF
 rw [kr_del w hs]
 cases hk:allB k with
 | false=>simp
 | true=>
   simp only [Bool.true_and,Bool.not_true,Bool.false_and,Bool.or_false,Bool.false_or]
   show decide (outL l w=[])=_
   by_cases hE:outL l w=[]
   · rw [decide_eq_true hE,Bool.and_true]
     unfold hasB
     rw [if_pos hk]
     rcases fi_some (w:=w) (l:=l) (i:=0) with ⟨_,h2⟩ | ⟨j,x,h1,_⟩
     · exfalso
       have:outL l w=l:=List.filter_eq_self.2 (fun x hx=>by simp [h2 x hx])
       rw [this] at hE
       exact hA hk hE
     · rw [h1,decide_eq_true (by omega)]
   · rw [decide_eq_false hE,Bool.and_false]
def regS (g:Int) (l:List (Int×Int)) (k h w old key:Int):RS:=
 if resvE g l k h≠0 then zr (resvE g l k h) else if whoB w=false∨(key < 0∨1000 < key) then zr 1 else if ky w l≠old then zr 9 else if g=2147483647 then zr 8 else
  (0,g+1,kr l w key,if kF l k h w key=true then 0 else k,if kF l k h w key=true then 0 else h)
theorem regC (t:Int) (x:Int×Int) (M:Mem) (h:inK .i64 (x.1 - t)):Meets qz 233 [.agg [.v (.int .i64 x.1),.v (.int .i64 x.2)],.v (.int .i64 t)] M fun r _ _=>r = .v (.int .i64 (x.1 - t)):=by
 refine Meets.of_body [0,1,2,4] Proofs.Tryz.func233 rfl (by kernel_rfl) rfl fun w=>?_
 simp only [Proofs.Tryz.f233,zz,zq,seval,zl,za,ze,zo,nzs]
 exact h
theorem kF_pos {l:List (Int×Int)} {k h w key:Int} (h1:key≠0) (h2:kr l w key≠[]):kF l k h w key=false:=by
 unfold kF
 rw [decide_eq_false h1,decide_eq_false h2]
 cases allB k <;> cases hasB l k h w <;> rfl
theorem srt_le {m:List (Int×Int)} : ∀ {b:Int},srt b m → ∀ y ∈ m,b≤y.1∧y.1≤7:=by
 induction m with
 | nil=>intro b _ y hy; cases hy
 | cons z m ih=>
   intro b ⟨g3,_,g5⟩ y hy
   rcases List.mem_cons.1 hy with rfl | hy
   · exact g3
   · have:=ih g5 y hy; omega
theorem register (g:Int) (y:Value) (kd hd wh old ke:Int) (l:List (Int×Int)) (M:Mem) (hy:RowM M y 2 (l.map encR)) :
  Meets qz 178 [rsv g (.v y) kd hd,.v (.int .i64 wh),.v (.int .i64 old),.v (.int .i64 ke)] M (resR (regS g l kd hd wh old ke)):=by
 refine Meets.of_body [0,1,2,3,4,8,9,10,11,12,13,18,31,55,59,63,69] Proofs.Tryz.func178 rfl (by kernel_rfl) rfl fun w=>?_
 have hyl:=hy.len_le
 rw [List.length_map] at hyl
 simp only [Proofs.Tryz.f178,rsv,zz,zq,seval,zl,za,ze,zo,nzs]
 refine CallK.pure ⟨rfl,rfl⟩ rfl (check g y kd hd l M hy) ?_
 generalize hc:regS g l kd hd wh old ke=c
 unfold regS at hc
 by_cases he:resvE g l kd hd=0
 rotate_left
 · have c1:(resvE g l kd hd=0)=False:=eq_false he
   rw [if_pos he] at hc
   subst hc
   simp only [zz,zq,seval,zl,za,ze,zo,nzs,c1]
   exact ⟨_,rfl,RowM.nil _ _⟩
 rw [if_neg (by simp [he])] at hc
 obtain ⟨hg,hs,hkk,hAl,hk0,hh0⟩:=resvE_ok he
 have hl8:=len8 hs
 simp only [zz,zq,seval,zl,za,ze,zo,nzs,he]
 refine CallK.pure ⟨rfl,rfl⟩ rfl (who wh M) ?_
 cases hw:whoB wh with
 | false=>
   rw [if_pos (.inl hw)] at hc
   subst hc
   simp only [zz,zq,seval,zl,za,ze,zo,nzs]
   exact ⟨_,rfl,RowM.nil _ _⟩
 | true=>
 by_cases hkr:ke < 0∨1000 < ke
 · rw [if_pos (.inr hkr)] at hc
   subst hc
   by_cases hk1:ke < 0
   · have c2:(ke < 0)=True:=eq_true hk1
     simp only [zz,zq,seval,zl,za,ze,zo,nzs,c2]
     exact ⟨_,rfl,RowM.nil _ _⟩
   · have c2:(ke < 0)=False:=eq_false hk1
     have c3:(1000 < ke)=True:=eq_true (by omega)
     simp only [zz,zq,seval,zl,za,ze,zo,nzs,c2,c3]
     exact ⟨_,rfl,RowM.nil _ _⟩
 rw [if_neg (by simp [hw]; omega)] at hc
 have c2:(ke < 0)=False:=eq_false (by omega)
 have c3:(1000 < ke)=False:=eq_false (by omega)
 simp only [zz,zq,seval,zl,za,ze,zo,nzs,c2,c3]
 refine CallK.pure ⟨rfl,rfl⟩ rfl (find g y kd hd wh l M hy) ?_
 have hwb:0≤wh∧wh≤7:=by unfold whoB at hw; simpa using hw
 rcases fi_some (w:=wh) (l:=l) (i:=0) with ⟨f1,f2⟩ | ⟨j,⟨a,b⟩,f1,hx,f3,f4⟩
 · rw [f1]
   have hky:ky wh l=0:=by
    have : ∀ m:List (Int×Int),(∀ x ∈ m,x.1≠wh)→ky wh m=0:=fun m=>by
     induction m with
     | nil=>intro _; rfl
     | cons z m ih=>intro h; rw [ky,if_neg (h z List.mem_cons_self)]; exact ih fun x hx=>h x (List.mem_cons_of_mem _ hx)
    exact this l f2
   rw [hky] at hc
   by_cases ho:old=0
   rotate_left
   · rw [if_pos (fun e=>ho e.symm)] at hc
     subst hc
     have c4:(old=0)=False:=eq_false ho
     simp only [zz,zq,seval,zl,za,ze,zo,nzs,c4]
     exact ⟨_,rfl,RowM.nil _ _⟩
   rw [if_neg (fun e=>e ho.symm)] at hc
   have c4:(old=0)=True:=eq_true ho
   simp only [zz,zq,seval,zl,za,ze,zo,nzs,c4]
   refine ⟨fun hm=>?_,fun hm=>?_⟩
   · rw [if_pos hm] at hc
     subst hc
     exact ⟨_,rfl,RowM.nil _ _⟩
   rw [if_neg hm] at hc
   subst hc
   refine CallK.own (ctxR (g+1) kd hd) rfl rfl (next g y kd hd 1 l M hy (by omega) ⟨by simp only [lo]; omega,by simp only [hi]; omega⟩) rfl fun M2 hM2=>?_
   simp only [rsv,zz,zq,seval,zl,za,ze,zo,nzs]
   by_cases hz:ke=0
   · subst hz
     have hF:=flag_eq (k:=kd) (h:=hd) wh hs (fun hA=>(hAl hA).2)
     rw [hF,kr_del wh hs]
     have c5:((0:Int)=0)=True:=eq_true rfl
     simp only [zz,zq,seval,zl,za,ze,zo,nzs]
     refine CallK.lendR (A:=fun s=>[.agg [.v (.int .i64 (g+1)),s,.v (.int .i64 kd),.v (.int .i64 hd)],.v (.int .i64 wh)]) 496 (fun s s' ν ν' e=>by simp only [SV.vals,SV.val,e]) (ctxR (g+1) (if outF l kd hd wh=true then 0 else kd) (if outF l kd hd wh=true then 0 else hd)) rfl rfl rfl (fun M6 h6=>out (g+1) kd hd wh l M6 (by omega)) rfl ?_
     simp only [rsv,zz,zq,seval,zl,za,ze,zo,nzs]
     exact ⟨.own 544,rfl,rfl⟩
   have c5:(ke=0)=False:=eq_false hz
   simp only [zz,zq,seval,zl,za,ze,zo,nzs,c5]
   have hins:=srt_ins (w:=wh) (key:=ke) (by omega) hs hwb.1 hwb.2 f2
   have hkrl:=kr_of hins.1 (fun q _ _=>hins.2 q)
   refine CallK.lend (k:=496) rfl rfl rfl (fun _=>rfl) (fun v2 M3 hM3 hv3=>bsR (α:=Int×Int) (fun x=>.int .i64 x.1) (fun x=>.int .i64 x.2) (fun x=>x.1 - wh) 233 (.int .i64 wh) v2 l M3 hv3 (by omega) (fun x hx=>regC wh x M3 (by
    have:=srt_le hs x hx
    exact ⟨by simp only [lo]; omega,by simp only [hi]; omega⟩)) (fun i j x y hij hx hy h=>by have:=srt_cmp (w:=wh) hs i j x y hij hx hy; omega)) ?_
   simp only [zz,zq,seval,zl,za,ze,zo,nzs]
   generalize hbk:bk (fun x:Int×Int=>x.1 - wh) l=b at *
   have hble:b≤l.length:=by
    rw [← hbk]
    have : ∀ m:List (Int×Int),bk (fun x:Int×Int=>x.1 - wh) m≤m.length:=fun m=>by
     induction m with
     | nil=>exact Nat.le_refl _
     | cons z m ih=>rw [bk]; split <;> simp [ih]
    exact this l
   refine CallK.lendR2 (A:=fun s t=>[s,.v (.int .i64 b),t]) 496 736 (fun s t s' t' ν ν' e1 e2=>by simp only [SV.vals,SV.val,e1,e2]) Ctx.id rfl rfl rfl rfl rfl (fun M6 h6=>insertR (l.map encR) [.int .i64 wh,.int .i64 ke] b M6 (by rw [List.length_map]; exact hble) (by rw [List.length_map]; omega) (fun e he=>by
    obtain ⟨x,_,rfl⟩:=List.mem_map.1 he
    exact ⟨rfl,fun c hc=>by simp only [encR,List.mem_cons,List.not_mem_nil,or_false] at hc; rcases hc with rfl | rfl <;> rfl⟩) ⟨rfl,fun c hc=>by simp only [List.mem_cons,List.not_mem_nil,or_false] at hc; rcases hc with rfl | rfl <;> rfl⟩) rfl ?_
   have hkF:kF l kd hd wh ke=false:=kF_pos hz (by rw [hkrl]; simp)
   rw [hkF,hkrl]
   simp only [rsv,zz,zq,seval,zl,za,ze,zo,nzs]
   refine ⟨.own 744,rfl,?_⟩
   simp [IsRow,hget,encR,List.map_take,List.map_drop]
 · rw [Nat.zero_add] at f1
   simp only at f3 f4
   rw [f1]
   rw [f4] at hc
   have hjl:j < l.length:=(List.getElem?_eq_some_iff.1 hx).1
   have c0:((j:Int) < 0)=False:=eq_false (by omega)
   have c00:(0≤(j:Int))=True:=eq_true (by omega)
   have g1:=hy.cell (i:=j) (e:=[.int .i64 a,.int .i64 b]) (by rw [List.getElem?_map,hx]; rfl) (off:=1) (by omega)
   have i0:=hy.ix (i:=(j:Int)) (by omega) (by rw [List.length_map]; omega)
   simp only [List.getD_cons_zero,List.getD_cons_succ] at g1
   by_cases ho:b=old
   rotate_left
   · rw [if_pos ho] at hc
     subst hc
     have c4:(b=old)=False:=eq_false ho
     simp only [zz,zq,seval,zl,za,ze,zo,nzs,c0,c00,c4,i0,i0.2,g1.1,g1.2.1]
     exact ⟨_,rfl,RowM.nil _ _⟩
   rw [if_neg (fun e=>e ho)] at hc
   have c4:(b=old)=True:=eq_true ho
   simp only [zz,zq,seval,zl,za,ze,zo,nzs,c0,c00,c4,i0,i0.2,g1.1,g1.2.1]
   refine ⟨fun hm=>?_,fun hm=>?_⟩
   · rw [if_pos hm] at hc
     subst hc
     exact ⟨_,rfl,RowM.nil _ _⟩
   rw [if_neg hm] at hc
   subst hc
   refine CallK.own (ctxR (g+1) kd hd) rfl rfl (next g y kd hd 1 l M hy (by omega) ⟨by simp only [lo]; omega,by simp only [hi]; omega⟩) rfl fun M2 hM2=>?_
   simp only [rsv,zz,zq,seval,zl,za,ze,zo,nzs]
   by_cases hz:ke=0
   · subst hz
     have hF:=flag_eq (k:=kd) (h:=hd) wh hs (fun hA=>(hAl hA).2)
     rw [hF,kr_del wh hs]
     have c5:((0:Int)=0)=True:=eq_true rfl
     simp only [zz,zq,seval,zl,za,ze,zo,nzs]
     refine CallK.lendR (A:=fun s=>[.agg [.v (.int .i64 (g+1)),s,.v (.int .i64 kd),.v (.int .i64 hd)],.v (.int .i64 wh)]) 496 (fun s s' ν ν' e=>by simp only [SV.vals,SV.val,e]) (ctxR (g+1) (if outF l kd hd wh=true then 0 else kd) (if outF l kd hd wh=true then 0 else hd)) rfl rfl rfl (fun M6 h6=>out (g+1) kd hd wh l M6 (by omega)) rfl ?_
     simp only [rsv,zz,zq,seval,zl,za,ze,zo,nzs]
     exact ⟨.own 544,rfl,rfl⟩
   have c5:(ke=0)=False:=eq_false hz
   have hgj:(l.map encR).getD j []=[.int .i64 a,.int .i64 b]:=by rw [List.getD_eq_getElem?_getD,List.getElem?_map,hx]; rfl
   simp only [zz,zq,seval,zl,za,ze,zo,nzs,c00,c5,hgj,List.length_map]
   have hset:=srt_set (w:=wh) (key:=ke) (k0:=b) (j:=j) (by omega) hs (by rw [← f3]; exact hx)
   have hkrl:=kr_of hset.1 (fun q _ _=>hset.2 q)
   have hkF:kF l kd hd wh ke=false:=kF_pos hz (by rw [hkrl]; intro e; have:=congrArg List.length e; simp at this; subst this; simp at hjl)
   rw [hkF,hkrl]
   refine ⟨⟨by omega,hjl,.own 496,rfl,?_⟩,fun h=>by omega⟩
   have e1:(l.map encR).set j (putV [Value.int .i64 a,Value.int .i64 b] 1 [Value.int .i64 ke])=(l.set j (wh,ke)).map encR:=by
    rw [List.map_set]
    congr 1
    simp only [putV,encR,← f3]
    rfl
   rw [e1]
   simp [IsRow,hget]

def rsvS (g:Int) (l:List (Int×Int)) (k h w key k2:Int):RS:=
 if keyE g l k h w key≠0 then zr (keyE g l k h w key) else if kindB k2=false then zr 1 else if k≠0∧(hasB l k h w=false∨k≠k2) then zr 9 else (0,g,l,k2,if allB k2=true then 0 else w)
theorem keyE_ok {g:Int} {l:List (Int×Int)} {k h w key:Int} (he:keyE g l k h w key=0):resvE g l k h=0∧whoB w=true∧0≤fi w l 0∧ky w l=key:=by
 unfold keyE at he
 split at he
 · rename_i h1
   exact (h1 he).elim
 · rename_i h1
   split at he
   · cases he
   · rename_i h2
     split at he
     · cases he
     · rename_i h3
       exact ⟨Classical.not_not.1 h1,by simpa using h2,by omega,by omega⟩
theorem reserve (g:Int) (y:Value) (kd hd wh ke k2:Int) (l:List (Int×Int)) (M:Mem) (hy:RowM M y 2 (l.map encR)) :
  Meets qz 179 [rsv g (.v y) kd hd,.v (.int .i64 wh),.v (.int .i64 ke),.v (.int .i64 k2)] M (resR (rsvS g l kd hd wh ke k2)):=by
 refine Meets.of_body [0,1,2,3,4,8,9,10,11,17,22,38,46] Proofs.Tryz.func179 rfl (by kernel_rfl) rfl fun w=>?_
 simp only [Proofs.Tryz.f179,rsv,zz,zq,seval,zl,za,ze,zo,nzs]
 refine CallK.pure ⟨rfl,rfl⟩ rfl (keyed g y kd hd wh ke l M hy) ?_
 generalize hc:rsvS g l kd hd wh ke k2=c
 unfold rsvS at hc
 by_cases he:keyE g l kd hd wh ke=0
 rotate_left
 · have c1:(keyE g l kd hd wh ke=0)=False:=eq_false he
   rw [if_pos he] at hc
   subst hc
   simp only [zz,zq,seval,zl,za,ze,zo,nzs,c1]
   exact ⟨_,rfl,RowM.nil _ _⟩
 rw [if_neg (by simp [he])] at hc
 obtain ⟨he1,hw,hfi,hky⟩:=keyE_ok he
 obtain ⟨hg,hs,hkk,hAl,hk0,hh0⟩:=resvE_ok he1
 have hl8:=len8 hs
 simp only [zz,zq,seval,zl,za,ze,zo,nzs,he]
 refine CallK.pure ⟨rfl,rfl⟩ rfl (kind k2 M) ?_
 cases hK:kindB k2 with
 | false=>
   rw [if_pos hK] at hc
   subst hc
   simp only [zz,zq,seval,zl,za,ze,zo,nzs]
   exact ⟨_,rfl,RowM.nil _ _⟩
 | true=>
 rw [if_neg (by simp [hK])] at hc
 -- behind the test on who has it
 have fin:(kd≠0∧(hasB l kd hd wh=false∨kd≠k2)→False)→c=(0,g,l,k2,if allB k2=true then 0 else wh)∧(allB k2=true→hd=0):=fun hn=>by
  rw [if_neg hn] at hc
  refine ⟨hc.symm,fun hA=>?_⟩
  by_cases hkz:kd=0
  · exact hk0 hkz
  · have:kd=k2:=Classical.byContradiction fun e=>hn ⟨hkz,.inr e⟩
    exact (hAl (by rw [this]; exact hA)).1
 by_cases hkz:kd=0
 · have c1:(kd=0)=True:=eq_true hkz
   obtain ⟨rfl,hA0⟩:=fin (fun h=>h.1 hkz)
   simp only [zz,zq,seval,zl,za,ze,zo,nzs,c1]
   refine CallK.own (ctxR (g+0) kd hd) rfl rfl (next g y kd hd 0 l M hy (by omega) ⟨by simp only [lo]; omega,by simp only [hi]; omega⟩) rfl fun M2 hM2=>?_
   simp only [rsv,Int.add_zero,zz,zq,seval,zl,za,ze,zo,nzs]
   refine CallK.pure ⟨rfl,rfl⟩ rfl (all k2 M2) ?_
   cases hA:allB k2 with
   | true=>
     have h0:=hA0 hA
     subst h0
     simp only [zz,zq,seval,zl,za,ze,zo,nzs,hA]
     exact ⟨.own 328,rfl,rfl⟩
   | false=>
     simp only [zz,zq,seval,zl,za,ze,zo,nzs,hA]
     exact ⟨.own 328,rfl,rfl⟩
 · have c1:(kd=0)=False:=eq_false hkz
   simp only [zz,zq,seval,zl,za,ze,zo,nzs,c1]
   refine CallK.pure ⟨rfl,rfl⟩ rfl (has g y kd hd wh l M hy) ?_
   cases hH:hasB l kd hd wh with
   | false=>
     rw [if_pos ⟨hkz,.inl hH⟩] at hc
     subst hc
     simp only [zz,zq,seval,zl,za,ze,zo,nzs]
     exact ⟨_,rfl,RowM.nil _ _⟩
   | true=>
   by_cases hk2:kd=k2
   · have c2:(kd=k2)=True:=eq_true hk2
     obtain ⟨rfl,hA0⟩:=fin (fun h=>by rcases h.2 with h | h; exact absurd h (by simp [hH]); exact h hk2)
     simp only [zz,zq,seval,zl,za,ze,zo,nzs,c2]
     refine CallK.own (ctxR (g+0) kd hd) rfl rfl (next g y kd hd 0 l M hy (by omega) ⟨by simp only [lo]; omega,by simp only [hi]; omega⟩) rfl fun M2 hM2=>?_
     simp only [rsv,Int.add_zero,zz,zq,seval,zl,za,ze,zo,nzs]
     refine CallK.pure ⟨rfl,rfl⟩ rfl (all k2 M2) ?_
     cases hA:allB k2 with
     | true=>
       have h0:=hA0 hA
       subst h0
       simp only [zz,zq,seval,zl,za,ze,zo,nzs,hA]
       exact ⟨.own 328,rfl,rfl⟩
     | false=>
       simp only [zz,zq,seval,zl,za,ze,zo,nzs,hA]
       exact ⟨.own 328,rfl,rfl⟩
   · have c2:(kd=k2)=False:=eq_false hk2
     rw [if_pos ⟨hkz,.inr hk2⟩] at hc
     subst hc
     simp only [zz,zq,seval,zl,za,ze,zo,nzs,c2]
     exact ⟨_,rfl,RowM.nil _ _⟩

def relS (g:Int) (l:List (Int×Int)) (k h w key k2:Int):RS:=
 if keyE g l k h w key≠0 then zr (keyE g l k h w key) else if kindB k2=false then zr 1 else if hasB l k h w=false then (0,g,l,k,h) else if k≠k2 then zr 3 else (0,g,l,0,0)
theorem release (g:Int) (y:Value) (kd hd wh ke k2:Int) (l:List (Int×Int)) (M:Mem) (hy:RowM M y 2 (l.map encR)) :
  Meets qz 180 [rsv g (.v y) kd hd,.v (.int .i64 wh),.v (.int .i64 ke),.v (.int .i64 k2)] M (resR (relS g l kd hd wh ke k2)):=by
 refine Meets.of_body [0,1,2,3,4,8,9,10,11,17,22,29,34] Proofs.Tryz.func180 rfl (by kernel_rfl) rfl fun w=>?_
 simp only [Proofs.Tryz.f180,rsv,zz,zq,seval,zl,za,ze,zo,nzs]
 refine CallK.pure ⟨rfl,rfl⟩ rfl (keyed g y kd hd wh ke l M hy) ?_
 generalize hc:relS g l kd hd wh ke k2=c
 unfold relS at hc
 by_cases he:keyE g l kd hd wh ke=0
 rotate_left
 · have c1:(keyE g l kd hd wh ke=0)=False:=eq_false he
   rw [if_pos he] at hc
   subst hc
   simp only [zz,zq,seval,zl,za,ze,zo,nzs,c1]
   exact ⟨_,rfl,RowM.nil _ _⟩
 rw [if_neg (by simp [he])] at hc
 obtain ⟨he1,hw,hfi,hky⟩:=keyE_ok he
 obtain ⟨hg,hs,hkk,hAl,hk0,hh0⟩:=resvE_ok he1
 have hl8:=len8 hs
 simp only [zz,zq,seval,zl,za,ze,zo,nzs,he]
 refine CallK.pure ⟨rfl,rfl⟩ rfl (kind k2 M) ?_
 cases hK:kindB k2 with
 | false=>
   rw [if_pos hK] at hc
   subst hc
   simp only [zz,zq,seval,zl,za,ze,zo,nzs]
   exact ⟨_,rfl,RowM.nil _ _⟩
 | true=>
 rw [if_neg (by simp [hK])] at hc
 simp only [zz,zq,seval,zl,za,ze,zo,nzs]
 refine CallK.own (ctxR (g+0) kd hd) rfl rfl (next g y kd hd 0 l M hy (by omega) ⟨by simp only [lo]; omega,by simp only [hi]; omega⟩) rfl fun M2 hM2=>?_
 simp only [rsv,Int.add_zero,zz,zq,seval,zl,za,ze,zo,nzs]
 refine CallK.pure ⟨rfl,rfl⟩ rfl (has g y kd hd wh l M2 (hy.le hM2)) ?_
 cases hH:hasB l kd hd wh with
 | false=>
   rw [if_pos hH] at hc
   subst hc
   simp only [zz,zq,seval,zl,za,ze,zo,nzs]
   exact ⟨.own 200,rfl,rfl⟩
 | true=>
 rw [if_neg (by simp [hH])] at hc
 by_cases hk2:kd=k2
 · have c2:(kd=k2)=True:=eq_true hk2
   rw [if_neg (fun h=>h hk2)] at hc
   subst hc
   simp only [zz,zq,seval,zl,za,ze,zo,nzs,c2]
   refine CallK.lendR (A:=fun s=>[.agg [.v (.int .i64 g),s,.v (.int .i64 kd),.v (.int .i64 hd)]]) 200 (fun s s' ν ν' e=>by simp only [SV.vals,SV.val,e]) (ctxR g 0 0) rfl rfl rfl (fun M6 h6=>free g kd hd _ M6) rfl ?_
   simp only [rsv,zz,zq,seval,zl,za,ze,zo,nzs]
   exact ⟨.own 296,rfl,rfl⟩
 · have c2:(kd=k2)=False:=eq_false hk2
   rw [if_pos hk2] at hc
   subst hc
   simp only [zz,zq,seval,zl,za,ze,zo,nzs,c2]
   exact ⟨_,rfl,RowM.nil _ _⟩

def clrS (g:Int) (l:List (Int×Int)) (k h w key:Int):RS:=
 if keyE g l k h w key≠0 then zr (keyE g l k h w key) else if g=2147483647 then zr 8 else (0,g+1,[],0,0)
theorem clear (g:Int) (y:Value) (kd hd wh ke:Int) (l:List (Int×Int)) (M:Mem) (hy:RowM M y 2 (l.map encR)) :
  Meets qz 181 [rsv g (.v y) kd hd,.v (.int .i64 wh),.v (.int .i64 ke)] M (resR (clrS g l kd hd wh ke)):=by
 refine Meets.of_body [0,1,2,3,6,7,8,14,19] Proofs.Tryz.func181 rfl (by kernel_rfl) rfl fun w=>?_
 simp only [Proofs.Tryz.f181,rsv,zz,zq,seval,zl,za,ze,zo,nzs]
 refine CallK.pure ⟨rfl,rfl⟩ rfl (keyed g y kd hd wh ke l M hy) ?_
 generalize hc:clrS g l kd hd wh ke=c
 unfold clrS at hc
 by_cases he:keyE g l kd hd wh ke=0
 rotate_left
 · have c1:(keyE g l kd hd wh ke=0)=False:=eq_false he
   rw [if_pos he] at hc
   subst hc
   simp only [zz,zq,seval,zl,za,ze,zo,nzs,c1]
   exact ⟨_,rfl,RowM.nil _ _⟩
 rw [if_neg (by simp [he])] at hc
 obtain ⟨he1,hw,hfi,hky⟩:=keyE_ok he
 obtain ⟨hg,hs,hkk,hAl,hk0,hh0⟩:=resvE_ok he1
 by_cases hm:g=2147483647
 · have c2:(g=2147483647)=True:=eq_true hm
   rw [if_pos hm] at hc
   subst hc
   simp only [zz,zq,seval,zl,za,ze,zo,nzs,he,c2]
   exact ⟨_,rfl,RowM.nil _ _⟩
 · have c2:(g=2147483647)=False:=eq_false hm
   rw [if_neg hm] at hc
   subst hc
   simp only [zz,zq,seval,zl,za,ze,zo,nzs,he,c2,inK,lo,hi]
   exact ⟨by omega,_,rfl,RowM.nil _ _⟩
end Go.X.Rv

