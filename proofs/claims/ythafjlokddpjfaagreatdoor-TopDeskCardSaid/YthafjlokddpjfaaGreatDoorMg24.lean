/- Contracts of functions and the logic that they are proved in (8 texts in one). Conditions: none. -/
import Derived.Test.YthafjlokddpjfaaGreatDoorMg23
import Derived.Test.YthafjlokddpjfaaGreatDoorMg17
import Derived.Test.YthafjlokddpjfaaGreatDoorMg21
import Derived.Test.YthafjlokddpjfaaGreatDoorMg11
open Int renaming cast_ofNat_Int→zl,natCast_zero→za,natCast_one→ze,toNat_natCast→zo
namespace Go.X.Rp
end Go.X.Rp
namespace Go.X.Sl
end Go.X.Sl
namespace Go.X.Bg
end Go.X.Bg
namespace Go.X.Nm
end Go.X.Nm
namespace Go.X.Bp
end Go.X.Bp
namespace Go.X.Sb
end Go.X.Sb
namespace Go.X.Vo
end Go.X.Vo
set_option linter.unusedSimpArgs false
set_option linter.unusedVariables false
set_option maxHeartbeats 4000000
set_option maxRecDepth 20000
namespace Go.X.Rv
open Go Go.X Go.X.Rp Go.X.Sl

theorem ctsR {α:Type} (q0 q1:α→Value) (p:α→Bool) (f:Nat) (caps:List SV) (hcaps:SV.concs caps=true) (y:Value) (l:List α) (M:Mem) (hy:RowM M y 2 (l.map (fun x=>[q0 x,q1 x])))
  (hf : ∀ x ∈ l,Meets Proofs.Tryz.prog f (.agg [.v (q0 x),.v (q1 x)] :: caps) M fun r _ _=>r = .v (.bool (p x))) :
  Meets Proofs.Tryz.prog 239 [.v y,.fn f caps] M fun r _ _=>r = .v (.bool (l.any p)):=by
 refine Meets.of_body [0,1,4] Proofs.Tryz.func239 rfl (by kernel_rfl) (by simp only [SV.concs,SV.conc,hcaps,Bool.and_self]) fun w=>?_
 simp only [Proofs.Tryz.f239,zz,zq,seval,zl,za,ze,zo]
 refine CallK.pure ⟨by simp only [SV.concs,SV.conc,hcaps,Bool.and_self],rfl⟩ rfl (idxR q0 q1 p f caps hcaps y l M hy hf) ?_
 rw [← fidx_any p l 0]
 simp only [zz,zq,seval,zl,za,ze,zo]


abbrev ST:=List (Int×Int)×Int×Int
def outS (s:ST) (q:Int):ST:=(outL s.1 q,if outF s.1 s.2.1 s.2.2 q=true then 0 else s.2.1,if outF s.1 s.2.1 s.2.2 q=true then 0 else s.2.2)
def strS (w:Int) (s:ST):List Int→ST
 | []=>s
 | q :: r=>strS w (if q=w then s else outS s q) r
def hands (l:List (Int×Int)) (b:Int):List Int:=(l.filter fun x=>decide (x.2=b)).map (·.1)
def tookB (k h:Int) (hs:List Int):Bool:=!allB k && (decide (k≠0) && hs.any fun q=>decide (h=q))
def preS (g:Int) (l:List (Int×Int)) (k h w key b c:Int):RS:=
 if keyE g l k h w key≠0 then zr (keyE g l k h w key) else if kindB c=false∨(b < 1∨1000 < b) then zr 1 else if hands l b=[] then zr 4 else if g=2147483647 then zr 8 else
  if tookB k h (hands l b)=true then (0,g+1,(strS w (l,k,h) (hands l b)).1,c,if allB c=true then 0 else w) else (0,g+1,strS w (l,k,h) (hands l b))
theorem outS_len (s:ST) (q:Int):(outS s q).1.length≤s.1.length:=List.length_filter_le _ _
theorem preempt (g:Int) (y:Value) (kd hd wh ke b c:Int) (l:List (Int×Int)) (M:Mem) (hy:RowM M y 2 (l.map encR)) :
  Meets Proofs.Tryz.prog 182 [rsv g (.v y) kd hd,.v (.int .i64 wh),.v (.int .i64 ke),.v (.int .i64 b),.v (.int .i64 c)] M (resR (preS g l kd hd wh ke b c)):=by
 refine Meets.of_body [0,1,2,3,4,5,8,10,11,12,13,14,16,22,35,41,45,50,51,52,53,59,76,82,89] Proofs.Tryz.func182 rfl (by kernel_rfl) rfl fun w=>?_
 simp only [Proofs.Tryz.f182,rsv,zz,zq,seval,zl,za,ze,zo,nzs]
 refine CallK.pure ⟨rfl,rfl⟩ rfl (keyed g y kd hd wh ke l M hy) ?_
 generalize hc:preS g l kd hd wh ke b c=r
 unfold preS at hc
 by_cases he:keyE g l kd hd wh ke=0
 rotate_left
 · have c1:(keyE g l kd hd wh ke=0)=False:=eq_false he
   rw [if_pos he] at hc
   subst hc
   simp only [zz,zq,seval,zl,za,ze,zo,nzs,c1]
   exact ⟨_,rfl,RowM.nil _ _⟩
 rw [if_neg (by simp [he])] at hc
 obtain ⟨he1,hw,hfi,hky⟩:=keyE_ok he
 obtain ⟨hg,hs,hkk,hAl,hk0,hh0⟩:=resvE_ok he1
 have hl8:=len8 hs
 simp only [zz,zq,seval,zl,za,ze,zo,nzs,he]
 refine CallK.pure ⟨rfl,rfl⟩ rfl (kind c M) ?_
 cases hK:kindB c with
 | false=>
   rw [if_pos (.inl hK)] at hc
   subst hc
   simp only [zz,zq,seval,zl,za,ze,zo,nzs]
   exact ⟨_,rfl,RowM.nil _ _⟩
 | true=>
 by_cases hbr:b < 1∨1000 < b
 · rw [if_pos (.inr hbr)] at hc
   subst hc
   by_cases hk1:b < 1
   · have c2:(b < 1)=True:=eq_true hk1
     simp only [zz,zq,seval,zl,za,ze,zo,nzs,c2]
     exact ⟨_,rfl,RowM.nil _ _⟩
   · have c2:(b < 1)=False:=eq_false hk1
     have c3:(1000 < b)=True:=eq_true (by omega)
     simp only [zz,zq,seval,zl,za,ze,zo,nzs,c2,c3]
     exact ⟨_,rfl,RowM.nil _ _⟩
 rw [if_neg (by simp [hK]; omega)] at hc
 have c2:(b < 1)=False:=eq_false (by omega)
 have c3:(1000 < b)=False:=eq_false (by omega)
 simp only [zz,zq,seval,zl,za,ze,zo,nzs,c2,c3]
 refine stepK.mkFn rfl rfl ?_
 simp only [zz,zq,seval,zl,za,ze,zo,nzs]
 refine CallK.pubB (k:=64) rfl rfl fun bb M2 hM2 hb2=>?_
 have hy2:=hy.le hM2
 simp only [shA1,shA2,zz,zq,seval,zl,za,ze,zo]
 refine CallK.pure ⟨rfl,rfl⟩ rfl (ctsR (α:=Int×Int) (fun x=>.int .i64 x.1) (fun x=>.int .i64 x.2) (fun u=>decide (u.2=b)) _ _ rfl y l M2 hy2 (fun x _=>preC bb b x M2 hb2)) ?_
 have hany:(l.any fun u=>decide (u.2=b)) = !decide (hands l b=[]):=by
  unfold hands
  rw [Bool.eq_iff_iff]
  simp [List.filter_eq_nil_iff]
 rw [hany]
 by_cases hh:hands l b=[]
 · rw [if_pos hh] at hc
   subst hc
   rw [decide_eq_true hh]
   simp only [zz,zq,seval,zl,za,ze,zo,nzs]
   exact ⟨_,rfl,RowM.nil _ _⟩
 rw [if_neg hh] at hc
 rw [decide_eq_false hh]
 by_cases hm:g=2147483647
 · have c4:(g=2147483647)=True:=eq_true hm
   rw [if_pos hm] at hc
   subst hc
   simp only [zz,zq,seval,zl,za,ze,zo,nzs,c4]
   exact ⟨_,rfl,RowM.nil _ _⟩
 have c4:(g=2147483647)=False:=eq_false hm
 rw [if_neg hm] at hc
 simp only [zz,zq,seval,zl,za,ze,zo,nzs,c4]
 refine CallK.own (ctxR (g+1) kd hd) rfl rfl (next g y kd hd 1 l M2 hy2 (by omega) ⟨by simp only [lo]; omega,by simp only [hi]; omega⟩) rfl fun M3 hM3=>?_
 have hy3:=hy2.le hM3
 have b0:=(hb2.le hM3).at (j:=0) rfl
 simp only [SV.val] at b0
 simp only [rsv,zz,zq,seval,zl,za,ze,zo,nzs,hy3.len,hy3.sl,List.length_map]
 generalize hfin:strS wh (l,kd,hd) (hands l b)=fin at hc
 generalize htk:tookB kd hd (hands l b)=tk at hc
 refine LoopK.go (X:=Nat×Nat×Bool×ST) (fun x=>([(1,true,.v (.int .i64 wh)),(4,true,.v (.int .i64 c)),(5,true,.ptr 40 0 0 0),(8,true,.v (ptrV bb)),(10,true,.ptr 80 0 0 0),(11,true,.v (.int .i64 0)),(13,true,.ptr 104 0 0 0),(14,true,.v (.bool x.2.2.1)),(50,true,.v y),(51,true,.v (.int .i64 l.length)),(52,true,.v (.int .i64 x.2.1))],
   [(40,.box [.v (.int .i64 g),.v y,.v (.int .i64 kd),.v (.int .i64 hd)] none),(80,.box [.v (.int .i64 0),.v (.slice none 0 0),.v (.int .i64 0),.v (.int .i64 0)] none),(104,.box [.v (.int .i64 (g+1)),.own 800,.v (.int .i64 x.2.2.2.2.1),.v (.int .i64 x.2.2.2.2.2)] none),(800,.row 2 (x.2.2.2.1.map encR))],M3))
  (fun x=>(x.1+x.2.1=l.length∧x.2.2.2.1.length≤8)∧strS wh x.2.2.2 (hands (l.drop x.2.1) b)=fin∧(x.2.2.1 || tookB kd hd (hands (l.drop x.2.1) b))=tk) (fun x=>x.1) (l.length,0,false,l,kd,hd) ⟨⟨rfl,by simp only; omega⟩,hfin,by simpa using htk⟩ (Ent.rekeyB 104 1 384 100 2 _ rfl rfl rfl rfl rfl (Ent.of ?_)) ?_
 · simp only [zz,zq,seval,zl,za,ze,zo,nzs]
 rintro ⟨f,i,tk1,s⟩ ⟨⟨h1,hsl⟩,h2,h3⟩
 simp only at h1 h2 h3 hsl
 by_cases hil:i < l.length
 · have d1:((i:Int) < (l.length:Int))=True:=eq_true (by omega)
   obtain ⟨⟨a,q⟩,hx,hd'⟩:=l_drop_at (l:=l) (i:=i) hil
   have g0:=hy3.cell (i:=i) (e:=[.int .i64 a,.int .i64 q]) (by rw [List.getElem?_map,hx]; rfl) (off:=0) (by omega)
   have g1:=hy3.cell (i:=i) (e:=[.int .i64 a,.int .i64 q]) (by rw [List.getElem?_map,hx]; rfl) (off:=1) (by omega)
   have i0:=hy3.ix (i:=(i:Int)) (by omega) (by rw [List.length_map]; omega)
   simp only [List.getD_cons_zero,List.getD_cons_succ] at g0 g1
   by_cases hqb:q=b
   rotate_left
   · have c5:(q=b)=False:=eq_false hqb
     have hh':hands (l.drop i) b=hands (l.drop (i+1)) b:=by
      rw [hd']; unfold hands; rw [List.filter_cons_of_neg (by simp [hqb])]
     rw [hh'] at h2 h3
     simp only [zz,zq,seval,zl,za,ze,zo,nzs,d1,i0,i0.2,g0.1,g0.2.1,g1.1,g1.2.1,b0.1,b0.2,c5,inK,lo,hi]
     refine ⟨by omega,(f - 1,i+1,tk1,s),⟨⟨⟨by simp only; omega,hsl⟩,h2,h3⟩,by simp only; omega⟩,Ent.of ?_⟩
     simp only [zq,seval,zl,za,ze,zo,Int.natCast_add]
   · have c5:(q=b)=True:=eq_true hqb
     have hh':hands (l.drop i) b=a :: hands (l.drop (i+1)) b:=by
      rw [hd']; unfold hands; rw [List.filter_cons_of_pos (by simp [hqb])]; rfl
     rw [hh'] at h2 h3
     rw [strS] at h2
     have hcons:tookB kd hd (a :: hands (l.drop (i+1)) b)=((!allB kd && (decide (kd≠0) && decide (hd=a))) || tookB kd hd (hands (l.drop (i+1)) b)):=by
      unfold tookB
      rw [List.any_cons]
      cases allB kd <;> cases decide (kd≠0) <;> cases decide (hd=a) <;> rfl
     rw [hcons] at h3
     have hy3':=hy3
     cases tk1 with
     | true=>
       simp only [zz,zq,seval,zl,za,ze,zo,nzs,d1,i0,i0.2,g0.1,g0.2.1,g1.1,g1.2.1,b0.1,b0.2,c5,inK,lo,hi]
       by_cases haw:a=wh
       · have c6:(a=wh)=True:=eq_true haw
         rw [if_pos haw] at h2
         simp only [zz,zq,seval,zl,za,ze,zo,nzs,c6,inK,lo,hi]
         refine ⟨by omega,(f - 1,i+1,true,s),⟨⟨⟨by simp only; omega,hsl⟩,h2,(by simpa using h3)⟩,by simp only; omega⟩,Ent.of ?_⟩
         simp only [zq,seval,zl,za,ze,zo,Int.natCast_add]
       · have c6:(a=wh)=False:=eq_false haw
         rw [if_neg haw] at h2
         simp only [zz,zq,seval,zl,za,ze,zo,nzs,c6,inK,lo,hi]
         refine CallK.lendR (A:=fun t=>[.agg [.v (.int .i64 (g+1)),t,.v (.int .i64 s.2.1),.v (.int .i64 s.2.2)],.v (.int .i64 a)]) 800 (fun t t' ν ν' e=>by simp only [SV.vals,SV.val,e]) (ctxR (g+1) (outS s a).2.1 (outS s a).2.2) rfl rfl rfl (fun M6 h6=>out (g+1) s.2.1 s.2.2 a s.1 M6 (by omega)) rfl ?_
         simp only [rsv,zz,zq,seval,zl,za,ze,zo,nzs,inK,lo,hi]
         refine ⟨by omega,(f - 1,i+1,true,outS s a),⟨⟨⟨by simp only; omega,by have:=outS_len s a; simp only; omega⟩,h2,(by simpa using h3)⟩,by simp only; omega⟩,Ent.rekeyB 104 1 640 100 2 _ rfl rfl rfl rfl rfl (Ent.of ?_)⟩
         simp only [zz,zq,seval,zl,za,ze,zo,nzs,outS,Int.natCast_add]
     | false=>
     simp only [zz,zq,seval,zl,za,ze,zo,nzs,d1,i0,i0.2,g0.1,g0.2.1,g1.1,g1.2.1,b0.1,b0.2,c5,inK,lo,hi]
     refine CallK.pure ⟨rfl,rfl⟩ rfl (all kd M3) ?_
     cases hA:allB kd with
     | true=>
       rw [hA] at h3
       simp only [zz,zq,seval,zl,za,ze,zo,nzs]
       by_cases haw:a=wh
       · have c6:(a=wh)=True:=eq_true haw
         rw [if_pos haw] at h2
         simp only [zz,zq,seval,zl,za,ze,zo,nzs,c6,inK,lo,hi]
         refine ⟨by omega,(f - 1,i+1,false,s),⟨⟨⟨by simp only; omega,hsl⟩,h2,(by simpa using h3)⟩,by simp only; omega⟩,Ent.of ?_⟩
         simp only [zq,seval,zl,za,ze,zo,Int.natCast_add]
       · have c6:(a=wh)=False:=eq_false haw
         rw [if_neg haw] at h2
         simp only [zz,zq,seval,zl,za,ze,zo,nzs,c6,inK,lo,hi]
         refine CallK.lendR (A:=fun t=>[.agg [.v (.int .i64 (g+1)),t,.v (.int .i64 s.2.1),.v (.int .i64 s.2.2)],.v (.int .i64 a)]) 800 (fun t t' ν ν' e=>by simp only [SV.vals,SV.val,e]) (ctxR (g+1) (outS s a).2.1 (outS s a).2.2) rfl rfl rfl (fun M6 h6=>out (g+1) s.2.1 s.2.2 a s.1 M6 (by omega)) rfl ?_
         simp only [rsv,zz,zq,seval,zl,za,ze,zo,nzs,inK,lo,hi]
         refine ⟨by omega,(f - 1,i+1,false,outS s a),⟨⟨⟨by simp only; omega,by have:=outS_len s a; simp only; omega⟩,h2,(by simpa using h3)⟩,by simp only; omega⟩,Ent.rekeyB 104 1 640 100 2 _ rfl rfl rfl rfl rfl (Ent.of ?_)⟩
         simp only [zz,zq,seval,zl,za,ze,zo,nzs,outS,Int.natCast_add]
     | false=>
     rw [hA] at h3
     simp only [zz,zq,seval,zl,za,ze,zo,nzs]
     refine CallK.pure ⟨rfl,rfl⟩ rfl (has g y kd hd a l M3 hy3) ?_
     have hHe:hasB l kd hd a=(decide (kd≠0) && decide (hd=a)):=by unfold hasB; rw [if_neg (by simp [hA])]
     rw [← hHe] at h3
     cases hH:hasB l kd hd a with
     | true=>
       rw [hH] at h3
       simp only [zz,zq,seval,zl,za,ze,zo,nzs]
       by_cases haw:a=wh
       · have c6:(a=wh)=True:=eq_true haw
         rw [if_pos haw] at h2
         simp only [zz,zq,seval,zl,za,ze,zo,nzs,c6,inK,lo,hi]
         refine ⟨by omega,(f - 1,i+1,true,s),⟨⟨⟨by simp only; omega,hsl⟩,h2,(by simpa using h3)⟩,by simp only; omega⟩,Ent.of ?_⟩
         simp only [zq,seval,zl,za,ze,zo,Int.natCast_add]
       · have c6:(a=wh)=False:=eq_false haw
         rw [if_neg haw] at h2
         simp only [zz,zq,seval,zl,za,ze,zo,nzs,c6,inK,lo,hi]
         refine CallK.lendR (A:=fun t=>[.agg [.v (.int .i64 (g+1)),t,.v (.int .i64 s.2.1),.v (.int .i64 s.2.2)],.v (.int .i64 a)]) 800 (fun t t' ν ν' e=>by simp only [SV.vals,SV.val,e]) (ctxR (g+1) (outS s a).2.1 (outS s a).2.2) rfl rfl rfl (fun M6 h6=>out (g+1) s.2.1 s.2.2 a s.1 M6 (by omega)) rfl ?_
         simp only [rsv,zz,zq,seval,zl,za,ze,zo,nzs,inK,lo,hi]
         refine ⟨by omega,(f - 1,i+1,true,outS s a),⟨⟨⟨by simp only; omega,by have:=outS_len s a; simp only; omega⟩,h2,(by simpa using h3)⟩,by simp only; omega⟩,Ent.rekeyB 104 1 640 100 2 _ rfl rfl rfl rfl rfl (Ent.of ?_)⟩
         simp only [zz,zq,seval,zl,za,ze,zo,nzs,outS,Int.natCast_add]
     | false=>
       rw [hH] at h3
       simp only [zz,zq,seval,zl,za,ze,zo,nzs]
       by_cases haw:a=wh
       · have c6:(a=wh)=True:=eq_true haw
         rw [if_pos haw] at h2
         simp only [zz,zq,seval,zl,za,ze,zo,nzs,c6,inK,lo,hi]
         refine ⟨by omega,(f - 1,i+1,false,s),⟨⟨⟨by simp only; omega,hsl⟩,h2,(by simpa using h3)⟩,by simp only; omega⟩,Ent.of ?_⟩
         simp only [zq,seval,zl,za,ze,zo,Int.natCast_add]
       · have c6:(a=wh)=False:=eq_false haw
         rw [if_neg haw] at h2
         simp only [zz,zq,seval,zl,za,ze,zo,nzs,c6,inK,lo,hi]
         refine CallK.lendR (A:=fun t=>[.agg [.v (.int .i64 (g+1)),t,.v (.int .i64 s.2.1),.v (.int .i64 s.2.2)],.v (.int .i64 a)]) 800 (fun t t' ν ν' e=>by simp only [SV.vals,SV.val,e]) (ctxR (g+1) (outS s a).2.1 (outS s a).2.2) rfl rfl rfl (fun M6 h6=>out (g+1) s.2.1 s.2.2 a s.1 M6 (by omega)) rfl ?_
         simp only [rsv,zz,zq,seval,zl,za,ze,zo,nzs,inK,lo,hi]
         refine ⟨by omega,(f - 1,i+1,false,outS s a),⟨⟨⟨by simp only; omega,by have:=outS_len s a; simp only; omega⟩,h2,(by simpa using h3)⟩,by simp only; omega⟩,Ent.rekeyB 104 1 640 100 2 _ rfl rfl rfl rfl rfl (Ent.of ?_)⟩
         simp only [zz,zq,seval,zl,za,ze,zo,nzs,outS,Int.natCast_add]
 · have d1:((i:Int) < (l.length:Int))=False:=eq_false (by omega)
   rw [List.drop_eq_nil_of_le (by omega)] at h2 h3
   simp only [hands,List.filter_nil,List.map_nil,strS,tookB,List.any_nil,Bool.and_false,Bool.or_false] at h2 h3
   subst h2 h3
   cases tk1 with
   | false=>
     rw [if_neg (by decide)] at hc
     subst hc
     simp only [zz,zq,seval,zl,za,ze,zo,nzs,d1]
     exact ⟨.own 800,rfl,rfl⟩
   | true=>
     rw [if_pos rfl] at hc
     subst hc
     simp only [zz,zq,seval,zl,za,ze,zo,nzs,d1]
     refine CallK.lendR (A:=fun t=>[.agg [.v (.int .i64 (g+1)),t,.v (.int .i64 s.2.1),.v (.int .i64 s.2.2)]]) 800 (fun t t' ν ν' e=>by simp only [SV.vals,SV.val,e]) (ctxR (g+1) 0 0) rfl rfl rfl (fun M6 h6=>free (g+1) s.2.1 s.2.2 _ M6) rfl ?_
     simp only [rsv,zz,zq,seval,zl,za,ze,zo,nzs]
     refine CallK.pure ⟨rfl,rfl⟩ rfl (all c M3) ?_
     cases hA:allB c with
     | true=>
       simp only [zz,zq,seval,zl,za,ze,zo,nzs]
       exact ⟨.own 672,rfl,rfl⟩
     | false=>
       simp only [zz,zq,seval,zl,za,ze,zo,nzs]
       exact ⟨.own 672,rfl,rfl⟩
end Go.X.Rv

namespace Go.X.Rv
open Go Go.X Go.X.Rp Go.X.Sl

/-- the hands that have a key, of a table of keys -/
def hl (f:Int→Int) (b:Int):Nat→Int→List Int
 | 0,_=>[]
 | n+1,a=>if f a=b then a :: hl f b n (a+1) else hl f b n (a+1)
end Go.X.Rv

namespace Go.X.Vo
open Go Go.X Go.RowKit Go.X.Bg Go.X.Nm Go.X.Bp Go.X.Sb

abbrev Txt:=List UInt8
/-! ### volumes by names -/
/-! ### the answers -/
end Go.X.Vo

namespace Go.X.Tg
open Go Go.X Go.RowKit Go.X.Bg Go.X.Nm Go.X.Bp Go.X.Sb Go.X.Vo

mutual
theorem conc_noKey (d:Nat) : ∀ s:SV,s.conc=true→s.noKey d=true
 | .v _,_=>rfl
 | .own _,h=>by simp [SV.conc] at h
 | .ptr _ _ _ _,h=>by simp [SV.conc] at h
 | .ea _ _ _ _,_=>rfl
 | .agg l,h=>by simp only [SV.conc] at h; simp only [SV.noKey]; exact concs_noKeys d l h
 | .tup l,h=>by simp only [SV.conc] at h; simp only [SV.noKey]; exact concs_noKeys d l h
 | .fn _ l,h=>by simp only [SV.conc] at h; simp only [SV.noKey]; exact concs_noKeys d l h
theorem concs_noKeys (d:Nat) : ∀ l:List SV,SV.concs l=true→SV.noKeys d l=true
 | [],_=>rfl
 | s :: l,h=>by
   simp only [SV.concs,Bool.and_eq_true] at h
   simp only [SV.noKeys,conc_noKey d s h.1,concs_noKeys d l h.2,Bool.and_self]
end
abbrev RQ:=Int×List (Int×Int)×Int×Int
abbrev TG:=St×RQ×Txt×Nat
structure TgM (M:Mem) (T:TG) (b v rg:Value) (ws:List WV):Prop where
 bag:RowM M b 4 (T.1.1.map Bg.encT)
 vols:VolsM M v ws
 vw:ws.map (·.2)=T.1.2
 regs:RowM M rg 2 (T.2.1.2.1.map Rv.encR)
theorem TgM.le {M M':Mem} {T:TG} {b v rg:Value} {ws:List WV} (h:TgM M T b v rg ws) (hl:M.le M'):TgM M' T b v rg ws:=⟨h.bag.le hl,h.vols.le hl,h.vw,h.regs.le hl⟩
def tgC (T:TG) (b v rg:Value):List SV:=[.v b,.v v,.v (.int .i64 T.2.1.1),.v rg,.v (.int .i64 T.2.1.2.2.1),.v (.int .i64 T.2.1.2.2.2),.v (.string ⟨T.2.2.1.toArray⟩),.v (.int .i64 T.2.2.2)]
/-- right targets -/
structure TgR (T:TG):Prop where
 st:stE T.1.1 T.1.2=0
 rv:Rv.resvE T.2.1.1 T.2.1.2.1 T.2.1.2.2.1 T.2.1.2.2.2=0
 tx:T.2.2.1.length≤707 * T.2.2.2
 many:T.2.2.2≤200
def hE (R:RQ) (w:Int) (wr:Bool):Int:=if Rv.whoB w=false then 1 else if Rv.mayB R.2.1 R.2.2.1 R.2.2.2 w wr=true then 0 else 9
def tdoS (T:TG) (w:Int) (o:OpT):TG×Int:=
 if hE T.2.1 w true≠0 then (T,hE T.2.1 w true) else if (doL T.1.1 T.1.2 o).2≠0 then (T,(doL T.1.1 T.1.2 o).2) else if T.2.2.2=200 then (T,8) else
 (((doL T.1.1 T.1.2 o).1,T.2.1,T.2.2.1++frO o,T.2.2.2+1),0)
theorem tdo_right {T:TG} (h:TgR T) (w:Int) (o:OpT):TgR (tdoS T w o).1:=by
 unfold tdoS
 split
 · exact h
 split
 · exact h
 rename_i h2
 split
 · exact h
 rename_i h3
 have hE:Lg.opE o=0:=Decidable.of_not_not fun h1=>by
  have:doL T.1.1 T.1.2 o=(zSt,Lg.opE o):=if_pos h1
  rw [this] at h2
  exact h2 h1
 have hl:=frO_len hE
 refine ⟨?_,h.rv,?_,?_⟩
 · have:doL T.1.1 T.1.2 o=doA T.1.1 T.1.2 o:=if_neg (fun h=>h hE)
   rw [this]
   exact doA_right _ _ _
 · have:=h.tx
   simp only [List.length_append]
   omega
 · have:=h.many
   simp only
   omega
/-- what a call of a target's method finds: the deed's box, the document's target, the target -/
abbrev H3 (qa qb qc:Option Value) (oc rc tc:List SV):HS:=[(104,.box oc qa),(264,.box rc qb),(248,.box tc qc)]
section
variable {N:Nat} {w0:World} {M0 M:Mem} {σ:Sig} {K:KP} {d:Nat} {qa qb qc:Option Value} {oc rc tc:List SV} {T:TG} {b v rg:Value} {ws:List WV}
end
end Go.X.Tg

namespace Go.X.Tg
open Go Go.X Go.RowKit Go.X.Bg Go.X.Nm Go.X.Bp Go.X.Sb Go.X.Vo

def trdS (T:TG) (w:Int) (n:Txt) (a:Int):Txt×Int:=if hE T.2.1 w false≠0 then ([],hE T.2.1 w false) else (rdS T.1.1 T.1.2 n a,plE T.1.1 T.1.2 n a)
section
variable {N:Nat} {w0:World} {M0 M:Mem} {σ:Sig} {K:KP} {d:Nat} {qa qb qc:Option Value} {oc rc tc:List SV} {T:TG} {b v rg:Value} {ws:List WV}
end
end Go.X.Tg

namespace Go.X.Tg
open Go Go.X Go.RowKit Go.X.Bg Go.X.Nm Go.X.Bp Go.X.Sb Go.X.Vo

def trvS (T:TG) (S:Rv.RS):TG:=if S.1=0 then (T.1,S.2,T.2.2) else T
mutual
theorem conc_pub (k:Nat) (v:Value) : ∀ s:SV,s.conc=true→SV.pub k v s=s
 | .v _,_=>rfl
 | .own _,h=>by simp [SV.conc] at h
 | .ptr _ _ _ _,h=>by simp [SV.conc] at h
 | .ea _ _ _ _,_=>rfl
 | .agg l,h=>by simp only [SV.conc] at h; simp only [SV.pub,concs_pubs k v l h]
 | .tup l,h=>by simp only [SV.conc] at h; simp only [SV.pub,concs_pubs k v l h]
 | .fn f l,h=>by simp only [SV.conc] at h; simp only [SV.pub,concs_pubs k v l h]
theorem concs_pubs (k:Nat) (v:Value) : ∀ l:List SV,SV.concs l=true→SV.pubs k v l=l
 | [],_=>rfl
 | s :: l,h=>by
   simp only [SV.concs,Bool.and_eq_true] at h
   simp only [SV.pubs,conc_pub k v s h.1,concs_pubs k v l h.2]
end
section
variable {N:Nat} {w0:World} {M0 M:Mem} {σ:Sig} {K:KP} {d:Nat} {qa qb qc:Option Value} {oc rc tc:List SV} {T:TG} {b v rg:Value} {ws:List WV}
theorem tstateK (hd:decide (d < N)=true) (ho:SV.concs oc=true) (hr:SV.concs rc=true) (hT:TgM M T b v rg ws) (hR:TgR T)
  (hk : ∀ b' v' ws' M',M.le M'→ws'.map (·.2)=T.1.2→RowM M' b' 4 (T.1.1.map Bg.encT)→VolsM M' v' ws'→K ((d,true,.agg [.v b',.v v']) :: σ) (H3 qa qb qc oc rc (tgC T b v rg)) M') :
  CallK ⟨Proofs.Tryz.prog,N,w0,M0⟩ 132 [.ptr 248 0 0 0] d K σ (H3 qa qb qc oc rc (tgC T b v rg)) M:=by
 refine CallK.lendB 8000 [0,2] Proofs.Tryz.func132 rfl (by kernel_rfl) hd (by simp only [lentB,tgC,SV.concs,SV.conc,ho,hr,Bool.and_self]) fun xs=>?_
 obtain ⟨A,⟨g,l,k,h⟩,tx,many⟩:=T
 have o1:=fun d=>concs_noKeys d oc ho
 have r1:=fun d=>concs_noKeys d rc hr
 have hs:=hR.st
 simp only at hs
 obtain ⟨hB,hV,_⟩:=stE_ok hs
 have hVo:=volsE_ok hV
 have hbl:=bag_len hB
 have hwl:ws.length=A.2.length:=by rw [← hT.vw,List.length_map]
 have hli : ∀ w ∈ ws,w.2.2.length≤32:=fun w hw=>(hVo.2 w.2 (by rw [← hT.vw]; exact List.mem_map_of_mem hw)).1
 have hcp:=(copied b v A.1 ws M hT.bag hT.vols (by omega) (by omega) (fun w hw=>Nat.le_trans (hli w hw) (by omega))).mono (fun r H M' _ h=>h.weak)
 rw [hT.vw] at hcp
 simp only [stV] at hcp
 simp only [tgC] at hk
 simp only [Proofs.Tryz.f132,tgC,sd2,sd3,zz,zq,seval,zl,za,ze,zo,nzs,hT.bag.one,hT.vols.row.one,o1,r1]
 refine CallK.stM (T:=fun s=>s) (fun _ _=>rfl) rfl rfl hcp fun b3 v3 ws3 M3 hM3 hw3 hb3 hv3=>?_
 simp only [sd2,sd3,zz,zq,seval,zl,za,ze,zo,nzs,stV,hb3.one,hv3.row.one,ho,hr]
 exact hk b3 v3 ws3 M3 hM3 hw3 hb3 hv3
theorem tresvK (hd:decide (d < N)=true) (ho:SV.concs oc=true) (hr:SV.concs rc=true) (hT:TgM M T b v rg ws) (hR:TgR T)
  (hk : ∀ y M',M.le M'→RowM M' y 2 (T.2.1.2.1.map Rv.encR)→K ((d,true,.agg [.v (.int .i64 T.2.1.1),.v y,.v (.int .i64 T.2.1.2.2.1),.v (.int .i64 T.2.1.2.2.2)]) :: σ) (H3 qa qb qc oc rc (tgC T b v rg)) M') :
  CallK ⟨Proofs.Tryz.prog,N,w0,M0⟩ 133 [.ptr 248 0 0 0] d K σ (H3 qa qb qc oc rc (tgC T b v rg)) M:=by
 refine CallK.lendBR 8000 (fun s=>.agg [.v (.int .i64 T.2.1.1),s,.v (.int .i64 T.2.1.2.2.1),.v (.int .i64 T.2.1.2.2.2)]) (fun s s' ν ν' h=>by simp only [SV.val,SV.vals,h]) [0,2,3] Proofs.Tryz.func133 rfl (by kernel_rfl) hd (by simp only [lentB,tgC,SV.concs,SV.conc,ho,hr,Bool.and_self]) fun xs=>?_
 obtain ⟨A,⟨g,l,k,h⟩,tx,many⟩:=T
 have o1:=fun d=>concs_noKeys d oc ho
 have r1:=fun d=>concs_noKeys d rc hr
 have hs:=hR.rv
 simp only at hs
 have h8:=Rv.len8 (Rv.resvE_ok hs).2.1
 obtain ⟨q1,q2⟩:=hT.regs.rows (by omega)
 simp only at q1 q2
 simp only [tgC] at hk
 simp only [Proofs.Tryz.f133,tgC,sd2,sd3,zz,zq,seval,zl,za,ze,zo,nzs,hT.regs.one,hT.regs.sl,o1,r1,q1,List.length_map,hr,ho]
 refine ⟨⟨⟨by omega,by omega⟩,q2⟩,80,2,_,rfl,rfl,fun y M'' hM'' hy=>?_⟩
 simp only [sp1,sp2,sp3,sd2,sd3,zz,zq,seval,zl,za,ze,zo,nzs,ho,hr,concs_pubs _ _ oc ho,concs_pubs _ _ rc hr]
 exact hk y M'' hM'' hy
end
end Go.X.Tg

namespace Go.X.Tg
open Go Go.X Go.RowKit Go.X.Bg Go.X.Nm Go.X.Bp Go.X.Sb Go.X.Vo

theorem getU_le (s:Txt):(Fr.getU s).toNat≤s.length∧(Fr.getU s).toNat≤707∧0≤Fr.getU s:=by
 unfold Fr.getU
 by_cases h:Fr.getE s=0
 · rw [if_pos h]
   have h1:=get_ok h
   have h2:Fr.gN s≤700:=by
    unfold Fr.getE at h
    split at h
    · cases h
    split at h
    · cases h
    rename_i h3
    omega
   omega
 · rw [if_neg h]
   exact ⟨Nat.zero_le _,Nat.zero_le _,Int.le_refl _⟩
/-- how many letters the first frames take -/
def usedN (s:Txt):Nat→Nat
 | 0=>0
 | k+1=>usedN s k+(Fr.getU (s.drop (usedN s k))).toNat
theorem usedN_le (s:Txt) : ∀ k,usedN s k≤s.length∧usedN s k≤707 * k
 | 0=>⟨Nat.zero_le _,Nat.zero_le _⟩
 | k+1=>by
   have h1:=usedN_le s k
   have h2:=getU_le (s.drop (usedN s k))
   rw [List.length_drop] at h2
   rw [usedN]
   omega
theorem play_right : ∀ (f:Nat) (A:St) (s:Txt) (n:Nat),stE A.1 A.2=0→n≤200→stE (playS f A s n).1.1 (playS f A s n).1.2=0∧0≤(playS f A s n).2.1∧(playS f A s n).2.1≤200
 | 0,A,s,n,hA,hn=>⟨hA,by simp only [playS]; omega,by simp only [playS]; omega⟩
 | f+1,A,s,n,hA,hn=>by
   rw [playS]
   split
   · exact ⟨hA,by simp only; omega,by simp only; omega⟩
   split
   · exact ⟨rfl,Int.le_refl _,(by decide:(0:Int)≤200)⟩
   split
   · exact ⟨rfl,Int.le_refl _,(by decide:(0:Int)≤200)⟩
   split
   · exact ⟨rfl,Int.le_refl _,(by decide:(0:Int)≤200)⟩
   split
   · exact ⟨rfl,Int.le_refl _,(by decide:(0:Int)≤200)⟩
   · exact play_right f _ _ _ (doA_right _ _ _) (by omega)
def crT (T:TG) (n:Int):Txt:=T.2.2.1.take (max 0 (min n (T.2.2.1.length:Int))).toNat
def crP (T:TG) (n:Int):St×Int×Int:=playS (crT T n).length zSt (crT T n) 0
def crS (T:TG) (n:Int):TG:=((crP T n).1,(0,[],0,0),(crT T n).take (usedN (crT T n) (crP T n).2.1.toNat),(crP T n).2.1.toNat)
theorem crP_right (T:TG) (n:Int):stE (crP T n).1.1 (crP T n).1.2=0∧0≤(crP T n).2.1∧(crP T n).2.1≤200:=play_right _ _ _ _ rfl (by decide)
theorem cr_right (T:TG) (n:Int):TgR (crS T n):=by
 obtain ⟨h1,h2,h3⟩:=crP_right T n
 refine ⟨h1,rfl,?_,?_⟩
 · have:=usedN_le (crT T n) (crP T n).2.1.toNat
   simp only [crS,List.length_take]
   omega
 · simp only [crS]
   omega
section
variable {N:Nat} {w0:World} {M0 M:Mem} {σ:Sig} {K:KP} {d:Nat} {qa qb qc:Option Value} {oc rc tc:List SV} {T:TG} {b v rg:Value} {ws:List WV}
end
end Go.X.Tg

namespace Go.X.Tg
open Go Go.X Go.RowKit Go.X.Bg Go.X.Nm Go.X.Bp Go.X.Sb Go.X.Vo

def okK (l:List (Int×Int)) (k h:Int):Prop:=(k=0∧h=0)∨(Rv.allB k=true∧h=0∧l≠[])∨(k≠0∧Rv.allB k=false∧Rv.kindB k=true∧0 < Rv.ky h l)
theorem ck_srt : ∀ {l:List (Int×Int)} {last:Int},-1≤last→Rv.srt (last+1) l→Rv.ck l last=0
 | [],_,_,_=>rfl
 | x :: l,last,h,⟨h1,h2,h3⟩=>by
   rw [Rv.ck,if_neg (by omega),if_neg (by omega)]
   exact ck_srt (by omega) h3
theorem fi_ky {l:List (Int×Int)} {w:Int} (hs:Rv.srt 0 l):(0 < Rv.ky w l)↔0≤Rv.fi w l 0:=Rv.ky_fi w l 0 (Rv.srt_keys hs)
theorem resvE_of {g:Int} {l:List (Int×Int)} {k h:Int} (hg:0≤g∧g≤2147483647) (hs:Rv.srt 0 l) (hk:okK l k h):Rv.resvE g l k h=0:=by
 unfold Rv.resvE
 rw [if_neg (by omega),ck_srt (by omega) hs,if_neg (fun h=>h rfl)]
 unfold Rv.kE
 rcases hk with ⟨h1,h2⟩ | ⟨h1,h2,h3⟩ | ⟨h1,h2,h3,h4⟩
 · rw [if_pos (.inl h1),if_neg]
   subst h1
   rintro (h | ⟨h,_⟩)
   · exact h h2
   · exact absurd h (by decide)
 · rw [if_pos (.inr h1),if_neg]
   rintro (h | ⟨_,h⟩)
   · exact h h2
   · exact h3 h
 · have h5:=(fi_ky hs).1 h4
   rw [if_neg (by rw [h2]; simp [h1]),if_neg (by rw [h3]; decide),if_neg (by omega)]
theorem okK_of {g:Int} {l:List (Int×Int)} {k h:Int} (he:Rv.resvE g l k h=0):(0≤g∧g≤2147483647)∧Rv.srt 0 l∧okK l k h:=by
 obtain ⟨hg,hs,hk,hA,h0,hh⟩:=Rv.resvE_ok he
 refine ⟨hg,hs,?_⟩
 by_cases h1:k=0
 · exact .inl ⟨h1,h0 h1⟩
 cases h2:Rv.allB k with
 | true=>exact .inr (.inl ⟨h2,hA h2⟩)
 | false=>
   unfold Rv.resvE at he
   rw [if_neg (by omega),ck_srt (by omega) hs,if_neg (fun h=>h rfl)] at he
   unfold Rv.kE at he
   rw [if_neg (by rw [h2]; simp [h1])] at he
   split at he
   · cases he
   rename_i h3
   split at he
   · cases he
   rename_i h4
   exact .inr (.inr ⟨h1,h2,by simpa using h3,(fi_ky hs).2 (by omega)⟩)
theorem ky_range {l:List (Int×Int)} {w:Int} (hs:Rv.srt 0 l) (h:0 < Rv.ky w l):0≤w∧w≤7:=by
 rcases Rv.fi_some (w:=w) (l:=l) (i:=0) with ⟨q1,_⟩ | ⟨j,x,_,q2,q3,_⟩
 · have:=(fi_ky hs).1 h
   omega
 · have:=Rv.srt_le hs x (List.mem_of_getElem? q2)
   omega
theorem ky_ne {l:List (Int×Int)} {w:Int} (h:0 < Rv.ky w l):l≠[]:=fun e=>by
 subst e
 exact absurd (show 0 < (0:Int) from h) (by decide)
theorem gen_ok (f:Int→Int) : ∀ (n:Nat) (a:Int),a+n≤8→(∀ h,a≤h→h < a+n→f h≤1000)→Rv.srt a (Rv.gen f n a) ∧ ∀ q,a≤q→q < a+n→0≤f q→Rv.ky q (Rv.gen f n a)=f q
 | 0,a,_,_=>⟨trivial,fun q h1 h2=>by omega⟩
 | n+1,a,ha,hf=>by
   obtain ⟨i1,i2⟩:=gen_ok f n (a+1) (by omega) (fun h h1 h2=>hf h (by omega) (by omega))
   rw [Rv.gen]
   by_cases h:0 < f a
   · rw [if_pos h]
     refine ⟨⟨⟨Int.le_refl _,by simp only; omega⟩,⟨by simp only; omega,hf a (by omega) (by omega)⟩,i1⟩,fun q h1 h2 h3=>?_⟩
     rw [Rv.ky]
     by_cases hq:a=q
     · subst hq
       rw [if_pos rfl]
     · rw [if_neg hq]
       exact i2 q (by omega) (by omega) h3
   · rw [if_neg h]
     refine ⟨Rv.srt_mono (by omega) i1,fun q h1 h2 h3=>?_⟩
     by_cases hq:a=q
     · subst hq
       rw [Rv.ky_lt i1 (by omega)]
       omega
     · exact i2 q (by omega) (by omega) h3
theorem kr_ok {l:List (Int×Int)} {w key:Int} (hs:Rv.srt 0 l) (hk:0≤key∧key≤1000):Rv.srt 0 (Rv.kr l w key) ∧ ∀ q,0≤q→q≤7→Rv.ky q (Rv.kr l w key)=if q=w then key else Rv.ky q l:=by
 obtain ⟨h1,h2⟩:=gen_ok (fun h=>if h=w then key else Rv.ky h l) 8 0 (by decide) (fun h _ _=>by
  have:=Rv.ky_pos (w:=h) hs
  split <;> omega)
 refine ⟨h1,fun q h3 h4=>h2 q h3 (by omega) ?_⟩
 have:=Rv.ky_pos (w:=q) hs
 split <;> omega
theorem reg_right {g:Int} {l:List (Int×Int)} {k h w old key:Int} (he:(Rv.regS g l k h w old key).1=0) :
  Rv.resvE (Rv.regS g l k h w old key).2.1 (Rv.regS g l k h w old key).2.2.1 (Rv.regS g l k h w old key).2.2.2.1 (Rv.regS g l k h w old key).2.2.2.2=0:=by
 unfold Rv.regS at he ⊢
 by_cases h1:Rv.resvE g l k h≠0
 · rw [if_pos h1] at he; exact absurd he h1
 rw [if_neg h1] at he ⊢
 by_cases h2:Rv.whoB w=false∨(key < 0∨1000 < key)
 · rw [if_pos h2] at he; exact absurd he (by decide)
 rw [if_neg h2] at he ⊢
 by_cases h3:Rv.ky w l≠old
 · rw [if_pos h3] at he; exact absurd he (by decide)
 rw [if_neg h3] at he ⊢
 by_cases h4:g=2147483647
 · rw [if_pos h4] at he; exact absurd he (by decide)
 rw [if_neg h4]
 obtain ⟨hg,hs,hk⟩:=okK_of (Classical.not_not.1 h1)
 have hkey:0≤key∧key≤1000:=by omega
 obtain ⟨k1,k2⟩:=kr_ok (w:=w) hs hkey
 refine resvE_of (by simp only; omega) k1 ?_
 simp only
 cases hF:Rv.kF l k h w key with
 | true=>exact .inl ⟨rfl,rfl⟩
 | false=>
   simp only [Bool.false_eq_true,if_false]
   unfold Rv.kF at hF
   rcases hk with e | ⟨e1,e2,e3⟩ | ⟨e1,e2,e3,e4⟩
   · exact .inl e
   · refine .inr (.inl ⟨e1,e2,fun e=>?_⟩)
     rw [e1,e] at hF
     simp at hF
   · refine .inr (.inr ⟨e1,e2,e3,?_⟩)
     obtain ⟨r1,r2⟩:=ky_range hs e4
     rw [k2 h r1 r2]
     by_cases hw:h=w
     · rw [if_pos hw]
       have hh:Rv.hasB l k h w=true:=by
        unfold Rv.hasB
        rw [e2]
        simp [e1,hw]
       rw [e2,hh] at hF
       have : ¬ key=0:=fun e=>by rw [e] at hF; simp at hF
       omega
     · rw [if_neg hw]
       exact e4
theorem keyE_in {g:Int} {l:List (Int×Int)} {k h w key:Int} (he:Rv.keyE g l k h w key=0):(0≤g∧g≤2147483647)∧Rv.srt 0 l∧okK l k h∧0 < Rv.ky w l:=by
 obtain ⟨h1,_,h3,_⟩:=Rv.keyE_ok he
 obtain ⟨hg,hs,hk⟩:=okK_of h1
 exact ⟨hg,hs,hk,(fi_ky hs).2 h3⟩
theorem kind_ne {c:Int} (h:Rv.kindB c=true):c≠0:=fun e=>by subst e; exact absurd h (by decide)
theorem okK_held {l:List (Int×Int)} {w c:Int} (h:0 < Rv.ky w l) (hc:Rv.kindB c=true):okK l c (if Rv.allB c=true then 0 else w):=by
 cases hA:Rv.allB c with
 | true=>exact .inr (.inl ⟨hA,rfl,ky_ne h⟩)
 | false=>exact .inr (.inr ⟨kind_ne hc,hA,hc,h⟩)
theorem rsv_right {g:Int} {l:List (Int×Int)} {k h w key k2:Int} (he:(Rv.rsvS g l k h w key k2).1=0) :
  Rv.resvE (Rv.rsvS g l k h w key k2).2.1 (Rv.rsvS g l k h w key k2).2.2.1 (Rv.rsvS g l k h w key k2).2.2.2.1 (Rv.rsvS g l k h w key k2).2.2.2.2=0:=by
 unfold Rv.rsvS at he ⊢
 by_cases h1:Rv.keyE g l k h w key≠0
 · rw [if_pos h1] at he; exact absurd he h1
 rw [if_neg h1] at he ⊢
 by_cases h2:Rv.kindB k2=false
 · rw [if_pos h2] at he; exact absurd he (by decide)
 rw [if_neg h2] at he ⊢
 by_cases h3:k≠0∧(Rv.hasB l k h w=false∨k≠k2)
 · rw [if_pos h3] at he; exact absurd he (by decide)
 rw [if_neg h3]
 obtain ⟨hg,hs,hk,hw⟩:=keyE_in (Classical.not_not.1 h1)
 exact resvE_of hg hs (okK_held hw (by simpa using h2))
theorem rel_right {g:Int} {l:List (Int×Int)} {k h w key k2:Int} (he:(Rv.relS g l k h w key k2).1=0) :
  Rv.resvE (Rv.relS g l k h w key k2).2.1 (Rv.relS g l k h w key k2).2.2.1 (Rv.relS g l k h w key k2).2.2.2.1 (Rv.relS g l k h w key k2).2.2.2.2=0:=by
 unfold Rv.relS at he ⊢
 by_cases h1:Rv.keyE g l k h w key≠0
 · rw [if_pos h1] at he; exact absurd he h1
 rw [if_neg h1] at he ⊢
 by_cases h2:Rv.kindB k2=false
 · rw [if_pos h2] at he; exact absurd he (by decide)
 rw [if_neg h2] at he ⊢
 obtain ⟨hg,hs,hk,hw⟩:=keyE_in (Classical.not_not.1 h1)
 by_cases h3:Rv.hasB l k h w=false
 · rw [if_pos h3]
   exact resvE_of hg hs hk
 rw [if_neg h3] at he ⊢
 by_cases h4:k≠k2
 · rw [if_pos h4] at he; exact absurd he (by decide)
 rw [if_neg h4]
 exact resvE_of hg hs (.inl ⟨rfl,rfl⟩)
theorem clr_right {g:Int} {l:List (Int×Int)} {k h w key:Int} (he:(Rv.clrS g l k h w key).1=0) :
  Rv.resvE (Rv.clrS g l k h w key).2.1 (Rv.clrS g l k h w key).2.2.1 (Rv.clrS g l k h w key).2.2.2.1 (Rv.clrS g l k h w key).2.2.2.2=0:=by
 unfold Rv.clrS at he ⊢
 by_cases h1:Rv.keyE g l k h w key≠0
 · rw [if_pos h1] at he; exact absurd he h1
 rw [if_neg h1] at he ⊢
 by_cases h2:g=2147483647
 · rw [if_pos h2] at he; exact absurd he (by decide)
 rw [if_neg h2]
 obtain ⟨hg,hs,hk,hw⟩:=keyE_in (Classical.not_not.1 h1)
 exact resvE_of (by simp only; omega) trivial (.inl ⟨rfl,rfl⟩)
theorem outS_ok {s:Rv.ST} {q w:Int} (hs:Rv.srt 0 s.1) (hk:okK s.1 s.2.1 s.2.2) (hq:q≠w) :
  Rv.srt 0 (Rv.outS s q).1∧okK (Rv.outS s q).1 (Rv.outS s q).2.1 (Rv.outS s q).2.2∧Rv.ky w (Rv.outS s q).1=Rv.ky w s.1:=by
 obtain ⟨l,k,h⟩:=s
 simp only at hs hk
 have hf : ∀ x,Rv.ky x (Rv.outL l q)=if x=q then 0 else Rv.ky x l:=fun x=>Rv.ky_filter hs
 refine ⟨Rv.srt_filter hs,?_,by simp only [Rv.outS,hf,if_neg hq.symm]⟩
 simp only [Rv.outS]
 cases hF:Rv.outF l k h q with
 | true=>exact .inl ⟨rfl,rfl⟩
 | false=>
   simp only [Bool.false_eq_true,if_false]
   unfold Rv.outF at hF
   rcases hk with e | ⟨e1,e2,e3⟩ | ⟨e1,e2,e3,e4⟩
   · exact .inl e
   · refine .inr (.inl ⟨e1,e2,fun e=>?_⟩)
     rw [e1,e] at hF
     have hb:Rv.hasB l k h q=false:=by simpa using hF
     unfold Rv.hasB at hb
     rw [if_pos e1] at hb
     obtain ⟨x,r,hl⟩ : ∃ x r,l=x :: r:=by cases l with
      | nil=>exact absurd rfl e3
      | cons x r=>exact ⟨x,r,rfl⟩
     have hx:x ∈ l:=by rw [hl]; exact List.mem_cons_self
     have hxq:x.1≠q:=by
      rcases Rv.fi_some (w:=q) (l:=l) (i:=0) with ⟨_,q2⟩ | ⟨j,x,q1,_⟩
      · exact q2 x hx
      · simp only [decide_eq_false_iff_not] at hb
        omega
     have:x ∈ Rv.outL l q:=List.mem_filter.2 ⟨hx,by simp [hxq]⟩
     rw [e] at this
     cases this
   · refine .inr (.inr ⟨e1,e2,e3,?_⟩)
     rw [hf h]
     by_cases hw:h=q
     · have hh:Rv.hasB l k h q=true:=by
        unfold Rv.hasB
        rw [e2]
        simp [e1,hw]
       rw [e2,hh] at hF
       exact absurd hF (by simp)
     · rw [if_neg hw]
       exact e4
theorem strS_ok {w:Int} : ∀ (hs:List Int) (s:Rv.ST),Rv.srt 0 s.1→okK s.1 s.2.1 s.2.2 →
  Rv.srt 0 (Rv.strS w s hs).1∧okK (Rv.strS w s hs).1 (Rv.strS w s hs).2.1 (Rv.strS w s hs).2.2∧Rv.ky w (Rv.strS w s hs).1=Rv.ky w s.1
 | [],s,h1,h2=>⟨h1,h2,rfl⟩
 | q :: r,s,h1,h2=>by
   rw [Rv.strS]
   by_cases hq:q=w
   · rw [if_pos hq]
     exact strS_ok r s h1 h2
   · rw [if_neg hq]
     obtain ⟨a1,a2,a3⟩:=outS_ok h1 h2 hq
     obtain ⟨b1,b2,b3⟩:=strS_ok (w:=w) r _ a1 a2
     exact ⟨b1,b2,b3.trans a3⟩
theorem pre_right {g:Int} {l:List (Int×Int)} {k h w key b c:Int} (he:(Rv.preS g l k h w key b c).1=0) :
  Rv.resvE (Rv.preS g l k h w key b c).2.1 (Rv.preS g l k h w key b c).2.2.1 (Rv.preS g l k h w key b c).2.2.2.1 (Rv.preS g l k h w key b c).2.2.2.2=0:=by
 unfold Rv.preS at he ⊢
 by_cases h1:Rv.keyE g l k h w key≠0
 · rw [if_pos h1] at he; exact absurd he h1
 rw [if_neg h1] at he ⊢
 by_cases h2:Rv.kindB c=false∨(b < 1∨1000 < b)
 · rw [if_pos h2] at he; exact absurd he (by decide)
 rw [if_neg h2] at he ⊢
 by_cases h3:Rv.hands l b=[]
 · rw [if_pos h3] at he; exact absurd he (by decide)
 rw [if_neg h3] at he ⊢
 by_cases h4:g=2147483647
 · rw [if_pos h4] at he; exact absurd he (by decide)
 rw [if_neg h4]
 obtain ⟨hg,hs,hk,hw⟩:=keyE_in (Classical.not_not.1 h1)
 obtain ⟨a1,a2,a3⟩:=strS_ok (w:=w) (Rv.hands l b) (l,k,h) hs hk
 have hc:Rv.kindB c=true:=by
  cases hc:Rv.kindB c with
  | true=>rfl
  | false=>exact absurd (.inl hc) h2
 have hg2:0≤g+1∧g+1≤2147483647:=by omega
 by_cases h5:Rv.tookB k h (Rv.hands l b)=true
 · rw [if_pos h5]
   exact resvE_of hg2 a1 (okK_held (by rw [a3]; exact hw) hc)
 · rw [if_neg h5]
   exact resvE_of hg2 a1 a2
end Go.X.Tg

