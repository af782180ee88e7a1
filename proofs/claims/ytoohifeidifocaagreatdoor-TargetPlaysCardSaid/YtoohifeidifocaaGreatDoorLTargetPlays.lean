/- The law 'TargetPlays' returns true, whatever the input, and leaves its input as it was. Conditions: none. -/
import Derived.Test.YtoohifeidifocaaGreatDoorRows
import Derived.Test.YtoohifeidifocaaGreatDoorCards
import Derived.Test.YtoohifeidifocaaGreatDoorTie
import Derived.LaidMore
import Derived.Lay
import Derived.Stop.Joined
import Derived.SevenTiedAt
import Derived.WalkKit
import Derived.ProofKit
import Derived.OpenShut
import Derived.ShutString
import Derived.ChangeOld
import Derived.Below
import Derived.Test.YtoohifeidifocaaGreatDoorMg4
import Derived.Test.YtoohifeidifocaaGreatDoorTgX
namespace Go.Proofs.YtoohifeidifocaaGreatDoor.targetPlays
open Go.ChangeShapes Go.WideShapes Go.ChangeAt Go.RowKit
open Go.ChangeMaps (open_string shut_string)
set_option linter.unusedVariables false
set_option linter.unusedSimpArgs false

theorem own:ownKnob Tryz.prog.godebug=none:=by kernel_rfl

def laidL:List (String×DataW Unit):=Rows.targetPlaysRow.laid
set_option maxRecDepth 100000 in
theorem lifted (os:Os) (started:os.Started) (H:Type) (enc:TypeId×Value→H) :
    ReturnsInHanded {} Tryz.checked os 3 .any (fun w args=>(Rows.targetPlaysSpec.pre enc Tryz.prog Tryz.f3 [] false w args∧laidMetH Tryz.prog laidL w)∧sizedMet enc Tryz.prog Tryz.f3 (OpenSpec.ofChange Rows.targetPlaysSpec) false w args) (Rows.targetPlaysSpec.post enc Tryz.prog Tryz.f3 false true false false):=by
  refine returnsInHanded_of_change_and (C:=Tryz.checked) (X:=fun w _=>laidMetH Tryz.prog laidL w) (fun _ _ _ hh h=>h.of_heap hh) own started (by kernel_rfl) Tryz.func3
    (ChangeSpec.witness_shaped (enc:=enc) (C:=Tryz.checked) (os:=os) (X:=fun w _=>laidMetH Tryz.prog laidL w) false (World.laidAll Tryz.prog os laidL) #[.slice none 0 0,.slice none 0 0] 8 (World.laidAll_os _ _ _)
      (World.shaped_of_ZipB (by kernel_rfl) (by kernel_rfl)) (by kernel_rfl) (by kernel_rfl) (by kernel_rfl)
      (by rw [MakeChecks.laidMetH_plain _ _ _ (by kernel_rfl)]; exact laidMet_laidAll _ (by kernel_rfl) (by kernel_rfl))) ?_
  intro W base args ds gs before hval0 hW hcnd hsz hL _
  have hval : ∀ (j:Nat) t v,Tryz.f3.params[j]? = some t→args[j]? = some v→Value.okWide Tryz.prog W .any base t v:=hval0
  have hW':=hW
  obtain ⟨p,q,hA0,hV,rfl,hfz,hnd⟩:=hW
  have hA:DataW.TrodAll enc Tryz.prog W 0 (fun _=>true) true Tryz.f3.params.toList args.toList ds p:=hA0
  rw [Tryz.params3] at hA hval
  obtain ⟨v0,vs0,d0,ds0,p0,q0,hargs,rfl,rfl,h0,r0⟩:=trodAll_cons hA
  obtain ⟨v1,vs1,d1,ds1,p1,q1,rfl,rfl,rfl,h1,r1⟩:=trodAll_cons r0
  obtain ⟨rfl,rfl,rfl⟩:=trodAll_nil r1
  obtain rfl:args = #[v0,v1]:=by cases args; simp_all
  obtain ⟨rfl,rfl⟩:=trodVars_none hV
  have k0:=h0
  have lt0 : ∀ x ∈ p0,x.block < W.heap.size:=by obtain ⟨m,hm⟩:=k0; exact DataW.trod_lt m _ _ _ hm
  have k1:=h1
  have lt1 : ∀ x ∈ p1,x.block < W.heap.size:=by obtain ⟨m,hm⟩:=k1; exact DataW.trod_lt m _ _ _ hm
  have R3:=Go.X.Rd.int (P:=Tryz.prog) (W:=W) Tryz.underlying3 (by kernel_rfl)
  have R40:=Go.X.Rd.slice (bt:=8) Tryz.underlying40 (by kernel_rfl) (by kernel_rfl) R3
  have R22:=Go.X.Rd.slice (bt:=24) Tryz.underlying22 (by kernel_rfl) (by kernel_rfl) R40
  obtain ⟨a0,rfl,w0⟩:=R22.top_slice Tryz.underlying22 (hval 0 22 v0 rfl rfl) h0 (Go.X.fits_of hsz 0 (by kernel_rfl) rfl)
  have R9:=Go.X.Rd.str (P:=Tryz.prog) (W:=W) Tryz.underlying9 (by kernel_rfl)
  have R29:=Go.X.Rd.struct Tryz.underlying29 (by kernel_rfl) (Go.X.RdF.cons R3 rfl (Go.X.RdF.cons R9 rfl (Go.X.RdF.cons R9 rfl (Go.X.RdF.cons R3 rfl (Go.X.RdF.last R9 rfl)))))
  have R23:=Go.X.Rd.slice (bt:=64) Tryz.underlying23 (by kernel_rfl) (by kernel_rfl) R29
  obtain ⟨a1,rfl,w1⟩:=R23.top_slice Tryz.underlying23 (hval 1 23 v1 rfl rfl) h1 (Go.X.fits_of hsz 1 (by kernel_rfl) rfl)
  clear hA0 hval0
  have hs:=Go.X.Meets.law (Go.X.Tg.targetPlaysL a0 a1 (fun b=>W.heap[b]?) w0 w1)
  simp only [Go.X.SV.vals,Go.X.SV.val] at hs
  refine hs.mono fun e W' ⟨he,bel⟩=>?_
  subst he
  exact ⟨_,rfl,_,_,_,[],_,[],hW',trodAll_mk1 (shut_bool Tryz.underlying4 _),(trodAll_cons_mk (Below.trod Clo.laidOut (by kernel_rfl) (of_decide_eq_true (by kernel_rfl)) k0 bel lt0) (trodAll_cons_mk (Below.trod Clo.laidOut (by kernel_rfl) (of_decide_eq_true (by kernel_rfl)) k1 bel lt1) trodAll_mk0)),rfl,bel.frame _,fun h=>by cases h⟩

theorem joined:joinedFacts Tryz.pinned.checked.prog 3 Tryz.f3 Rows.targetPlaysSpec Rows.targetPlaysRow=true:=by kernel_rfl
theorem named:Tryz.pinned.checked.prog.funcNamed Rows.targetPlaysRow.func=some 3:=by kernel_rfl

theorem over:Rows.targetPlaysRow.holds Tryz.pinned (OpenSpec.ofChange Rows.targetPlaysSpec):=
  OpenClaim.holds_of_wide 3 Tryz.f3 rfl rfl rfl rfl rfl rfl rfl ⟨rfl,rfl,rfl,rfl,rfl⟩ rfl rfl rfl rfl rfl named Tryz.func3 joined
    (of_decide_eq_true (by kernel_rfl)) (by unfold Func.isWrapper; first | (rw [if_pos (by decide +kernel)]; kernel_rfl) | (rw [if_neg (by decide +kernel)]; exact ⟨rfl,rfl⟩))
    (fun os started H enc _=>lifted os started H enc)

theorem proved:Rows.TargetPlaysCardSaid:=
  Claim7.holds_tied_plain_at .later [] [.pinned,.data] true (true, "ff75ad953fd487e252fa0e227bbe26a2770e826338fc75f396e53f58355e1582") false over (fun _ h=>by cases h) (by kernel_rfl) (fun _ h=>by cases h) targetPlays_row_tie rfl ⟨rfl,rfl⟩ (by kernel_rfl) rfl
    (fun f fn hf hfn=>by
      obtain rfl:f=3:=Option.some.inj (named.symm.trans hf) |>.symm
      obtain rfl:fn=Tryz.f3:=(Option.some.inj (Tryz.func3.symm.trans hfn)).symm
      exact ⟨by kernel_rfl,fun j t ht=>by
        rw [Tryz.params3] at ht
        have hm:t ∈ [22,23]:=by simpa using Array.mem_of_getElem? ht
        have hall:([22,23].all fun u=>!Tryz.prog.wantsStandIn u)=true:=by kernel_rfl
        exact (show Tryz.prog.wantsStandIn t=false by simpa using List.all_eq_true.1 hall t hm)⟩)
    (by kernel_rfl)
#print axioms proved
end Go.Proofs.YtoohifeidifocaaGreatDoor.targetPlays

