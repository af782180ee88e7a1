/- The law 'DeskSays' returns true, and leaves its input as it was, for every input of bulk at most 1048576. Conditions: the bulk of what it reads (the bytes of its strings, and one for each datum) is at most 1048576. -/
import Derived.Test.YthafjlokddpjfaaGreatDoorRows
import Derived.Test.YthafjlokddpjfaaGreatDoorMa
import Derived.Test.YthafjlokddpjfaaGreatDoorMf
import Derived.Test.YthafjlokddpjfaaGreatDoorCards
import Derived.Test.YthafjlokddpjfaaGreatDoorTie
import Derived.LaidMore
import Derived.Deep.DeepHandedRow
import Derived.Lay
import Derived.Stop.Joined
import Derived.SevenTiedAt
import Derived.WalkKit
import Derived.ProofKit
import Derived.OpenShut
import Derived.ShutString
import Derived.ChangeOld
import Derived.Below
namespace Go.Proofs.YthafjlokddpjfaaGreatDoor.deskSays
open Go.ChangeShapes Go.WideShapes Go.ChangeAt Go.RowKit
open Go.ChangeMaps (open_string shut_string)
set_option linter.unusedVariables false
set_option linter.unusedSimpArgs false

theorem own : ownKnob Tryz.prog.godebug = none := by kernel_rfl

def laidL : List (String × DataW Unit) := Rows.deskSaysUptoRow.laid
theorem reads (os : Os) {H : Type} (enc : TypeId × Value → H) : ∃ places, DataW.whole enc Tryz.prog ((World.laidAll Tryz.prog os laidL).forCall (fun _ _ => 0) ⟨#[], #[.string ByteArray.empty], []⟩).memory Tryz.f3.params.toList Rows.deskSaysSpec.vars false (#[.string ByteArray.empty] : Array Value).toList 8 = some ([.lit (.string [])], [], places) :=
  ⟨[], by kernel_rfl⟩
set_option maxRecDepth 100000 in
theorem contract (H : Type) (enc : TypeId × Value → H) (W : World) (base : Nat) (args : Array Value) (ds gs : List (DataW H)) (before : List MemPlace)
    (hval0 : ∀ (j : Nat) t v, Tryz.f3.params[j]? = some t → args[j]? = some v → Value.okWide Tryz.prog W .any base t v)
    (hW : DataW.Whole enc Tryz.prog Tryz.f3.params.toList Rows.deskSaysSpec.vars false W args.toList ds gs before) (hk : Rows.uptoSmall H (ds ++ gs) = true) (hL : laidMetH Tryz.prog Rows.deskSaysUptoRow.laid W) (hsh : W.ShapedOpen Tryz.prog) :
    Calls Tryz.prog 3 args W fun e W' => ∃ v, e = .returned v ∧ Rows.deskSaysSpec.post enc Tryz.prog Tryz.f3 false true false false W args v W' := by
  have hval : ∀ (j : Nat) t v, Tryz.f3.params[j]? = some t → args[j]? = some v → Value.okWide Tryz.prog W .any base t v := hval0
  have hW' := hW
  obtain ⟨p, q, hA0, hV, rfl, hfz, hnd⟩ := hW
  have hA : DataW.TrodAll enc Tryz.prog W 0 (fun _ => true) true Tryz.f3.params.toList args.toList ds p := hA0
  rw [Tryz.params3] at hA hval
  obtain ⟨v0, vs0, d0, ds0, p0, q0, hargs, rfl, rfl, h0, r0⟩ := trodAll_cons hA
  obtain ⟨rfl, rfl, rfl⟩ := trodAll_nil r0
  obtain rfl : args = #[v0] := by cases args; simp_all
  obtain ⟨rfl, rfl⟩ := trodVars_none hV
  have k0 := h0
  have lt0 : ∀ x ∈ p0, x.block < W.heap.size := by obtain ⟨m, hm⟩ := k0; exact DataW.trod_lt m _ _ _ hm
  obtain ⟨a0, rfl, rfl, rfl, w0⟩ := open_string Tryz.underlying9 (hval 0 9 v0 rfl rfl) h0
  clear hA0 hval0
  have hb := of_decide_eq_true hk
  simp only [List.append_nil, List.cons_append, List.nil_append, Rows.uptoBulkAll, Rows.uptoBulk] at hb
  have hL0 : laidMet Tryz.prog laidL W := by rw [← MakeChecks.laidMetH_plain _ _ _ (by kernel_rfl)]; exact hL
  have hgl := Go.X.Dk.Wv (W := W) (hL0.filter (fun x => x.1 == "internal/strconv.uint64pow10")) (hL0.filter (fun x => x.1 == "strconv.ErrSyntax")) (hL0.filter (fun x => x.1 == "strconv.ErrRange")) hsh
  have hs := Go.X.OD (Go.X.Dk.Px (Go.X.bl a0) (fun b => W.heap[b]?) (by unfold Go.X.bl; omega) hgl)
  simp only [Go.X.aS, Go.X.SV.cL, Go.X.aa3] at hs
  refine hs.mono fun e W' ⟨he, bel⟩ => ?_
  subst he
  exact ⟨_, rfl, _, _, _, [], _, [], hW', trodAll_mk1 (shut_bool Tryz.underlying4 _), (trodAll_cons_mk (Below.trod Clo.MH (by kernel_rfl) (of_decide_eq_true (by kernel_rfl)) k0 bel lt0) trodAll_mk0), rfl, bel.frame _, fun h => by cases h⟩

set_option maxRecDepth 100000 in
theorem lifted (os : Os) (started : os.Started) (H : Type) (enc : TypeId × Value → H) (F : Stop.Interp) :
    ReturnsInHanded {} Tryz.checked os 3 .any ((Rows.OpenSpec.upto Rows.deskSaysSpec).preRow enc Tryz.prog Tryz.f3 Rows.deskSaysUptoRow.domain false Rows.deskSaysUptoRow.laid) (((Rows.OpenSpec.upto Rows.deskSaysSpec).at F).post enc Tryz.prog Tryz.f3 false true false false) := by
  obtain ⟨places, hx⟩ := reads os enc
  refine returnsInHanded_of_row (C := Tryz.checked) (s := Rows.OpenSpec.upto Rows.deskSaysSpec) own started (by kernel_rfl) Tryz.func3
    (witness_row_at (enc := enc) (C := Tryz.checked) false (World.laidAll Tryz.prog os laidL) #[.string ByteArray.empty] (World.laidAll_os _ _ _) (by kernel_rfl) (by kernel_rfl) (by kernel_rfl)
      (OpenSpec.preRow_of_cond 8 hx (by kernel_rfl) (fun k hk => by cases hk; kernel_rfl) (by kernel_rfl) (laidMet_laidAll _ (by kernel_rfl) (by kernel_rfl)))) ?_
  intro W base args ds gs before hval hW _ hcond _ hL hsh _
  exact contract H enc W base args ds gs before hval hW (hcond _ rfl) hL hsh

theorem ja : mapsRowed Tryz.prog = true := by kernel_rfl
theorem jb : (Rows.deskSaysUptoRow.inPlace == Tryz.prog.inPlace 3) = true := by kernel_rfl
theorem jc : (Rows.deskSaysUptoRow.unfollowed == Tryz.prog.unfollowed 3) = true := by kernel_rfl
theorem jd : (Rows.deskSaysUptoRow.recurses == Tryz.prog.recurses 3) = true := by kernel_rfl
theorem je : (Rows.deskSaysUptoRow.named == Tryz.prog.varsNamed 3) = true := by kernel_rfl
theorem jf : Tryz.prog.stopsHeard = true := by kernel_rfl
theorem jg : Tryz.prog.mayEnter = true := by kernel_rfl
theorem jh : (Rows.deskSaysUptoRow.lifted == Tryz.prog.liftsFinal) = true := by kernel_rfl
theorem ji : (Rows.deskSaysUptoRow.plainKeys == Tryz.prog.plainKeys) = true := by kernel_rfl
theorem jj : (Tryz.prog.make == some Rows.deskSaysUptoRow.make) = true := by kernel_rfl
theorem joined : joinedFacts Tryz.pinned.checked.prog 3 Tryz.f3 Rows.deskSaysSpec Rows.deskSaysUptoRow = true := by
  show joinedFacts Tryz.prog 3 Tryz.f3 Rows.deskSaysSpec Rows.deskSaysUptoRow = true
  unfold joinedFacts
  rw [Clo.MH, ja, jb, jc, jd, je, jf, jg, jh, ji, jj]
  kernel_rfl
theorem named : Tryz.pinned.checked.prog.funcNamed Rows.deskSaysUptoRow.func = some 3 := by kernel_rfl

theorem over : Rows.deskSaysUptoRow.holds Tryz.pinned (Rows.OpenSpec.upto Rows.deskSaysSpec) :=
  OpenClaim.holds_of_cond 3 Tryz.f3 rfl rfl rfl rfl rfl rfl rfl ⟨rfl, rfl, rfl, rfl, rfl⟩ rfl rfl rfl rfl rfl named Tryz.func3 joined
    (of_decide_eq_true (by kernel_rfl)) (by unfold Func.isWrapper; first | (rw [if_pos (by decide +kernel)]; kernel_rfl) | (rw [if_neg (by decide +kernel)]; exact ⟨rfl, rfl⟩))
    (fun os started H enc _ F => by rw [OpenClaim.pre_eq_preRow]; exact lifted os started H enc F)

theorem proved : Rows.DeskSaysUptoCardSaid :=
  Claim7.holds_tied_plain_at .later [] [.data, .data, .data, .data, .sentinel, .sentinel, .pinned] true (true, "e736df1bee78a9e20bb0f81f2d92a0dba41e935df025a8bbdde36a9378972797") true over (fun _ h => by cases h) (by kernel_rfl) (fun _ h => by cases h) deskSaysUpto_row_tie rfl ⟨rfl, rfl⟩ (by kernel_rfl) rfl
    (fun f fn hf hfn => by
      obtain rfl : f = 3 := Option.some.inj (named.symm.trans hf) |>.symm
      obtain rfl : fn = Tryz.f3 := (Option.some.inj (Tryz.func3.symm.trans hfn)).symm
      exact ⟨by kernel_rfl, fun j t ht => by
        rw [Tryz.params3] at ht
        have hm : t ∈ [9] := by simpa using Array.mem_of_getElem? ht
        have hall : ([9].all fun u => !Tryz.prog.wantsStandIn u) = true := by kernel_rfl
        exact (show Tryz.prog.wantsStandIn t = false by simpa using List.all_eq_true.1 hall t hm)⟩)
    (by kernel_rfl)
#print axioms proved
end Go.Proofs.YthafjlokddpjfaaGreatDoor.deskSays
