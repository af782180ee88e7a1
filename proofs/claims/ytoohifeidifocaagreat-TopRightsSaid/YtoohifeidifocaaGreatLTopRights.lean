/- The law 'TopRights' returns true, whatever the input, and leaves its input as it was. Conditions: none. -/
import Derived.Test.YtoohifeidifocaaGreatRows
import Derived.WalkKit
import Derived.ProofKit
import Derived.OpenShut
import Derived.ShutString
import Derived.ChangeOld
import Derived.Below
import Derived.Test.YtoohifeidifocaaGreatMg4
import Derived.Test.YtoohifeidifocaaGreatThC
namespace Go.Proofs.YtoohifeidifocaaGreat.topRights
open Go.ChangeShapes Go.WideShapes Go.ChangeAt Go.RowKit
open Go.ChangeMaps (open_string shut_string)
set_option linter.unusedVariables false
set_option linter.unusedSimpArgs false

theorem own : ownKnob Tryz.prog.godebug = none := by kernel_rfl

set_option maxRecDepth 100000 in
theorem lifted (os : Os) (started : os.Started) (H : Type) (enc : TypeId × Value → H) :
    ReturnsInHanded {} Tryz.checked os 3 .any (Rows.topRightsSpec.pre6 enc Tryz.prog Tryz.f3 Rows.topRightsRow.domain false) (Rows.topRightsSpec.post enc Tryz.prog Tryz.f3 false true false false) := by
  refine returnsInHanded_of_change_sized (C := Tryz.checked) own started (by kernel_rfl) Tryz.func3
    (ChangeSpec.witness6 (enc := enc) (C := Tryz.checked) false ⟨#[], #[.slice none 0 0, .slice none 0 0], []⟩ 8 (by kernel_rfl) (by kernel_rfl) (by kernel_rfl) (by kernel_rfl)) ?_
  intro W base args ds gs before hval0 hW hcnd hsz _
  have hval : ∀ (j : Nat) t v, Tryz.f3.params[j]? = some t → args[j]? = some v → Value.okWide Tryz.prog W .any base t v := hval0
  have hW' := hW
  obtain ⟨p, q, hA0, hV, rfl, hfz, hnd⟩ := hW
  have hA : DataW.TrodAll enc Tryz.prog W 0 (fun _ => true) true Tryz.f3.params.toList args.toList ds p := hA0
  rw [Tryz.params3] at hA hval
  obtain ⟨v0, vs0, d0, ds0, p0, q0, hargs, rfl, rfl, h0, r0⟩ := trodAll_cons hA
  obtain ⟨v1, vs1, d1, ds1, p1, q1, rfl, rfl, rfl, h1, r1⟩ := trodAll_cons r0
  obtain ⟨rfl, rfl, rfl⟩ := trodAll_nil r1
  obtain rfl : args = #[v0, v1] := by cases args; simp_all
  obtain ⟨rfl, rfl⟩ := trodVars_none hV
  have k0 := h0
  have lt0 : ∀ x ∈ p0, x.block < W.heap.size := by obtain ⟨m, hm⟩ := k0; exact DataW.trod_lt m _ _ _ hm
  have k1 := h1
  have lt1 : ∀ x ∈ p1, x.block < W.heap.size := by obtain ⟨m, hm⟩ := k1; exact DataW.trod_lt m _ _ _ hm
  have R3 := Go.X.Rd.int (P := Tryz.prog) (W := W) Tryz.underlying3 (by kernel_rfl)
  have R9 := Go.X.Rd.str (P := Tryz.prog) (W := W) Tryz.underlying9 (by kernel_rfl)
  have R30 := Go.X.Rd.struct Tryz.underlying30 (by kernel_rfl) (Go.X.RdF.cons R3 rfl (Go.X.RdF.cons R9 rfl (Go.X.RdF.cons R9 rfl (Go.X.RdF.cons R3 rfl (Go.X.RdF.last R9 rfl)))))
  have R22 := Go.X.Rd.slice (bt := 64) Tryz.underlying22 (by kernel_rfl) (by kernel_rfl) R30
  obtain ⟨a0, rfl, w0⟩ := R22.top_slice Tryz.underlying22 (hval 0 22 v0 rfl rfl) h0 (Go.X.fits_of hsz 0 (by kernel_rfl) rfl)
  have R33 := Go.X.Rd.slice (bt := 8) Tryz.underlying33 (by kernel_rfl) (by kernel_rfl) R3
  have R23 := Go.X.Rd.slice (bt := 24) Tryz.underlying23 (by kernel_rfl) (by kernel_rfl) R33
  obtain ⟨a1, rfl, w1⟩ := R23.top_slice Tryz.underlying23 (hval 1 23 v1 rfl rfl) h1 (Go.X.fits_of hsz 1 (by kernel_rfl) rfl)
  clear hA0 hval0
  have hs := Go.X.Meets.law (Go.X.Th.rightsL a0 a1 (fun b => W.heap[b]?) w0 w1)
  simp only [Go.X.SV.vals, Go.X.SV.val] at hs
  refine hs.mono fun e W' ⟨he, bel⟩ => ?_
  subst he
  exact ⟨_, rfl, _, _, _, [], _, [], hW', trodAll_mk1 (shut_bool Tryz.underlying4 _), (trodAll_cons_mk (Below.trod Clo.laidOut (by kernel_rfl) (of_decide_eq_true (by kernel_rfl)) k0 bel lt0) (trodAll_cons_mk (Below.trod Clo.laidOut (by kernel_rfl) (of_decide_eq_true (by kernel_rfl)) k1 bel lt1) trodAll_mk0)), rfl, bel.frame _, fun h => by cases h⟩

theorem joined : joinedFacts Tryz.pinned.checked.prog 3 Tryz.f3 Rows.topRightsSpec Rows.topRightsRow = true := by kernel_rfl
theorem named : Tryz.pinned.checked.prog.funcNamed Rows.topRightsRow.func = some 3 := by kernel_rfl

theorem over : Rows.topRightsRow.holds Tryz.pinned (OpenSpec.ofChange Rows.topRightsSpec) :=
  OpenClaim.holds_of_wide 3 Tryz.f3 rfl rfl rfl rfl rfl rfl rfl ⟨rfl, rfl, rfl, rfl, rfl⟩ rfl rfl rfl rfl rfl named Tryz.func3 joined
    (of_decide_eq_true (by kernel_rfl)) (by unfold Func.isWrapper; first | (rw [if_pos (by decide +kernel)]; kernel_rfl) | (rw [if_neg (by decide +kernel)]; exact ⟨rfl, rfl⟩))
    (fun os started H enc _ => lifted os started H enc)

theorem proved : Rows.TopRightsSaid := over
#print axioms proved
end Go.Proofs.YtoohifeidifocaaGreat.topRights

