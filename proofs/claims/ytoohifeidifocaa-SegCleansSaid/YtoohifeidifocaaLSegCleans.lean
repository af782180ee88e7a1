/- The law 'SegCleans' returns true, whatever the input, and leaves its input as it was. Conditions: none. -/
import Derived.Test.YtoohifeidifocaaRows
import Derived.WalkKit
import Derived.ProofKit
import Derived.OpenShut
import Derived.ShutString
import Derived.ChangeOld
import Derived.Below
import Derived.Test.YtoohifeidifocaaMg4
import Derived.Test.YtoohifeidifocaaScD
namespace Go.Proofs.Ytoohifeidifocaa.segCleans
open Go.ChangeShapes Go.WideShapes Go.ChangeAt Go.RowKit
open Go.ChangeMaps (open_string shut_string)
set_option linter.unusedVariables false
set_option linter.unusedSimpArgs false

theorem own : ownKnob Try.prog.godebug = none := by kernel_rfl

set_option maxRecDepth 100000 in
theorem lifted (os : Os) (started : os.Started) (H : Type) (enc : TypeId × Value → H) :
    ReturnsInHanded {} Try.checked os 3 .any (Rows.segCleansSpec.pre6 enc Try.prog Try.f3 Rows.segCleansRow.domain false) (Rows.segCleansSpec.post enc Try.prog Try.f3 false true false false) := by
  refine returnsInHanded_of_change_sized (C := Try.checked) own started (by kernel_rfl) Try.func3
    (ChangeSpec.witness6 (enc := enc) (C := Try.checked) false ⟨#[], #[.slice none 0 0, .slice none 0 0], []⟩ 8 (by kernel_rfl) (by kernel_rfl) (by kernel_rfl) (by kernel_rfl)) ?_
  intro W base args ds gs before hval0 hW hcnd hsz _
  have hval : ∀ (j : Nat) t v, Try.f3.params[j]? = some t → args[j]? = some v → Value.okWide Try.prog W .any base t v := hval0
  have hW' := hW
  obtain ⟨p, q, hA0, hV, rfl, hfz, hnd⟩ := hW
  have hA : DataW.TrodAll enc Try.prog W 0 (fun _ => true) true Try.f3.params.toList args.toList ds p := hA0
  rw [Try.params3] at hA hval
  obtain ⟨v0, vs0, d0, ds0, p0, q0, hargs, rfl, rfl, h0, r0⟩ := trodAll_cons hA
  obtain ⟨v1, vs1, d1, ds1, p1, q1, rfl, rfl, rfl, h1, r1⟩ := trodAll_cons r0
  obtain ⟨rfl, rfl, rfl⟩ := trodAll_nil r1
  obtain rfl : args = #[v0, v1] := by cases args; simp_all
  obtain ⟨rfl, rfl⟩ := trodVars_none hV
  have k0 := h0
  have lt0 : ∀ x ∈ p0, x.block < W.heap.size := by obtain ⟨m, hm⟩ := k0; exact DataW.trod_lt m _ _ _ hm
  have k1 := h1
  have lt1 : ∀ x ∈ p1, x.block < W.heap.size := by obtain ⟨m, hm⟩ := k1; exact DataW.trod_lt m _ _ _ hm
  have R4 := Go.X.Rd.bool (P := Try.prog) (W := W) Try.underlying4 (by kernel_rfl)
  have R3 := Go.X.Rd.int (P := Try.prog) (W := W) Try.underlying3 (by kernel_rfl)
  have R48 := Go.X.Rd.struct Try.underlying48 (by kernel_rfl) (Go.X.RdF.cons R4 rfl (Go.X.RdF.cons R3 rfl (Go.X.RdF.last R3 rfl)))
  have R9 := Go.X.Rd.str (P := Try.prog) (W := W) Try.underlying9 (by kernel_rfl)
  have R50 := Go.X.Rd.struct Try.underlying50 (by kernel_rfl) (Go.X.RdF.cons R48 rfl (Go.X.RdF.last R9 rfl))
  have R33 := Go.X.Rd.slice (bt := 40) Try.underlying33 (by kernel_rfl) (by kernel_rfl) R50
  have R22 := Go.X.Rd.slice (bt := 24) Try.underlying22 (by kernel_rfl) (by kernel_rfl) R33
  obtain ⟨a0, rfl, w0⟩ := R22.top_slice Try.underlying22 (hval 0 22 v0 rfl rfl) h0 (Go.X.fits_of hsz 0 (by kernel_rfl) rfl)
  have R55 := Go.X.Rd.struct Try.underlying55 (by kernel_rfl) (Go.X.RdF.cons R3 rfl (Go.X.RdF.cons R3 rfl (Go.X.RdF.cons R9 rfl (Go.X.RdF.last R3 rfl))))
  have R23 := Go.X.Rd.slice (bt := 40) Try.underlying23 (by kernel_rfl) (by kernel_rfl) R55
  obtain ⟨a1, rfl, w1⟩ := R23.top_slice Try.underlying23 (hval 1 23 v1 rfl rfl) h1 (Go.X.fits_of hsz 1 (by kernel_rfl) rfl)
  clear hA0 hval0
  have hs := Go.X.Meets.law (Go.X.Sg.cleansL a0 a1 (fun b => W.heap[b]?) w0 w1)
  simp only [Go.X.SV.vals, Go.X.SV.val] at hs
  refine hs.mono fun e W' ⟨he, bel⟩ => ?_
  subst he
  exact ⟨_, rfl, _, _, _, [], _, [], hW', trodAll_mk1 (shut_bool Try.underlying4 _), (trodAll_cons_mk (Below.trod Clo.laidOut (by kernel_rfl) (of_decide_eq_true (by kernel_rfl)) k0 bel lt0) (trodAll_cons_mk (Below.trod Clo.laidOut (by kernel_rfl) (of_decide_eq_true (by kernel_rfl)) k1 bel lt1) trodAll_mk0)), rfl, bel.frame _, fun h => by cases h⟩

theorem joined : joinedFacts Try.pinned.checked.prog 3 Try.f3 Rows.segCleansSpec Rows.segCleansRow = true := by kernel_rfl
theorem named : Try.pinned.checked.prog.funcNamed Rows.segCleansRow.func = some 3 := by kernel_rfl

theorem over : Rows.segCleansRow.holds Try.pinned (OpenSpec.ofChange Rows.segCleansSpec) :=
  OpenClaim.holds_of_wide 3 Try.f3 rfl rfl rfl rfl rfl rfl rfl ⟨rfl, rfl, rfl, rfl, rfl⟩ rfl rfl rfl rfl rfl named Try.func3 joined
    (of_decide_eq_true (by kernel_rfl)) (by unfold Func.isWrapper; first | (rw [if_pos (by decide +kernel)]; kernel_rfl) | (rw [if_neg (by decide +kernel)]; exact ⟨rfl, rfl⟩))
    (fun os started H enc _ => lifted os started H enc)

theorem proved : Rows.SegCleansSaid := over
#print axioms proved
end Go.Proofs.Ytoohifeidifocaa.segCleans

