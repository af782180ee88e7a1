/- The law 'SegSays' returns true, whatever the input, and leaves its input as it was. Conditions: none. -/
import Derived.Test.YtkhadbanpfngnaaRows
import Derived.Test.YtkhadbanpfngnaaLiftZ
import Derived.Test.YtkhadbanpfngnaaClo
import Derived.Test.YtkhadbanpfngnaaSegS
import Derived.WalkKit
import Derived.ProofKit
import Derived.OpenShut
import Derived.ShutString
import Derived.ChangeOld
import Derived.Below
namespace Go.Proofs.Ytkhadbanpfngnaa.segSays
open Go.ChangeShapes Go.WideShapes Go.ChangeAt Go.RowKit
open Go.ChangeMaps (open_string shut_string)
set_option linter.unusedVariables false
set_option linter.unusedSimpArgs false

theorem own : ownKnob Try.prog.godebug = none := by kernel_rfl

set_option maxRecDepth 100000 in
theorem lifted (os : Os) (started : os.Started) (H : Type) (enc : TypeId × Value → H) :
    ReturnsInHanded {} Try.checked os 11 .any (Rows.segSaysSpec.pre6 enc Try.prog Try.f11 Rows.segSaysRow.domain false) (Rows.segSaysSpec.post enc Try.prog Try.f11 false true false false) := by
  refine returnsInHanded_of_change_sized (C := Try.checked) own started (by kernel_rfl) Try.func11
    (ChangeSpec.witness6 (enc := enc) (C := Try.checked) false ⟨#[], #[.slice none 0 0, .agg #[.bool false, .int .i64 0, .int .i64 0, .string ⟨#[]⟩]], []⟩ 8 (by kernel_rfl) (by kernel_rfl) (by kernel_rfl) (by kernel_rfl)) ?_
  intro W base args ds gs before hval0 hW hcnd hsz _
  have hval : ∀ (j : Nat) t v, Try.f11.params[j]? = some t → args[j]? = some v → Value.okWide Try.prog W .any base t v := hval0
  have hW' := hW
  obtain ⟨p, q, hA0, hV, rfl, hfz, hnd⟩ := hW
  have hA : DataW.TrodAll enc Try.prog W 0 (fun _ => true) true Try.f11.params.toList args.toList ds p := hA0
  rw [Try.params11] at hA hval
  obtain ⟨v0, vs0, d0, ds0, p0, q0, hargs, rfl, rfl, h0, r0⟩ := trodAll_cons hA
  obtain ⟨v1, vs1, d1, ds1, p1, q1, rfl, rfl, rfl, h1, r1⟩ := trodAll_cons r0
  obtain ⟨rfl, rfl, rfl⟩ := trodAll_nil r1
  obtain rfl : args = #[v0, v1] := by cases args; simp_all
  obtain ⟨rfl, rfl⟩ := trodVars_none hV
  have k0 := h0
  have lt0 : ∀ x ∈ p0, x.block < W.heap.size := by obtain ⟨m, hm⟩ := k0; exact DataW.trod_lt m _ _ _ hm
  have k1 := h1
  have lt1 : ∀ x ∈ p1, x.block < W.heap.size := by obtain ⟨m, hm⟩ := k1; exact DataW.trod_lt m _ _ _ hm
  have R4 := Go.X.Rd.bool (P := Try.prog) (W := W) Try.underlying4 (by kernel_rfl)
  have R3 := Go.X.Rd.int (P := Try.prog) (W := W) Try.underlying3 (by kernel_rfl)
  have R73 := Go.X.Rd.struct Try.underlying73 (by kernel_rfl) (Go.X.RdF.cons R4 rfl (Go.X.RdF.cons R3 rfl (Go.X.RdF.last R3 rfl)))
  have R9 := Go.X.Rd.str (P := Try.prog) (W := W) Try.underlying9 (by kernel_rfl)
  have R75 := Go.X.Rd.struct Try.underlying75 (by kernel_rfl) (Go.X.RdF.cons R73 rfl (Go.X.RdF.last R9 rfl))
  have R79 := Go.X.Rd.slice (bt := 40) Try.underlying79 (by kernel_rfl) (by kernel_rfl) R75
  have R71 := Go.X.Rd.slice (bt := 24) Try.underlying71 (by kernel_rfl) (by kernel_rfl) R79
  obtain ⟨a0, rfl, w0⟩ := R71.top_slice Try.underlying71 (hval 0 71 v0 rfl rfl) h0 (Go.X.fits_of hsz 0 (by kernel_rfl) rfl)
  obtain ⟨a1, rfl, w1⟩ := R75.top_struct Try.underlying75 (hval 1 75 v1 rfl rfl) h1 (Go.X.fits_of hsz 1 (by kernel_rfl) rfl)
  clear hA0 hval0
  have hs := Go.X.Meets.law (Go.X.Sg.law a0 a1 (fun b => W.heap[b]?) w0 w1)
  simp only [Go.X.SV.vals, Go.X.SV.val] at hs
  refine hs.mono fun e W' ⟨he, bel⟩ => ?_
  subst he
  exact ⟨_, rfl, _, _, _, [], _, [], hW', trodAll_mk1 (shut_bool Try.underlying4 _), (trodAll_cons_mk (Below.trod Clo.laidOut (by kernel_rfl) (of_decide_eq_true (by kernel_rfl)) k0 bel lt0) (trodAll_cons_mk (Below.trod Clo.laidOut (by kernel_rfl) (of_decide_eq_true (by kernel_rfl)) k1 bel lt1) trodAll_mk0)), rfl, bel.frame _, fun h => by cases h⟩

theorem joined : joinedFacts Try.pinned.checked.prog 11 Try.f11 Rows.segSaysSpec Rows.segSaysRow = true := by kernel_rfl
theorem named : Try.pinned.checked.prog.funcNamed Rows.segSaysRow.func = some 11 := by kernel_rfl

theorem over : Rows.segSaysRow.holds Try.pinned (OpenSpec.ofChange Rows.segSaysSpec) :=
  OpenClaim.holds_of_wide 11 Try.f11 rfl rfl rfl rfl rfl rfl rfl ⟨rfl, rfl, rfl, rfl, rfl⟩ rfl rfl rfl rfl rfl named Try.func11 joined
    (of_decide_eq_true (by kernel_rfl)) (by unfold Func.isWrapper; first | (rw [if_pos (by decide +kernel)]; kernel_rfl) | (rw [if_neg (by decide +kernel)]; exact ⟨rfl, rfl⟩))
    (fun os started H enc _ => lifted os started H enc)

theorem proved : Rows.SegSaysSaid := over
#print axioms proved
end Go.Proofs.Ytkhadbanpfngnaa.segSays
