/- The law 'ResvMay' returns true, whatever the input, and leaves its input as it was. Conditions: none. -/
import Derived.Test.YtkhadbanpfngnaaRows
import Derived.Test.YtkhadbanpfngnaaLift
import Derived.Test.YtkhadbanpfngnaaClo
import Derived.Test.YtkhadbanpfngnaaResvL
import Derived.WalkKit
import Derived.ProofKit
import Derived.OpenShut
import Derived.ShutString
import Derived.ChangeOld
import Derived.Below
import Derived.Test.YtkhadbanpfngnaaLiftS
namespace Go.Proofs.Ytkhadbanpfngnaa.resvMay
open Go.ChangeShapes Go.WideShapes Go.ChangeAt Go.RowKit
open Go.ChangeMaps (open_string shut_string)
set_option linter.unusedVariables false
set_option linter.unusedSimpArgs false

theorem own : ownKnob Try.prog.godebug = none := by kernel_rfl

set_option maxRecDepth 100000 in
theorem lifted (os : Os) (started : os.Started) (H : Type) (enc : TypeId × Value → H) :
    ReturnsInHanded {} Try.checked os 9 .any (Rows.resvMaySpec.pre6 enc Try.prog Try.f9 Rows.resvMayRow.domain false) (Rows.resvMaySpec.post enc Try.prog Try.f9 false true false false) := by
  refine returnsInHanded_of_change (C := Try.checked) own started (by kernel_rfl) Try.func9
    (ChangeSpec.witness6 (enc := enc) (C := Try.checked) false ⟨#[], #[.agg #[.int .i64 0, .slice none 0 0, .int .i64 0, .int .i64 0], .int .i64 0, .bool false], []⟩ 8 (by kernel_rfl) (by kernel_rfl) (by kernel_rfl) (by kernel_rfl)) ?_
  intro W base args ds gs before hval0 hW hcnd _
  have hval : ∀ (j : Nat) t v, Try.f9.params[j]? = some t → args[j]? = some v → Value.okWide Try.prog W .any base t v := hval0
  have hW' := hW
  obtain ⟨p, q, hA0, hV, rfl, hfz, hnd⟩ := hW
  have hA : DataW.TrodAll enc Try.prog W 0 (fun _ => true) true Try.f9.params.toList args.toList ds p := hA0
  rw [Try.params9] at hA hval
  obtain ⟨v0, vs0, d0, ds0, p0, q0, hargs, rfl, rfl, h0, r0⟩ := trodAll_cons hA
  obtain ⟨v1, vs1, d1, ds1, p1, q1, rfl, rfl, rfl, h1, r1⟩ := trodAll_cons r0
  obtain ⟨v2, vs2, d2, ds2, p2, q2, rfl, rfl, rfl, h2, r2⟩ := trodAll_cons r1
  obtain ⟨rfl, rfl, rfl⟩ := trodAll_nil r2
  obtain rfl : args = #[v0, v1, v2] := by cases args; simp_all
  obtain ⟨rfl, rfl⟩ := trodVars_none hV
  have k0 := h0
  have lt0 : ∀ x ∈ p0, x.block < W.heap.size := by obtain ⟨m, hm⟩ := k0; exact DataW.trod_lt m _ _ _ hm
  have k1 := h1
  have lt1 : ∀ x ∈ p1, x.block < W.heap.size := by obtain ⟨m, hm⟩ := k1; exact DataW.trod_lt m _ _ _ hm
  have k2 := h2
  have lt2 : ∀ x ∈ p2, x.block < W.heap.size := by obtain ⟨m, hm⟩ := k2; exact DataW.trod_lt m _ _ _ hm
  obtain ⟨a1, rfl, rfl, rfl, w1⟩ := open_int Try.underlying3 (hval 1 3 v1 rfl rfl) h1
  obtain ⟨a2, rfl, rfl, rfl⟩ := open_bool Try.underlying4 (hval 2 4 v2 rfl rfl) h2
  obtain ⟨c0_0, c0_1, c0_2, c0_3, y0_0, y0_1, y0_2, y0_3, n0, rfl, _, _, g0_0, g0_1, g0_2, g0_3⟩ := Go.Joins.open_agg4 Try.underlying64 (by kernel_rfl) (by kernel_rfl) (hval 0 64 v0 rfl rfl) h0
  obtain ⟨a0_0, rfl, w0_0⟩ := Go.X.trod_i64 Try.underlying3 g0_0
  obtain ⟨s0_1, l0_1, z0_1, hs0_1⟩ := Go.Joins.slice_form Try.underlying62 g0_1
  obtain rfl : c0_1 = .slice s0_1 l0_1 z0_1 := by simpa using hs0_1
  obtain ⟨a0_1, w0_1, w0_1'⟩ := Go.X.rowM_of (E := fun a : Int × Int => [.int .i64 a.1, .int .i64 a.2]) Try.underlying62 (by kernel_rfl) (by intro a u hu; simp at hu; rcases hu with rfl | rfl <;> rfl) (Go.X.el_pair Try.underlying128 (by kernel_rfl) Try.underlying3 Try.underlying3) g0_1
  obtain ⟨a0_2, rfl, w0_2⟩ := Go.X.trod_i64 Try.underlying3 g0_2
  obtain ⟨a0_3, rfl, w0_3⟩ := Go.X.trod_i64 Try.underlying3 g0_3
  clear hA0 hval0
  have hs := Go.X.Meets.law (Go.X.Rv.said a0_0 _ a0_1 a0_2 a0_3 a1 a2 (fun b => W.heap[b]?) w0_0 w0_1 w0_1' w0_2 w0_3 (Go.X.wf_i64 w1))
  simp only [Go.X.SV.vals, Go.X.SV.val] at hs
  refine hs.mono fun e W' ⟨he, bel⟩ => ?_
  subst he
  exact ⟨_, rfl, _, _, _, [], _, [], hW', trodAll_mk1 (shut_bool Try.underlying4 _), (trodAll_cons_mk (Below.trod Clo.laidOut (by kernel_rfl) (of_decide_eq_true (by kernel_rfl)) k0 bel lt0) (trodAll_cons_mk (Below.trod Clo.laidOut (by kernel_rfl) (of_decide_eq_true (by kernel_rfl)) k1 bel lt1) (trodAll_cons_mk (Below.trod Clo.laidOut (by kernel_rfl) (of_decide_eq_true (by kernel_rfl)) k2 bel lt2) trodAll_mk0))), rfl, bel.frame _, fun h => by cases h⟩

theorem joined : joinedFacts Try.pinned.checked.prog 9 Try.f9 Rows.resvMaySpec Rows.resvMayRow = true := by kernel_rfl
theorem named : Try.pinned.checked.prog.funcNamed Rows.resvMayRow.func = some 9 := by kernel_rfl

theorem over : Rows.resvMayRow.holds Try.pinned (OpenSpec.ofChange Rows.resvMaySpec) :=
  OpenClaim.holds_of_wide 9 Try.f9 rfl rfl rfl rfl rfl rfl rfl ⟨rfl, rfl, rfl, rfl, rfl⟩ rfl rfl rfl rfl rfl named Try.func9 joined
    (of_decide_eq_true (by kernel_rfl)) (by unfold Func.isWrapper; first | (rw [if_pos (by decide +kernel)]; kernel_rfl) | (rw [if_neg (by decide +kernel)]; exact ⟨rfl, rfl⟩))
    (fun os started H enc _ => lifted os started H enc)

theorem proved : Rows.ResvMaySaid := over
#print axioms proved
end Go.Proofs.Ytkhadbanpfngnaa.resvMay
