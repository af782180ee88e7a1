/- The law 'VolChecks' returns true, whatever the input, and leaves its input as it was. Conditions: none. -/
import Derived.Test.YtkhclplinfobdaaDoorRows
import Derived.Test.YtkhclplinfobdaaDoorLiftZ
import Derived.Test.YtkhclplinfobdaaDoorClo
import Derived.Test.YtkhclplinfobdaaDoorVoL
import Derived.Test.YtkhclplinfobdaaDoorCards
import Derived.Test.YtkhclplinfobdaaDoorTie
import Derived.LaidMore
import Derived.Lay
import Derived.Stop.Joined
import Derived.SevenTiedAt
import Derived.WalkKit
import Derived.ProofKit
import Derived.OpenShut
import Derived.ShutString
import Derived.ChangeOld
import Derived.Below
namespace Go.Proofs.YtkhclplinfobdaaDoor.volChecks
open Go.ChangeShapes Go.WideShapes Go.ChangeAt Go.RowKit
open Go.ChangeMaps (open_string shut_string)
set_option linter.unusedVariables false
set_option linter.unusedSimpArgs false

theorem own : ownKnob Tryd.prog.godebug = none := by kernel_rfl

def laidL : List (String × DataW Unit) := Rows.volChecksRow.laid
set_option maxRecDepth 100000 in
theorem lifted (os : Os) (started : os.Started) (H : Type) (enc : TypeId × Value → H) :
    ReturnsInHanded {} Tryd.checked os 5 .any (fun w args => (Rows.volChecksSpec.pre enc Tryd.prog Tryd.f5 [] false w args ∧ laidMetH Tryd.prog laidL w) ∧ sizedMet enc Tryd.prog Tryd.f5 (OpenSpec.ofChange Rows.volChecksSpec) false w args) (Rows.volChecksSpec.post enc Tryd.prog Tryd.f5 false true false false) := by
  refine returnsInHanded_of_change_and (C := Tryd.checked) (X := fun w _ => laidMetH Tryd.prog laidL w) (fun _ _ _ hh h => h.of_heap hh) own started (by kernel_rfl) Tryd.func5
    (ChangeSpec.witness_shaped (enc := enc) (C := Tryd.checked) (os := os) (X := fun w _ => laidMetH Tryd.prog laidL w) false (World.laidAll Tryd.prog os laidL) #[.agg #[.slice none 0 0, .slice none 0 0], .string ByteArray.empty, .int .i64 0] 8 (World.laidAll_os _ _ _)
      (World.shaped_of_ZipB (by kernel_rfl) (by kernel_rfl)) (by kernel_rfl) (by kernel_rfl) (by kernel_rfl)
      (by rw [MakeChecks.laidMetH_plain _ _ _ (by kernel_rfl)]; exact laidMet_laidAll _ (by kernel_rfl) (by kernel_rfl))) ?_
  intro W base args ds gs before hval0 hW hcnd hsz hL _
  have hval : ∀ (j : Nat) t v, Tryd.f5.params[j]? = some t → args[j]? = some v → Value.okWide Tryd.prog W .any base t v := hval0
  have hW' := hW
  obtain ⟨p, q, hA0, hV, rfl, hfz, hnd⟩ := hW
  have hA : DataW.TrodAll enc Tryd.prog W 0 (fun _ => true) true Tryd.f5.params.toList args.toList ds p := hA0
  rw [Tryd.params5] at hA hval
  obtain ⟨v0, vs0, d0, ds0, p0, q0, hargs, rfl, rfl, h0, r0⟩ := trodAll_cons hA
  obtain ⟨v1, vs1, d1, ds1, p1, q1, rfl, rfl, rfl, h1, r1⟩ := trodAll_cons r0
  obtain ⟨v2, vs2, d2, ds2, p2, q2, rfl, rfl, rfl, h2, r2⟩ := trodAll_cons r1
  obtain ⟨rfl, rfl, rfl⟩ := trodAll_nil r2
  obtain rfl : args = #[v0, v1, v2] := by cases args; simp_all
  obtain ⟨rfl, rfl⟩ := trodVars_none hV
  have k0 := h0
  have lt0 : ∀ x ∈ p0, x.block < W.heap.size := by obtain ⟨m, hm⟩ := k0; exact DataW.trod_lt m _ _ _ hm
  have k1 := h1
  have lt1 : ∀ x ∈ p1, x.block < W.heap.size := by obtain ⟨m, hm⟩ := k1; exact DataW.trod_lt m _ _ _ hm
  have k2 := h2
  have lt2 : ∀ x ∈ p2, x.block < W.heap.size := by obtain ⟨m, hm⟩ := k2; exact DataW.trod_lt m _ _ _ hm
  obtain ⟨a1, rfl, rfl, rfl, w1⟩ := open_string Tryd.underlying9 (hval 1 9 v1 rfl rfl) h1
  obtain ⟨a2, rfl, rfl, rfl, w2⟩ := open_int Tryd.underlying3 (hval 2 3 v2 rfl rfl) h2
  have R3 := Go.X.Rd.int (P := Tryd.prog) (W := W) Tryd.underlying3 (by kernel_rfl)
  have R9 := Go.X.Rd.str (P := Tryd.prog) (W := W) Tryd.underlying9 (by kernel_rfl)
  have R95 := Go.X.Rd.struct Tryd.underlying95 (by kernel_rfl) (Go.X.RdF.cons R3 rfl (Go.X.RdF.cons R3 rfl (Go.X.RdF.cons R9 rfl (Go.X.RdF.last R3 rfl))))
  have R36 := Go.X.Rd.slice (bt := 40) Tryd.underlying36 (by kernel_rfl) (by kernel_rfl) R95
  have R4 := Go.X.Rd.bool (P := Tryd.prog) (W := W) Tryd.underlying4 (by kernel_rfl)
  have R48 := Go.X.Rd.struct Tryd.underlying48 (by kernel_rfl) (Go.X.RdF.cons R4 rfl (Go.X.RdF.cons R3 rfl (Go.X.RdF.last R3 rfl)))
  have R40 := Go.X.Rd.slice (bt := 24) Tryd.underlying40 (by kernel_rfl) (by kernel_rfl) R48
  have R50 := Go.X.Rd.struct Tryd.underlying50 (by kernel_rfl) (Go.X.RdF.cons R9 rfl (Go.X.RdF.last R40 rfl))
  have R37 := Go.X.Rd.slice (bt := 40) Tryd.underlying37 (by kernel_rfl) (by kernel_rfl) R50
  have R39 := Go.X.Rd.struct Tryd.underlying39 (by kernel_rfl) (Go.X.RdF.cons R36 rfl (Go.X.RdF.last R37 rfl))
  obtain ⟨a0, rfl, w0⟩ := R39.top_struct Tryd.underlying39 (hval 0 39 v0 rfl rfl) h0 (Go.X.fits_of hsz 0 (by kernel_rfl) rfl)
  clear hA0 hval0
  have hs := Go.X.Meets.law (Go.X.Vo.law a0 (Go.X.bl a1) a2 (fun b => W.heap[b]?) w0 (Go.X.str_fits (Go.X.fits_of (t := 9) hsz 1 (by kernel_rfl) rfl)) (Go.X.wf_i64 w2))
  simp only [Go.X.SV.vals, Go.X.SV.val, Go.X.B_bl] at hs
  refine hs.mono fun e W' ⟨he, bel⟩ => ?_
  subst he
  exact ⟨_, rfl, _, _, _, [], _, [], hW', trodAll_mk1 (shut_bool Tryd.underlying4 _), (trodAll_cons_mk (Below.trod Clo.laidOut (by kernel_rfl) (of_decide_eq_true (by kernel_rfl)) k0 bel lt0) (trodAll_cons_mk (Below.trod Clo.laidOut (by kernel_rfl) (of_decide_eq_true (by kernel_rfl)) k1 bel lt1) (trodAll_cons_mk (Below.trod Clo.laidOut (by kernel_rfl) (of_decide_eq_true (by kernel_rfl)) k2 bel lt2) trodAll_mk0))), rfl, bel.frame _, fun h => by cases h⟩

theorem joined : joinedFacts Tryd.pinned.checked.prog 5 Tryd.f5 Rows.volChecksSpec Rows.volChecksRow = true := by kernel_rfl
theorem named : Tryd.pinned.checked.prog.funcNamed Rows.volChecksRow.func = some 5 := by kernel_rfl

theorem over : Rows.volChecksRow.holds Tryd.pinned (OpenSpec.ofChange Rows.volChecksSpec) :=
  OpenClaim.holds_of_wide 5 Tryd.f5 rfl rfl rfl rfl rfl rfl rfl ⟨rfl, rfl, rfl, rfl, rfl⟩ rfl rfl rfl rfl rfl named Tryd.func5 joined
    (of_decide_eq_true (by kernel_rfl)) (by unfold Func.isWrapper; first | (rw [if_pos (by decide +kernel)]; kernel_rfl) | (rw [if_neg (by decide +kernel)]; exact ⟨rfl, rfl⟩))
    (fun os started H enc _ => lifted os started H enc)

theorem proved : Rows.VolChecksCardSaid :=
  Claim7.holds_tied_plain_at .later [] [.data, .pinned] true (true, "86739a57c90b01a174af15d9934f917e703536d1b7f6707b566d7ab5c4528b89") false over (fun _ h => by cases h) (by kernel_rfl) (fun _ h => by cases h) volChecks_row_tie rfl ⟨rfl, rfl⟩ (by kernel_rfl) rfl
    (fun f fn hf hfn => by
      obtain rfl : f = 5 := Option.some.inj (named.symm.trans hf) |>.symm
      obtain rfl : fn = Tryd.f5 := (Option.some.inj (Tryd.func5.symm.trans hfn)).symm
      exact ⟨by kernel_rfl, fun j t ht => by
        rw [Tryd.params5] at ht
        have hm : t ∈ [39, 9, 3] := by simpa using Array.mem_of_getElem? ht
        have hall : ([39, 9, 3].all fun u => !Tryd.prog.wantsStandIn u) = true := by kernel_rfl
        exact (show Tryd.prog.wantsStandIn t = false by simpa using List.all_eq_true.1 hall t hm)⟩)
    (by kernel_rfl)
#print axioms proved
end Go.Proofs.YtkhclplinfobdaaDoor.volChecks
