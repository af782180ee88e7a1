/- The law 'DiffSays' returns true, whatever the input, and leaves its input as it was. Conditions: none. -/
import Derived.Test.YteebcojoghnlnaaGreatDoorRows
import Derived.Test.YteebcojoghnlnaaGreatDoorCards
import Derived.Test.YteebcojoghnlnaaGreatDoorTie
import Derived.LaidMore
import Derived.Lay
import Derived.Stop.Joined
import Derived.SevenTiedAt
import Derived.WalkKit
import Derived.ProofKit
import Derived.OpenShut
import Derived.ShutString
import Derived.ChangeOld
import Derived.Below
import Derived.Test.YteebcojoghnlnaaGreatDoorMg4
import Derived.Test.YteebcojoghnlnaaGreatDoorVpJ
namespace Go.Proofs.YteebcojoghnlnaaGreatDoor.diffSays
open Go.ChangeShapes Go.WideShapes Go.ChangeAt Go.RowKit
open Go.ChangeMaps (open_string shut_string)
set_option linter.unusedVariables false
set_option linter.unusedSimpArgs false

theorem own : ownKnob Tryz.prog.godebug = none := by kernel_rfl

def laidL : List (String × DataW Unit) := Rows.diffSaysRow.laid
set_option maxRecDepth 100000 in
theorem lifted (os : Os) (started : os.Started) (H : Type) (enc : TypeId × Value → H) :
    ReturnsInHanded {} Tryz.checked os 5 .any (fun w args => (Rows.diffSaysSpec.pre enc Tryz.prog Tryz.f5 [] false w args ∧ laidMetH Tryz.prog laidL w) ∧ sizedMet enc Tryz.prog Tryz.f5 (OpenSpec.ofChange Rows.diffSaysSpec) false w args) (Rows.diffSaysSpec.post enc Tryz.prog Tryz.f5 false true false false) := by
  refine returnsInHanded_of_change_and (C := Tryz.checked) (X := fun w _ => laidMetH Tryz.prog laidL w) (fun _ _ _ hh h => h.of_heap hh) own started (by kernel_rfl) Tryz.func5
    (ChangeSpec.witness_shaped (enc := enc) (C := Tryz.checked) (os := os) (X := fun w _ => laidMetH Tryz.prog laidL w) false (World.laidAll Tryz.prog os laidL) #[.agg #[.slice none 0 0, .slice none 0 0], .string ByteArray.empty, .string ByteArray.empty, .slice none 0 0] 8 (World.laidAll_os _ _ _)
      (World.shaped_of_ZipB (by kernel_rfl) (by kernel_rfl)) (by kernel_rfl) (by kernel_rfl) (by kernel_rfl)
      (by rw [MakeChecks.laidMetH_plain _ _ _ (by kernel_rfl)]; exact laidMet_laidAll _ (by kernel_rfl) (by kernel_rfl))) ?_
  intro W base args ds gs before hval0 hW hcnd hsz hL _
  have hval : ∀ (j : Nat) t v, Tryz.f5.params[j]? = some t → args[j]? = some v → Value.okWide Tryz.prog W .any base t v := hval0
  have hW' := hW
  obtain ⟨p, q, hA0, hV, rfl, hfz, hnd⟩ := hW
  have hA : DataW.TrodAll enc Tryz.prog W 0 (fun _ => true) true Tryz.f5.params.toList args.toList ds p := hA0
  rw [Tryz.params5] at hA hval
  obtain ⟨v0, vs0, d0, ds0, p0, q0, hargs, rfl, rfl, h0, r0⟩ := trodAll_cons hA
  obtain ⟨v1, vs1, d1, ds1, p1, q1, rfl, rfl, rfl, h1, r1⟩ := trodAll_cons r0
  obtain ⟨v2, vs2, d2, ds2, p2, q2, rfl, rfl, rfl, h2, r2⟩ := trodAll_cons r1
  obtain ⟨v3, vs3, d3, ds3, p3, q3, rfl, rfl, rfl, h3, r3⟩ := trodAll_cons r2
  obtain ⟨rfl, rfl, rfl⟩ := trodAll_nil r3
  obtain rfl : args = #[v0, v1, v2, v3] := by cases args; simp_all
  obtain ⟨rfl, rfl⟩ := trodVars_none hV
  have k0 := h0
  have lt0 : ∀ x ∈ p0, x.block < W.heap.size := by obtain ⟨m, hm⟩ := k0; exact DataW.trod_lt m _ _ _ hm
  have k1 := h1
  have lt1 : ∀ x ∈ p1, x.block < W.heap.size := by obtain ⟨m, hm⟩ := k1; exact DataW.trod_lt m _ _ _ hm
  have k2 := h2
  have lt2 : ∀ x ∈ p2, x.block < W.heap.size := by obtain ⟨m, hm⟩ := k2; exact DataW.trod_lt m _ _ _ hm
  have k3 := h3
  have lt3 : ∀ x ∈ p3, x.block < W.heap.size := by obtain ⟨m, hm⟩ := k3; exact DataW.trod_lt m _ _ _ hm
  obtain ⟨a1, rfl, rfl, rfl, w1⟩ := open_string Tryz.underlying9 (hval 1 9 v1 rfl rfl) h1
  obtain ⟨a2, rfl, rfl, rfl, w2⟩ := open_string Tryz.underlying9 (hval 2 9 v2 rfl rfl) h2
  have R3 := Go.X.Rd.int (P := Tryz.prog) (W := W) Tryz.underlying3 (by kernel_rfl)
  have R9 := Go.X.Rd.str (P := Tryz.prog) (W := W) Tryz.underlying9 (by kernel_rfl)
  have R107 := Go.X.Rd.struct Tryz.underlying107 (by kernel_rfl) (Go.X.RdF.cons R3 rfl (Go.X.RdF.cons R3 rfl (Go.X.RdF.cons R9 rfl (Go.X.RdF.last R3 rfl))))
  have R22 := Go.X.Rd.slice (bt := 40) Tryz.underlying22 (by kernel_rfl) (by kernel_rfl) R107
  have R4 := Go.X.Rd.bool (P := Tryz.prog) (W := W) Tryz.underlying4 (by kernel_rfl)
  have R49 := Go.X.Rd.struct Tryz.underlying49 (by kernel_rfl) (Go.X.RdF.cons R4 rfl (Go.X.RdF.cons R3 rfl (Go.X.RdF.last R3 rfl)))
  have R45 := Go.X.Rd.slice (bt := 24) Tryz.underlying45 (by kernel_rfl) (by kernel_rfl) R49
  have R47 := Go.X.Rd.struct Tryz.underlying47 (by kernel_rfl) (Go.X.RdF.cons R9 rfl (Go.X.RdF.last R45 rfl))
  have R23 := Go.X.Rd.slice (bt := 40) Tryz.underlying23 (by kernel_rfl) (by kernel_rfl) R47
  have R25 := Go.X.Rd.struct Tryz.underlying25 (by kernel_rfl) (Go.X.RdF.cons R22 rfl (Go.X.RdF.last R23 rfl))
  obtain ⟨a0, rfl, w0⟩ := R25.top_struct Tryz.underlying25 (hval 0 25 v0 rfl rfl) h0 (Go.X.fits_of hsz 0 (by kernel_rfl) rfl)
  have R38 := Go.X.Rd.slice (bt := 8) Tryz.underlying38 (by kernel_rfl) (by kernel_rfl) R3
  obtain ⟨a3, rfl, w3⟩ := R38.top_slice Tryz.underlying38 (hval 3 38 v3 rfl rfl) h3 (Go.X.fits_of hsz 3 (by kernel_rfl) rfl)
  clear hA0 hval0
  have hs := Go.X.Meets.law (Go.X.Vo.diffSaysL a0 (Go.X.bl a1) (Go.X.bl a2) a3 (fun b => W.heap[b]?) w0 (Go.X.str_fits (Go.X.fits_of (t := 9) hsz 1 (by kernel_rfl) rfl)) (Go.X.str_fits (Go.X.fits_of (t := 9) hsz 2 (by kernel_rfl) rfl)) w3)
  simp only [Go.X.SV.vals, Go.X.SV.val, Go.X.B_bl] at hs
  refine hs.mono fun e W' ⟨he, bel⟩ => ?_
  subst he
  exact ⟨_, rfl, _, _, _, [], _, [], hW', trodAll_mk1 (shut_bool Tryz.underlying4 _), (trodAll_cons_mk (Below.trod Clo.laidOut (by kernel_rfl) (of_decide_eq_true (by kernel_rfl)) k0 bel lt0) (trodAll_cons_mk (Below.trod Clo.laidOut (by kernel_rfl) (of_decide_eq_true (by kernel_rfl)) k1 bel lt1) (trodAll_cons_mk (Below.trod Clo.laidOut (by kernel_rfl) (of_decide_eq_true (by kernel_rfl)) k2 bel lt2) (trodAll_cons_mk (Below.trod Clo.laidOut (by kernel_rfl) (of_decide_eq_true (by kernel_rfl)) k3 bel lt3) trodAll_mk0)))), rfl, bel.frame _, fun h => by cases h⟩

theorem joined : joinedFacts Tryz.pinned.checked.prog 5 Tryz.f5 Rows.diffSaysSpec Rows.diffSaysRow = true := by kernel_rfl
theorem named : Tryz.pinned.checked.prog.funcNamed Rows.diffSaysRow.func = some 5 := by kernel_rfl

theorem over : Rows.diffSaysRow.holds Tryz.pinned (OpenSpec.ofChange Rows.diffSaysSpec) :=
  OpenClaim.holds_of_wide 5 Tryz.f5 rfl rfl rfl rfl rfl rfl rfl ⟨rfl, rfl, rfl, rfl, rfl⟩ rfl rfl rfl rfl rfl named Tryz.func5 joined
    (of_decide_eq_true (by kernel_rfl)) (by unfold Func.isWrapper; first | (rw [if_pos (by decide +kernel)]; kernel_rfl) | (rw [if_neg (by decide +kernel)]; exact ⟨rfl, rfl⟩))
    (fun os started H enc _ => lifted os started H enc)

theorem proved : Rows.DiffSaysCardSaid :=
  Claim7.holds_tied_plain_at .later [] [.data, .pinned] true (true, "6299582491adf3741419d31efcff5d9657d1484f607601f780269d111411d27c") false over (fun _ h => by cases h) (by kernel_rfl) (fun _ h => by cases h) diffSays_row_tie rfl ⟨rfl, rfl⟩ (by kernel_rfl) rfl
    (fun f fn hf hfn => by
      obtain rfl : f = 5 := Option.some.inj (named.symm.trans hf) |>.symm
      obtain rfl : fn = Tryz.f5 := (Option.some.inj (Tryz.func5.symm.trans hfn)).symm
      exact ⟨by kernel_rfl, fun j t ht => by
        rw [Tryz.params5] at ht
        have hm : t ∈ [25, 9, 9, 38] := by simpa using Array.mem_of_getElem? ht
        have hall : ([25, 9, 9, 38].all fun u => !Tryz.prog.wantsStandIn u) = true := by kernel_rfl
        exact (show Tryz.prog.wantsStandIn t = false by simpa using List.all_eq_true.1 hall t hm)⟩)
    (by kernel_rfl)
#print axioms proved
end Go.Proofs.YteebcojoghnlnaaGreatDoor.diffSays

