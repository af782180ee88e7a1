/- Maps whose keys are strings, or ids. Conditions: none. -/
import Derived.Test.YtbnbimncladflaaFwM
set_option linter.unusedSimpArgs false
set_option linter.unusedVariables false
set_option maxHeartbeats 4000000
set_option maxRecDepth 20000
namespace Go.X
open Go Go.RowKit

theorem beqB (a b : List UInt8) : ((⟨a.toArray⟩ : ByteArray) == ⟨b.toArray⟩) = decide (a = b) := by
  show (a.toArray == b.toArray) = _
  by_cases hab : a = b
  · subst hab; simp
  · rw [decide_eq_false hab, beq_eq_false_iff_ne]
    intro e
    exact hab (by simpa using congrArg Array.toList e)
theorem KeyT.string {P : Program} {kt : TypeId} (hd : P.underlying kt = some .string) : KeyT P kt (fun s : List UInt8 => Value.string ⟨s.toArray⟩) where
  known := ⟨_, hd⟩
  check := fun e w a => MapKept.run_checkKey hd (by simp [MapKept.IsKey]) e 9999
  eq := fun w a b => by
    have h := flat_run (P := P) (w := w) 1 9999 kt [.str] (by simp [flatT, hd]) [.string ⟨a.toArray⟩] [.string ⟨b.toArray⟩] ⟨trivial, trivial⟩
    have hg : aggT P kt = false := by simp [aggT, hd]
    simp only [packV, hg, eqLv, eqV, bl, Bool.and_true] at h
    exact h
  now := fun d a b h => by
    rw [hd] at h
    cases h
    left
    show some ((⟨a.toArray⟩ : ByteArray) == ⟨b.toArray⟩) = _
    congr 1
    exact beqB a b
  same := fun a => by
    have := beqB a a
    rw [decide_eq_true rfl] at this
    exact this
abbrev Id3 := Bool × Int × Int
def encId (i : Id3) : Value := .agg #[.bool i.1, .int .i64 i.2.1, .int .i64 i.2.2]
theorem ck3 (e : Bool) (n : Nat) (w : World) (a : Id3) : (Instr.checkKey e (n + 2) 58 (encId a)).run Proofs.Try.prog w = .ok () w := by
  have hu := Proofs.Try.underlying58
  have hb := Proofs.Try.underlying4
  have hi := Proofs.Try.underlying3
  have c0 : ∀ x : Bool, (Instr.checkKey e (n + 1) 4 (.bool x)).run Proofs.Try.prog w = .ok () w := fun x => by simp only [Instr.checkKey, Sem.run_bind, run_underlying hb, Result.andThen_ok, Sem.run_pure]
  have c1 : ∀ x : Int, (Instr.checkKey e (n + 1) 3 (.int .i64 x)).run Proofs.Try.prog w = .ok () w := fun x => by simp only [Instr.checkKey, Sem.run_bind, run_underlying hi, Result.andThen_ok, Sem.run_pure]
  rw [Instr.checkKey]
  simp only [encId, Sem.run_bind, run_underlying hu, Result.andThen_ok]
  have pb : ∀ off, off < 3 → (part 4 #[.bool a.1, .int .i64 a.2.1, .int .i64 a.2.2] off).run Proofs.Try.prog w = .ok ([.bool a.1, .int .i64 a.2.1, .int .i64 a.2.2].getD off undef) w := fun off ho =>
    run_part_list (n := 1) (g := false) (l := [.bool a.1, .int .i64 a.2.1, .int .i64 a.2.2]) (Option.isSome_iff_exists.1 (by kernel_rfl)) ⟨_, hb⟩ (by kernel_rfl) (by kernel_rfl) (by simpa using ho)
  have pi : ∀ off, off < 3 → (part 3 #[.bool a.1, .int .i64 a.2.1, .int .i64 a.2.2] off).run Proofs.Try.prog w = .ok ([.bool a.1, .int .i64 a.2.1, .int .i64 a.2.2].getD off undef) w := fun off ho =>
    run_part_list (n := 1) (g := false) (l := [.bool a.1, .int .i64 a.2.1, .int .i64 a.2.2]) (Option.isSome_iff_exists.1 (by kernel_rfl)) ⟨_, hi⟩ (by kernel_rfl) (by kernel_rfl) (by simpa using ho)
  simp [pb, pi, c0, c1, Result.andThen]
theorem KeyT.id : KeyT Proofs.Try.prog 58 encId where
  known := ⟨_, Proofs.Try.underlying58⟩
  check := fun e w a => ck3 e 9998 w a
  eq := fun w a b => by
    obtain ⟨a0, a1, a2⟩ := a
    obtain ⟨b0, b1, b2⟩ := b
    have h := flat_run (P := Proofs.Try.prog) (w := w) 8 9992 58 [.bool, .int .i64, .int .i64] (by kernel_rfl) [.bool a0, .int .i64 a1, .int .i64 a2] [.bool b0, .int .i64 b1, .int .i64 b2] ⟨trivial, ⟨rfl, rfl⟩, ⟨rfl, rfl⟩, trivial⟩
    have hg : aggT Proofs.Try.prog 58 = true := by kernel_rfl
    simp only [packV, hg, if_true] at h
    refine Eq.trans h ?_
    congr 1
    simp only [eqLv, eqV, Bool.and_true, Prod.mk.injEq, Bool.decide_and, Bool.beq_eq_decide_eq]
  now := fun d a b h => by
    rw [Proofs.Try.underlying58] at h
    cases h
    right
    rfl
  same := fun a => by
    show (Instr.sameBits (9999 + 1) _ _) = true
    rw [encId, Instr.sameBits]
    simp [Instr.sameBits]
end Go.X
