/- The logic: bytes of strings. Conditions: none. -/
import Derived.Test.YtbnbimncladflaaDoorFwQ
import Derived.Laws.IdiomStrings
set_option linter.unusedSimpArgs false
set_option linter.unusedVariables false
set_option maxHeartbeats 4000000
set_option maxRecDepth 20000
namespace Go.X
open Go Go.RowKit

section
variable {E : Env} {σ : Sig} {H : HS} {M : Mem} {a : Act} {w : World} {ν : Nat → Value} {K : KP} {o : Oper}

/-- a new object becomes known -/
theorem Heap.known (hh : Heap E ν H M w) {w' : World} {ob : Obj} (hb : Below w.heap.size w w') (hn : w'.heap[w.heap.size]? = some ob) :
    ∃ M', M.le M' ∧ M' w.heap.size = some ob ∧ Heap E ν H M' w' := by
  have hw := hh.grow hb
  have hMn : M w.heap.size = none := by
    cases hM : M w.heap.size with
    | none => rfl
    | some o => have := hh.mem.lt hM; omega
  let M' : Mem := fun c => if c = w.heap.size then some ob else M c
  have hle : M.le M' := fun c o hc => by
    simp only [M']
    rw [if_neg (fun e => by rw [e, hMn] at hc; cases hc)]
    exact hc
  refine ⟨M', hle, by simp [M'], hw.holds, hw.nodup, fun b hb' => ?_, fun c o' hc => ?_, hw.below, hw.le0.trans hle, fun c hc => ?_, hw.one⟩
  · have := hh.fp_lt hb'
    simp only [M', if_neg (show b ≠ w.heap.size by omega)]
    exact hw.apart b hb'
  · simp only [M'] at hc
    split at hc
    · rename_i e
      simp only [Option.some.injEq] at hc
      subst hc e
      exact hn
    · exact hw.mem c o' hc
  · simp only [M'] at hc
    split at hc
    · rename_i e; subst e; exact .inr hh.below.size
    · exact hw.fresh c hc

theorem OpK.strBytes {s t e d : Nat} {x : Operand} {b : ByteArray} (ho : o.op = .convert s t x) (hd : o.dst = some d) (hN : decide (d < E.N) = true) (hs0 : E.P.underlying s = some .string) (ht : E.P.underlying t = some (.slice e)) (he : E.P.underlying e = some (.int .u8)) (hx : opv σ x = some (true, .v (.string b))) (hb : b.size ≤ 70368744177664)
    (hK : ∀ v M', M.le M' → RowM M' v 1 ((bl b).map encB) → K ((d, true, .v v) :: σ) H M') : OpK E o K σ H M := by
  refine opK_of fun ν a w hs hh => ?_
  have ex := hs.opv hx rfl
  have hr := run_bytes_of_string (P := E.P) w s t e b hs0 ht he
  have hge := grownCap_ge w b.size 0 e
  have hle := grownCap_le_maxLen w b.size 0 e (by simp only [maxLen]; omega)
  generalize grownCap w b.size 0 e = cap at *
  have hal := heap_alloc_at w.drew (.cells (bytesRow b cap) e ((bytesRow b cap).size, (bytesRow b cap).size + 1))
  have hdr : w.drew.heap.size = w.heap.size := rfl
  obtain ⟨M', h1, h2, h3⟩ := hh.known (w' := w.drew.alloc (.cells (bytesRow b cap) e ((bytesRow b cap).size, (bytesRow b cap).size + 1))) ((Below.refl _ w).drew.alloc (Nat.le_refl _) _) hal
  refine ⟨.slice (some ⟨w.heap.size, 0, none⟩) b.size cap, w.drew.alloc (.cells (bytesRow b cap) e ((bytesRow b cap).size, (bytesRow b cap).size + 1)), ?_, (d, true, .v (.slice (some ⟨w.heap.size, 0, none⟩) b.size cap)) :: σ, H, M', ?_, hK _ M' h1 ?_⟩
  · simp only [execOp, ho, ex, SV.val, Sem.run_bind, hr, Result.andThen_ok, Sem.run_pure]
  · rw [hd]
    exact ⟨ν, hs.put (of_decide_eq_true hN) rfl, h3⟩
  · refine ⟨⟨rfl, ?_, hge, hle⟩, fun _ => rfl, fun i c hc => ?_⟩
    · show b.size = _
      rw [List.length_map, size_bl]
    · rw [List.getElem?_map, Option.map_eq_some_iff] at hc
      obtain ⟨z, hz, rfl⟩ := hc
      refine ⟨rfl, fun j u hu => ?_⟩
      have hj : j = 0 := by
        have := (List.getElem?_eq_some_iff.1 hu).1
        simp only [encB, List.length_singleton] at this
        omega
      subst hj
      simp only [encB, List.getElem?_cons_zero, Option.some.injEq] at hu
      subst hu
      refine ⟨?_, rfl⟩
      have hadd : (⟨w.heap.size, 0, none⟩ : Addr).add (i * 1 + 0) = ⟨w.heap.size, i, none⟩ := by unfold Addr.add; split <;> simp_all
      simp only [cellE, cellM, hadd, h2]
      simp only [Option.isSome_none, Bool.false_eq_true, if_false]
      have hz' : b.data[i]? = some z := by simpa [bl] using hz
      have hi : i < b.data.size := (Array.getElem?_eq_some_iff.1 hz').1
      unfold bytesRow
      rw [Array.getElem?_append, if_pos (by simpa using hi), Array.getElem?_map, hz']
      rfl
end
end Go.X
