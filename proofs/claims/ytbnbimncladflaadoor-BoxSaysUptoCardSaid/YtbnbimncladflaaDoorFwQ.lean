/- The logic, thirteenth part: rows of the call's own that lie in a box. Conditions: none. -/
import Derived.Test.YtbnbimncladflaaDoorFwP
set_option linter.unusedSimpArgs false
set_option linter.unusedVariables false
set_option maxHeartbeats 4000000
set_option maxRecDepth 20000
namespace Go.X
open Go Go.RowKit
section
variable {E : Env} {σ : Sig} {H : HS} {M : Mem} {a : Act} {w : World} {ν : Nat → Value} {K : KP} {o : Oper}
theorem Heap.boxSet (hh : Heap E ν H M w) {k j : Nat} {cs : List SV} {t : Option Value} {s s0 : SV} (hk : hget H k = some (.box cs t)) (hj : cs[j]? = some s0) (hv : s.val ν = s0.val ν) : Heap E ν (hset k (.box (cs.set j s) t) H) M w := by
  refine hh.setPO (p := .box cs t) hk (fun hx => ?_)
  obtain ⟨⟨b, T, e1, e2⟩, e3⟩ := hx
  refine ⟨⟨b, T, e1, ?_⟩, e3⟩
  rw [e2]
  congr 3
  rw [SV.vals_map, SV.vals_map, List.map_set]
  apply List.ext_getElem?
  intro i
  rw [List.getElem?_set]
  split
  · rename_i ei
    subst ei
    have hjl : j < cs.length := (List.getElem?_eq_some_iff.1 hj).1
    rw [List.length_map, if_pos hjl, List.getElem?_map, hj]
    simp only [Option.map_some, hv]
  · rfl
theorem Rep.nilBox (k j e sz : Nat) {cs : List SV} {t : Option Value} (hk : hget H k = some (.box cs t)) (hj : cs[j]? = some (.v (.slice none 0 0))) (hke : (k / 8 == e) = false) (hn : hNoKey e H = true) (hs' : sigNoKey e σ = true) (hr : Rep E σ H M a w) :
    Rep E σ ((8 * e, .row sz []) :: hset k (.box (cs.set j (.own (8 * e))) t) H) M a w := by
  obtain ⟨ν, hs, hh⟩ := hr
  let ν2 : Nat → Value := fun i => if i / 8 = e then .slice none 0 0 else ν i
  have hν : ∀ i, i / 8 ≠ e → ν2 i = ν i := fun i hi => by simp [ν2, hi]
  have hν8 : ν2 (8 * e) = .slice none 0 0 := by simp [ν2, show (8 * e) / 8 = e by omega]
  have hke' : k / 8 ≠ e := by simpa using hke
  have h1 : Heap E ν2 ((8 * e, .row sz []) :: H) M w := by
    refine hh.add hn hν (fun i => ?_) ?_ (fun b hb => by rw [hν8] at hb; simp [blk?] at hb)
    · by_cases hi : i / 8 = e
      · simp [ν2, hi, Value.oneCell']
      · simp only [ν2, hi, if_false]; exact hh.one i
    · rw [hν8]
      exact ⟨fun e he => by simp at he, .inl ⟨rfl, rfl⟩⟩
  have hne : ¬ 8 * e = k := fun he => hke' (by omega)
  have h3 := h1.boxSet (k := k) (j := j) (s := .own (8 * e)) (by simp only [hget]; rw [if_neg (fun e' => hne e'.symm)]; exact hk) hj (by simp only [SV.val, hν8])
  simp only [hset, if_neg hne] at h3
  exact ⟨ν2, ⟨hs.1, hs.2.1, fun i g s hi => by rw [hs.2.2 i g s hi, SV.val_congr hν s (sigNoKey_lk hs' hi)]⟩, h3⟩
theorem LoopK.nilBox {live : List Nat} {body : Code} {Q : QP} (k j e sz : Nat) {cs : List SV} {t : Option Value} (hk : hget H k = some (.box cs t)) (hj : cs[j]? = some (.v (.slice none 0 0))) (hke : (k / 8 == e) = false) (hn : hNoKey e H = true) (hs' : sigNoKey e σ = true)
    (h : LoopK E live body Q σ ((8 * e, .row sz []) :: hset k (.box (cs.set j (.own (8 * e))) t) H) M) : LoopK E live body Q σ H M :=
  fun a w hr => h a w (hr.nilBox k j e sz hk hj hke hn hs')
/-- a row in a box gets another key -/
theorem Ent.rekeyB {S : Sig × HS × Mem} (kb j k1 e sz : Nat) (es : List (List Value)) {cs : List SV} {t : Option Value} (hk1 : hget H k1 = some (.row sz es)) (hkb : hget ((8 * e, .row sz es) :: hdelk k1 (hdel e H)) kb = some (.box cs t)) (hj : cs[j]? = some (.own k1)) (hke : (k1 / 8 == e) = false) (hn : hNoKey e (hdelk k1 (hdel e H)) = true)
    (h : Ent E (sigDrop e σ) (hset kb (.box (cs.set j (.own (8 * e))) t) ((8 * e, .row sz es) :: hdelk k1 (hdel e H))) M S) : Ent E σ H M S := by
  rintro a w ⟨ν, hs, hh⟩
  refine h a w ?_
  have hke' : k1 / 8 ≠ e := by simpa using hke
  let ν2 : Nat → Value := fun i => if i / 8 = e then ν k1 else ν i
  have hν : ∀ i, i / 8 ≠ e → ν2 i = ν i := fun i hi => by simp [ν2, hi]
  have hν8 : ν2 (8 * e) = ν k1 := by simp [ν2, show (8 * e) / 8 = e by omega]
  have hsub : (hdelk k1 (hdel e H)).Sublist H := (hdelk_sub k1 _).trans (hdel_sub e H)
  have h1 : Heap E ν2 ((8 * e, .row sz es) :: hdelk k1 (hdel e H)) M w := by
    refine (hh.sublist hsub).add hn hν (fun i => ?_) ?_ (fun b hb => ?_)
    · by_cases hi : i / 8 = e
      · simp only [ν2, hi, if_true]; exact hh.one k1
      · simp only [ν2, hi, if_false]; exact hh.one i
    · rw [hν8]
      exact hh.holds _ (hget_mem hk1)
    · rw [hν8] at hb
      obtain ⟨g1, g2⟩ := hh.apart b (List.mem_filterMap.2 ⟨(k1, _), hget_mem hk1, hb⟩)
      exact ⟨fp_hdelk hh hk1 hb e _ hsub (hdelk_ne k1 _), g1, g2⟩
  exact ⟨ν2, hs.drop hν, h1.boxSet hkb hj (by simp only [SV.val, hν8, hν k1 hke'])⟩
end
end Go.X
