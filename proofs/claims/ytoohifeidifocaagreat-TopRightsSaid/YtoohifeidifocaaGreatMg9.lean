/- Contracts of functions and the logic that they are proved in (7 texts in one). Conditions: none. -/
import Derived.Test.YtoohifeidifocaaGreatMg8
import Derived.Laws.IdiomStrings
import Derived.Laws.RangeString
import Derived.Lib.OthersKept
import Derived.WalkKit
import Derived.Shelf.Lays
import Derived.Shelf.Strings.SlTrimAscii
import Derived.Test.YtoohifeidifocaaGreatMg5
import Derived.Test.YtoohifeidifocaaGreatMg7
open Nat renaming reduceAdd → zqa, reduceMul → zqb, reduceDiv → zqc, reduceEqDiff → zqd, reduceLT → zqe, reduceLeDiff → zqf, reduceBEq → zqg
open Int renaming reduceEq → zra, reduceNe → zrb, reduceLT → zrc, reduceLE → zrd, reduceAdd → zre, reduceSub → zrf, reduceMul → zrg, reduceNeg → zrh, reduceToNat → zri, cast_ofNat_Int → zrj, natCast_zero → zrk, natCast_one → zrl, toNat_natCast → zrm
namespace Go.X.Pl
end Go.X.Pl
namespace Go.X.St
end Go.X.St
namespace Go.X.Bg
end Go.X.Bg
namespace Go.X.Nm
end Go.X.Nm
set_option linter.unusedSimpArgs false
set_option linter.unusedVariables false
set_option maxHeartbeats 4000000
set_option maxRecDepth 20000
namespace Go.X
open Go Go.RowKit
section
variable {E : Env} {σ : Sig} {H : HS} {M : Mem} {a : Act} {w : World} {ν : Nat → Value} {K : KP} {o : Oper}
theorem Heap.boxSet (hh : Heap E ν H M w) {k j : Nat} {cs : List SV} {t : Option Value} {s s0 : SV} (hk : hget H k = some (.box cs t)) (hj : cs[j]? = some s0) (hv : s.val ν = s0.val ν) : Heap E ν (hset k (.box (cs.set j s) t) H) M w := by
  refine hh.setPO (p := .box cs t) hk (fun hx => ?_)
  obtain ⟨⟨b, T, e1, e2⟩, e3⟩ := hx
  refine ⟨⟨b, T, e1, ?_⟩, e3⟩
  rw [e2]
  congr 3
  rw [SV.vals_map, SV.vals_map, List.map_set]
  apply List.ext_getElem?
  intro i
  rw [List.getElem?_set]
  split
  · rename_i ei
    subst ei
    have hjl : j < cs.length := (List.getElem?_eq_some_iff.1 hj).1
    rw [List.length_map, if_pos hjl, List.getElem?_map, hj]
    simp only [Option.map_some, hv]
  · rfl
theorem Rep.nilBox (k j e sz : Nat) {cs : List SV} {t : Option Value} (hk : hget H k = some (.box cs t)) (hj : cs[j]? = some (.v (.slice none 0 0))) (hke : (k / 8 == e) = false) (hn : hNoKey e H = true) (hs' : sigNoKey e σ = true) (hr : Rep E σ H M a w) :
    Rep E σ ((8 * e, .row sz []) :: hset k (.box (cs.set j (.own (8 * e))) t) H) M a w := by
  obtain ⟨ν, hs, hh⟩ := hr
  let ν2 : Nat → Value := fun i => if i / 8 = e then .slice none 0 0 else ν i
  have hν : ∀ i, i / 8 ≠ e → ν2 i = ν i := fun i hi => by simp [ν2, hi]
  have hν8 : ν2 (8 * e) = .slice none 0 0 := by simp [ν2, show (8 * e) / 8 = e by omega]
  have hke' : k / 8 ≠ e := by simpa using hke
  have h1 : Heap E ν2 ((8 * e, .row sz []) :: H) M w := by
    refine hh.add hn hν (fun i => ?_) ?_ (fun b hb => by rw [hν8] at hb; simp [blk?] at hb)
    · by_cases hi : i / 8 = e
      · simp [ν2, hi, Value.oneCell']
      · simp only [ν2, hi, if_false]; exact hh.one i
    · rw [hν8]
      exact ⟨fun e he => by simp at he, .inl ⟨rfl, rfl⟩⟩
  have hne : ¬ 8 * e = k := fun he => hke' (by omega)
  have h3 := h1.boxSet (k := k) (j := j) (s := .own (8 * e)) (by simp only [hget]; rw [if_neg (fun e' => hne e'.symm)]; exact hk) hj (by simp only [SV.val, hν8])
  simp only [hset, if_neg hne] at h3
  exact ⟨ν2, ⟨hs.1, hs.2.1, fun i g s hi => by rw [hs.2.2 i g s hi, SV.val_congr hν s (sigNoKey_lk hs' hi)]⟩, h3⟩
theorem LoopK.nilBox {live : List Nat} {body : Code} {Q : QP} (k j e sz : Nat) {cs : List SV} {t : Option Value} (hk : hget H k = some (.box cs t)) (hj : cs[j]? = some (.v (.slice none 0 0))) (hke : (k / 8 == e) = false) (hn : hNoKey e H = true) (hs' : sigNoKey e σ = true)
    (h : LoopK E live body Q σ ((8 * e, .row sz []) :: hset k (.box (cs.set j (.own (8 * e))) t) H) M) : LoopK E live body Q σ H M :=
  fun a w hr => h a w (hr.nilBox k j e sz hk hj hke hn hs')
/-- a row in a box gets another key -/
theorem Ent.rekeyB {S : Sig × HS × Mem} (kb j k1 e sz : Nat) (es : List (List Value)) {cs : List SV} {t : Option Value} (hk1 : hget H k1 = some (.row sz es)) (hkb : hget ((8 * e, .row sz es) :: hdelk k1 (hdel e H)) kb = some (.box cs t)) (hj : cs[j]? = some (.own k1)) (hke : (k1 / 8 == e) = false) (hn : hNoKey e (hdelk k1 (hdel e H)) = true)
    (h : Ent E (sigDrop e σ) (hset kb (.box (cs.set j (.own (8 * e))) t) ((8 * e, .row sz es) :: hdelk k1 (hdel e H))) M S) : Ent E σ H M S := by
  rintro a w ⟨ν, hs, hh⟩
  refine h a w ?_
  have hke' : k1 / 8 ≠ e := by simpa using hke
  let ν2 : Nat → Value := fun i => if i / 8 = e then ν k1 else ν i
  have hν : ∀ i, i / 8 ≠ e → ν2 i = ν i := fun i hi => by simp [ν2, hi]
  have hν8 : ν2 (8 * e) = ν k1 := by simp [ν2, show (8 * e) / 8 = e by omega]
  have hsub : (hdelk k1 (hdel e H)).Sublist H := (hdelk_sub k1 _).trans (hdel_sub e H)
  have h1 : Heap E ν2 ((8 * e, .row sz es) :: hdelk k1 (hdel e H)) M w := by
    refine (hh.sublist hsub).add hn hν (fun i => ?_) ?_ (fun b hb => ?_)
    · by_cases hi : i / 8 = e
      · simp only [ν2, hi, if_true]; exact hh.one k1
      · simp only [ν2, hi, if_false]; exact hh.one i
    · rw [hν8]
      exact hh.holds _ (hget_mem hk1)
    · rw [hν8] at hb
      obtain ⟨g1, g2⟩ := hh.apart b (List.mem_filterMap.2 ⟨(k1, _), hget_mem hk1, hb⟩)
      exact ⟨fp_hdelk hh hk1 hb e _ hsub (hdelk_ne k1 _), g1, g2⟩
  exact ⟨ν2, hs.drop hν, h1.boxSet hkb hj (by simp only [SV.val, hν8, hν k1 hke'])⟩
end
end Go.X

namespace Go.X
open Go Go.RowKit

section
variable {E : Env} {σ : Sig} {H : HS} {M : Mem} {a : Act} {w : World} {ν : Nat → Value} {K : KP} {o : Oper}

/-- a new object becomes known -/
theorem Heap.known (hh : Heap E ν H M w) {w' : World} {ob : Obj} (hb : Below w.heap.size w w') (hn : w'.heap[w.heap.size]? = some ob) :
    ∃ M', M.le M' ∧ M' w.heap.size = some ob ∧ Heap E ν H M' w' := by
  have hw := hh.grow hb
  have hMn : M w.heap.size = none := by
    cases hM : M w.heap.size with
    | none => rfl
    | some o => have := hh.mem.lt hM; omega
  let M' : Mem := fun c => if c = w.heap.size then some ob else M c
  have hle : M.le M' := fun c o hc => by
    simp only [M']
    rw [if_neg (fun e => by rw [e, hMn] at hc; cases hc)]
    exact hc
  refine ⟨M', hle, by simp [M'], hw.holds, hw.nodup, fun b hb' => ?_, fun c o' hc => ?_, hw.below, hw.le0.trans hle, fun c hc => ?_, hw.one⟩
  · have := hh.fp_lt hb'
    simp only [M', if_neg (show b ≠ w.heap.size by omega)]
    exact hw.apart b hb'
  · simp only [M'] at hc
    split at hc
    · rename_i e
      simp only [Option.some.injEq] at hc
      subst hc e
      exact hn
    · exact hw.mem c o' hc
  · simp only [M'] at hc
    split at hc
    · rename_i e; subst e; exact .inr hh.below.size
    · exact hw.fresh c hc

end
end Go.X

namespace Go.X
open Go Go.RowKit
/-- known memory, block b another one -/
def updM (M : Mem) (b : Nat) (o : Obj) : Mem := fun c => if c = b then some o else M c
/-- known memory without block b -/
def offM (M : Mem) (b : Nat) : Mem := fun c => if c = b then none else M c
theorem updM_at (M : Mem) (b : Nat) (o : Obj) : updM M b o b = some o := by simp [updM]
theorem le_updM {M N : Mem} {b : Nat} {o : Obj} (h : N.le M) (hb : N b = none) : N.le (updM M b o) := fun c x hc => by
  unfold updM
  rw [if_neg (fun e => by rw [e, hb] at hc; cases hc)]
  exact h c x hc
theorem offM_le (M : Mem) (b : Nat) : (offM M b).le M := fun c x hc => by
  unfold offM at hc
  split at hc
  · cases hc
  · exact hc
theorem le_offM {M N : Mem} {b : Nat} (h : N.le M) (hb : N b = none) : N.le (offM M b) := fun c x hc => by
  unfold offM
  rw [if_neg (fun e => by rw [e, hb] at hc; cases hc)]
  exact h c x hc
section
variable {E : Env} {σ : Sig} {H : HS} {M : Mem} {a : Act} {w : World} {ν : Nat → Value} {K : KP} {o : Oper}

theorem Heap.off (hh : Heap E ν H M w) {b : Nat} (h0 : E.M0 b = none) : Heap E ν H (offM M b) w := by
  refine ⟨hh.holds, hh.nodup, fun c hc => ⟨?_, (hh.apart c hc).2⟩, fun c x hc => hh.mem c x (offM_le M b c x hc), hh.below, le_offM hh.le0 h0, fun c hc => hh.fresh c ?_, hh.one⟩
  · unfold offM
    split
    · rfl
    · exact (hh.apart c hc).1
  · intro e
    unfold offM at hc
    split at hc
    · exact hc rfl
    · exact hc e
/-- a known block is another one -/
theorem Heap.turnM (hh : Heap E ν H M w) {b : Nat} {x x' : Obj} (hb : M b = some x) (h0 : E.M0 b = none) {w' : World} (hw : ∀ j, j ≠ b → w'.heap[j]? = w.heap[j]?) (hz : w'.heap.size = w.heap.size) (ho : w'.os = w.os ∧ w'.tape = w.tape ∧ w'.output = w.output) (hn : w'.heap[b]? = some x') :
    Heap E ν H (updM M b x') w' := by
  have hbs : E.w0.heap.size ≤ b := (hh.fresh b (by rw [hb]; exact fun e => by cases e)).resolve_left (fun e => e h0)
  have hf : ∀ c ∈ fp ν H, c ≠ b := fun c hc e => by
    have := (hh.apart c hc).1
    rw [e, hb] at this
    cases this
  have h1 := (hh.off h0).moved (w' := w') (fun c hc => hw c (hf c hc)) (fun c y hc => by
      have hne : c ≠ b := fun e => by simp [offM, e] at hc
      rw [hw c hne]
      exact hh.mem c y (offM_le M b c y hc))
    (hh.below.trans ⟨ho.1, ho.2.1, ho.2.2, Nat.le_of_eq hz.symm, fun k hk => hw k (by omega)⟩)
  refine ⟨h1.holds, h1.nodup, fun c hc => ⟨?_, (h1.apart c hc).2⟩, fun c y hc => ?_, h1.below, le_updM hh.le0 h0, fun c hc => ?_, h1.one⟩
  · unfold updM
    rw [if_neg (hf c hc)]
    exact (hh.apart c hc).1
  · unfold updM at hc
    split at hc
    · rename_i e
      cases hc
      rw [e]; exact hn
    · rename_i e
      rw [hw c e]
      exact hh.mem c y hc
  · unfold updM at hc
    split at hc
    · rename_i e
      exact .inr (by omega)
    · exact hh.fresh c hc
/-! ### a range over a string: its iterator -/
variable {g : Bool} {d : Option Nat} {ty : TypeId} {pos : String} {aft : Array Edge} {gd : Option (Nat × Bool)}
end
end Go.X
namespace Go.X
open Go Go.RowKit
theorem Meets.nilOr {P : Program} {f : FuncId} {args : List SV} {sz : Nat} {M : Mem} {T : SV → SV} {es : List (List Value)} (hT : Ctx T) (h : Meets P f args M (fun r H M' => (r = T (.v (.slice none 0 0)) ∧ es = []) ∨ OwnR T sz es r H M')) : Meets P f args M (OwnR T sz es) := by
  refine ⟨h.1, fun w hw => (h.2 w hw).mono ?_⟩
  rintro e w' ⟨s, H', M', ν, h1, hh, h2⟩
  rcases h2 with ⟨rfl, rfl⟩ | h2
  · refine ⟨T (.own 0), [(0, .row sz [])], M', fun _ => .slice none 0 0, ?_, ⟨fun p hp => ?_, by simp [fp, blk?], by simp [fp, blk?], hh.mem, hh.below, hh.le0, hh.fresh, fun _ => rfl⟩, 0, rfl, rfl⟩
    · rw [h1, hT (.v (.slice none 0 0)) (.own 0) ν (fun _ => .slice none 0 0) rfl]
    · simp only [List.mem_singleton] at hp
      subst hp
      exact ⟨fun e he => by simp at he, .inl ⟨rfl, rfl⟩⟩
  · exact ⟨s, H', M', ν, h1, hh, h2⟩
theorem Meets.rows {T : SV → SV} {sz : Nat} {es : List (List Value)} {P : Program} {f : FuncId} {args : List SV} {M : Mem} (h : Meets P f args M (OwnR T sz es)) : Meets P f args M (RowR T sz es) :=
  h.mono fun _ _ _ _ ⟨k, h1, h2⟩ => ⟨.own k, h1, h2⟩
theorem fidx_sp {α : Type} (p : α → Bool) : ∀ (l : List α) (i : Nat), (fidx p l i = -1 ∧ ∀ x ∈ l, p x = false) ∨ ∃ j x, fidx p l i = ((i + j : Nat) : Int) ∧ l[j]? = some x ∧ p x = true ∧ ∀ q y, q < j → l[q]? = some y → p y = false
  | [], i => .inl ⟨rfl, fun x hx => by cases hx⟩
  | a :: l, i => by
    cases ha : p a with
    | true => exact .inr ⟨0, a, by simp [fidx, ha], rfl, ha, fun q y hq => by omega⟩
    | false =>
      rcases fidx_sp p l (i + 1) with ⟨h1, h2⟩ | ⟨j, x, h1, h2, h3, h4⟩
      · refine .inl ⟨by simp [fidx, ha, h1], fun x hx => ?_⟩
        rcases List.mem_cons.1 hx with rfl | hx
        · exact ha
        · exact h2 x hx
      · refine .inr ⟨j + 1, x, by simp only [fidx, ha]; simp; rw [h1]; omega, h2, h3, fun q y hq hy => ?_⟩
        cases q with
        | zero => simp at hy; subst hy; exact ha
        | succ q => exact h4 q y (by omega) hy
theorem fidx_map {α β : Type} (g : α → β) (p : β → Bool) : ∀ (l : List α) (i : Nat), fidx p (l.map g) i = fidx (fun x => p (g x)) l i
  | [], _ => rfl
  | a :: l, i => by
    simp only [List.map_cons, fidx]
    split
    · rfl
    · exact fidx_map g p l (i + 1)
end Go.X

namespace Go.X.St
open Go Go.X Go.RowKit

theorem Meets.ofCalls {P : Program} {f : FuncId} {args : List SV} {M : Mem} {v : Value} (hc : callable P f)
    (h : ∀ w, Calls P f (SV.vals ν0 args).toArray w fun e w' => e = .returned v ∧ Below w.heap.size w w') : Meets P f args M fun r _ _ => r = .v v :=
  ⟨hc, fun w hw => (h w).mono fun e w' ⟨he, hb⟩ => ⟨.v v, [], M, ν0, he,
    Heap.grow (E := ⟨P, 0, w, M⟩) (ν := ν0) (H := []) (M := M) (w := w) ⟨by simp, List.nodup_nil, by simp [fp], hw, Below.refl _ _, Mem.le.refl _, fun b hb => .inl hb, fun k => rfl⟩ hb, rfl⟩⟩
end Go.X.St

namespace Go.X.Nm
open Go Go.X Go.RowKit Go.X.Pl Go.X.St

def okC (b : UInt8) : Bool := decide (97 ≤ b.toNat ∧ b.toNat ≤ 122) || decide (48 ≤ b.toNat ∧ b.toNat ≤ 57)
def nmB (s : List UInt8) : Bool := decide (0 < s.length ∧ s.length ≤ 12) && s.all okC
theorem strIx_at {s : List UInt8} {i : Nat} {b : UInt8} (h : s[i]? = some b) : strIx s (i : Int) = ((b.toNat : Nat) : Int) := by
  unfold strIx
  rw [zrm, List.getD_eq_getElem?_getD, h]
  rfl
theorem nameW (s : List UInt8) (M : Mem) :
    Meets Proofs.Tryz.prog 55 [.v (.string ⟨s.toArray⟩)] M fun r _ _ => r = .v (.bool (nmB s)) := by
  refine Meets.of_body [0,2,3,10,12,13,14,38] Proofs.Tryz.func55 rfl (by kernel_rfl) rfl fun w => ?_
  generalize hc : nmB s = c
  unfold nmB at hc
  by_cases h0 : s = []
  · subst h0
    rw [show c = false by rw [← hc]; rfl]
    simp only [Proofs.Tryz.f55, shs, zts, sos, sls, zss, eqs, sx, sb1, sb2, sb3, sb4, sb5, sb6, sb7, ↓reduceIte, zqa, zqb, zqc, zqd, zqe, zqf, reduceCtorEq, zra, zrb, zrc, zrd, zre, zrf, zrg, zrh, zri, zrj, zrk, zrl, zrm, zqg, nzs]
  have d0 := eq_false h0
  have hl := List.length_pos_iff.2 h0
  by_cases h1 : 12 < s.length
  · have d1 : ((12 : Int) < (s.length : Int)) = True := eq_true (by omega)
    rw [show c = false by rw [← hc, decide_eq_false (by omega)]; rfl]
    simp only [Proofs.Tryz.f55, shs, zts, sos, sls, zss, eqs, sx, sb1, sb2, sb3, sb4, sb5, sb6, sb7, ↓reduceIte, zqa, zqb, zqc, zqd, zqe, zqf, reduceCtorEq, zra, zrb, zrc, zrd, zre, zrf, zrg, zrh, zri, zrj, zrk, zrl, zrm, zqg, nzs, d0, d1]
  have d1 : ((12 : Int) < (s.length : Int)) = False := eq_false (by omega)
  rw [decide_eq_true (by omega), Bool.true_and] at hc
  simp only [Proofs.Tryz.f55, shs, zts, sos, sls, zss, eqs, sx, sb1, sb2, sb3, sb4, sb5, sb6, sb7, ↓reduceIte, zqa, zqb, zqc, zqd, zqe, zqf, reduceCtorEq, zra, zrb, zrc, zrd, zre, zrf, zrg, zrh, zri, zrj, zrk, zrl, zrm, zqg, nzs, d0, d1]
  refine LoopK.go (X := Nat × Nat) (fun x => ([(0, true, .v (.string ⟨s.toArray⟩)), (12, true, .v (.int .i64 s.length)), (13, true, .v (.int .i64 (x.2 : Int)))], [], M))
    (fun x => x.1 + x.2 = s.length ∧ (s.drop x.2).all okC = c) (fun x => x.1) (s.length, 0) ⟨rfl, hc⟩ (Ent.of ?_) ?_
  · simp only [sx, sb1, sb2, sb3, sb4, sb5, sb6, sb7, ↓reduceIte, zqa, zqb, zqc, zqd, zqe, zqf, reduceCtorEq, zra, zrb, zrc, zrd, zre, zrf, zrg, zrh, zri, zrj, zrk, zrl, zrm, zqg]
  rintro ⟨f, i⟩ ⟨g1, g3⟩
  simp only at g1 g3
  by_cases hil : i < s.length
  · have c1 : ((i : Int) < (s.length : Int)) = True := eq_true (by omega)
    obtain ⟨b, hb1, hd⟩ := l_drop_at (l := s) (i := i) hil
    have e1 := strIx_at hb1
    rw [hd, List.all_cons] at g3
    have hgo : okC b = true → (s.drop (i + 1)).all okC = c := fun h => by rw [h, Bool.true_and] at g3; exact g3
    have hno : okC b = false → c = false := fun h => by rw [h, Bool.false_and] at g3; exact g3.symm
    by_cases a1 : 97 ≤ b.toNat
    · have k1 : ((97 : Int) ≤ ((b.toNat : Nat) : Int)) = True := eq_true (by omega)
      by_cases a2 : b.toNat ≤ 122
      · have k2 : (((b.toNat : Nat) : Int) ≤ 122) = True := eq_true (by omega)
        have ho : okC b = true := by unfold okC; rw [decide_eq_true ⟨a1, a2⟩]; rfl
        simp only [shs, zts, sos, sls, zss, eqs, sx, sb1, sb2, sb3, sb4, sb5, sb6, sb7, ↓reduceIte, zqa, zqb, zqc, zqd, zqe, zqf, reduceCtorEq, zra, zrb, zrc, zrd, zre, zrf, zrg, zrh, zri, zrj, zrk, zrl, zrm, zqg, nzs, c1, e1, k1, k2, inK, lo, hi]
        refine ⟨by omega, by omega, by omega, (f - 1, i + 1), ⟨⟨by simp only; omega, hgo ho⟩, by simp only; omega⟩, Ent.of ?_⟩
        simp only [sx, sb1, sb2, sb3, sb4, sb5, sb6, sb7, ↓reduceIte, zqa, zqb, zqc, zqd, zqe, zqf, reduceCtorEq, zra, zrb, zrc, zrd, zre, zrf, zrg, zrh, zri, zrj, zrk, zrl, zrm, zqg, Int.natCast_add]
      · have k2 : (((b.toNat : Nat) : Int) ≤ 122) = False := eq_false (by omega)
        have k3 : ((48 : Int) ≤ ((b.toNat : Nat) : Int)) = True := eq_true (by omega)
        have k4 : (((b.toNat : Nat) : Int) ≤ 57) = False := eq_false (by omega)
        have ho : okC b = false := by unfold okC; rw [decide_eq_false (by omega), decide_eq_false (by omega)]; rfl
        simp only [shs, zts, sos, sls, zss, eqs, sx, sb1, sb2, sb3, sb4, sb5, sb6, sb7, ↓reduceIte, zqa, zqb, zqc, zqd, zqe, zqf, reduceCtorEq, zra, zrb, zrc, zrd, zre, zrf, zrg, zrh, zri, zrj, zrk, zrl, zrm, zqg, nzs, c1, e1, k1, k2, k3, k4, hno ho, inK, lo, hi]
        omega
    · have k1 : ((97 : Int) ≤ ((b.toNat : Nat) : Int)) = False := eq_false (by omega)
      by_cases a3 : 48 ≤ b.toNat
      · have k3 : ((48 : Int) ≤ ((b.toNat : Nat) : Int)) = True := eq_true (by omega)
        by_cases a4 : b.toNat ≤ 57
        · have k4 : (((b.toNat : Nat) : Int) ≤ 57) = True := eq_true (by omega)
          have ho : okC b = true := by unfold okC; rw [decide_eq_false (by omega), decide_eq_true ⟨a3, a4⟩]; rfl
          simp only [shs, zts, sos, sls, zss, eqs, sx, sb1, sb2, sb3, sb4, sb5, sb6, sb7, ↓reduceIte, zqa, zqb, zqc, zqd, zqe, zqf, reduceCtorEq, zra, zrb, zrc, zrd, zre, zrf, zrg, zrh, zri, zrj, zrk, zrl, zrm, zqg, nzs, c1, e1, k1, k3, k4, inK, lo, hi]
          refine ⟨by omega, by omega, by omega, by omega, (f - 1, i + 1), ⟨⟨by simp only; omega, hgo ho⟩, by simp only; omega⟩, Ent.of ?_⟩
          simp only [sx, sb1, sb2, sb3, sb4, sb5, sb6, sb7, ↓reduceIte, zqa, zqb, zqc, zqd, zqe, zqf, reduceCtorEq, zra, zrb, zrc, zrd, zre, zrf, zrg, zrh, zri, zrj, zrk, zrl, zrm, zqg, Int.natCast_add]
        · have k4 : (((b.toNat : Nat) : Int) ≤ 57) = False := eq_false (by omega)
          have ho : okC b = false := by unfold okC; rw [decide_eq_false (by omega), decide_eq_false (by omega)]; rfl
          simp only [shs, zts, sos, sls, zss, eqs, sx, sb1, sb2, sb3, sb4, sb5, sb6, sb7, ↓reduceIte, zqa, zqb, zqc, zqd, zqe, zqf, reduceCtorEq, zra, zrb, zrc, zrd, zre, zrf, zrg, zrh, zri, zrj, zrk, zrl, zrm, zqg, nzs, c1, e1, k1, k3, k4, hno ho, inK, lo, hi]
          omega
      · have k3 : ((48 : Int) ≤ ((b.toNat : Nat) : Int)) = False := eq_false (by omega)
        have ho : okC b = false := by unfold okC; rw [decide_eq_false (by omega), decide_eq_false (by omega)]; rfl
        simp only [shs, zts, sos, sls, zss, eqs, sx, sb1, sb2, sb3, sb4, sb5, sb6, sb7, ↓reduceIte, zqa, zqb, zqc, zqd, zqe, zqf, reduceCtorEq, zra, zrb, zrc, zrd, zre, zrf, zrg, zrh, zri, zrj, zrk, zrl, zrm, zqg, nzs, c1, e1, k1, k3, hno ho, inK, lo, hi]
        omega
  · have c1 : ((i : Int) < (s.length : Int)) = False := eq_false (by omega)
    rw [List.drop_eq_nil_of_le (by omega)] at g3
    rw [show c = true from g3.symm]
    simp only [shs, zts, sos, sls, zss, eqs, sx, sb1, sb2, sb3, sb4, sb5, sb6, sb7, ↓reduceIte, zqa, zqb, zqc, zqd, zqe, zqf, reduceCtorEq, zra, zrb, zrc, zrd, zre, zrf, zrg, zrh, zri, zrj, zrk, zrl, zrm, zqg, nzs, c1]
/-! the reference's -/
end Go.X.Nm

namespace Go.X
open Go Go.RowKit

theorem beqB (a b : List UInt8) : ((⟨a.toArray⟩ : ByteArray) == ⟨b.toArray⟩) = decide (a = b) := by
  show (a.toArray == b.toArray) = _
  by_cases hab : a = b
  · subst hab; simp
  · rw [decide_eq_false hab, beq_eq_false_iff_ne]
    intro e
    exact hab (by simpa using congrArg Array.toList e)
theorem KeyT.string {P : Program} {kt : TypeId} (hd : P.underlying kt = some .string) : KeyT P kt (fun s : List UInt8 => Value.string ⟨s.toArray⟩) where
  known := ⟨_, hd⟩
  check := fun e w a => MapKept.run_checkKey hd (by simp [MapKept.IsKey]) e 9999
  eq := fun w a b => by
    have h := flat_run (P := P) (w := w) 1 9999 kt [.str] (by simp [flatT, hd]) [.string ⟨a.toArray⟩] [.string ⟨b.toArray⟩] ⟨trivial, trivial⟩
    have hg : aggT P kt = false := by simp [aggT, hd]
    simp only [packV, hg, eqLv, eqV, bl, Bool.and_true] at h
    exact h
  now := fun d a b h => by
    rw [hd] at h
    cases h
    left
    show some ((⟨a.toArray⟩ : ByteArray) == ⟨b.toArray⟩) = _
    congr 1
    exact beqB a b
  same := fun a => by
    have := beqB a a
    rw [decide_eq_true rfl] at this
    exact this
abbrev Id3 := Bool × Int × Int
def encId (i : Id3) : Value := .agg #[.bool i.1, .int .i64 i.2.1, .int .i64 i.2.2]
theorem ck3 (e : Bool) (n : Nat) (w : World) (a : Id3) : (Instr.checkKey e (n + 2) 89 (encId a)).run Proofs.Tryz.prog w = .ok () w := by
  have hu := Proofs.Tryz.underlying89
  have hb := Proofs.Tryz.underlying4
  have hi := Proofs.Tryz.underlying3
  have c0 : ∀ x : Bool, (Instr.checkKey e (n + 1) 4 (.bool x)).run Proofs.Tryz.prog w = .ok () w := fun x => by simp only [Instr.checkKey, Sem.run_bind, run_underlying hb, Result.andThen_ok, Sem.run_pure]
  have c1 : ∀ x : Int, (Instr.checkKey e (n + 1) 3 (.int .i64 x)).run Proofs.Tryz.prog w = .ok () w := fun x => by simp only [Instr.checkKey, Sem.run_bind, run_underlying hi, Result.andThen_ok, Sem.run_pure]
  rw [Instr.checkKey]
  simp only [encId, Sem.run_bind, run_underlying hu, Result.andThen_ok]
  have pb : ∀ off, off < 3 → (part 4 #[.bool a.1, .int .i64 a.2.1, .int .i64 a.2.2] off).run Proofs.Tryz.prog w = .ok ([.bool a.1, .int .i64 a.2.1, .int .i64 a.2.2].getD off undef) w := fun off ho =>
    run_part_list (n := 1) (g := false) (l := [.bool a.1, .int .i64 a.2.1, .int .i64 a.2.2]) (Option.isSome_iff_exists.1 (by kernel_rfl)) ⟨_, hb⟩ (by kernel_rfl) (by kernel_rfl) (by simpa using ho)
  have pi : ∀ off, off < 3 → (part 3 #[.bool a.1, .int .i64 a.2.1, .int .i64 a.2.2] off).run Proofs.Tryz.prog w = .ok ([.bool a.1, .int .i64 a.2.1, .int .i64 a.2.2].getD off undef) w := fun off ho =>
    run_part_list (n := 1) (g := false) (l := [.bool a.1, .int .i64 a.2.1, .int .i64 a.2.2]) (Option.isSome_iff_exists.1 (by kernel_rfl)) ⟨_, hi⟩ (by kernel_rfl) (by kernel_rfl) (by simpa using ho)
  simp [pb, pi, c0, c1, Result.andThen]
theorem KeyT.id : KeyT Proofs.Tryz.prog 89 encId where
  known := ⟨_, Proofs.Tryz.underlying89⟩
  check := fun e w a => ck3 e 9998 w a
  eq := fun w a b => by
    obtain ⟨a0, a1, a2⟩ := a
    obtain ⟨b0, b1, b2⟩ := b
    have h := flat_run (P := Proofs.Tryz.prog) (w := w) 8 9992 89 [.bool, .int .i64, .int .i64] (by kernel_rfl) [.bool a0, .int .i64 a1, .int .i64 a2] [.bool b0, .int .i64 b1, .int .i64 b2] ⟨trivial, ⟨rfl, rfl⟩, ⟨rfl, rfl⟩, trivial⟩
    have hg : aggT Proofs.Tryz.prog 89 = true := by kernel_rfl
    simp only [packV, hg, if_true] at h
    refine Eq.trans h ?_
    congr 1
    simp only [eqLv, eqV, Bool.and_true, Prod.mk.injEq, Bool.decide_and, Bool.beq_eq_decide_eq]
  now := fun d a b h => by
    rw [Proofs.Tryz.underlying89] at h
    cases h
    right
    rfl
  same := fun a => by
    show (Instr.sameBits (9999 + 1) _ _) = true
    rw [encId, Instr.sameBits]
    simp [Instr.sameBits]
end Go.X

namespace Go.X.Vo
open Go Go.X Go.RowKit Go.X.Bg Go.X.Nm

/-- name, blocks -/
abbrev Vol := List UInt8 × List Id3
/-- the slice of a volume's blocks, and the volume -/
abbrev WV := Value × Vol
def encI3 (i : Id3) : List Value := [.bool i.1, .int .i64 i.2.1, .int .i64 i.2.2]
def encV (w : WV) : List Value := [.string ⟨w.2.1.toArray⟩, w.1]
structure VolsM (M : Mem) (v : Value) (ws : List WV) : Prop where
  row : RowM M v 2 (ws.map encV)
  blk : ∀ w ∈ ws, RowM M w.1 3 (w.2.2.map encI3)
theorem VolsM.le {M M' : Mem} {v : Value} {ws : List WV} (h : VolsM M v ws) (hl : M.le M') : VolsM M' v ws := ⟨h.row.le hl, fun w hw => (h.blk w hw).le hl⟩
def stV (b v : Value) : SV := .agg [.v b, .v v]
theorem vol_at {M : Mem} {v : Value} {ws : List WV} {i : Nat} {r : WV} (h : VolsM M v ws) (hx : ws[i]? = some r) :
    (elE M v 2 i 0 = .string ⟨r.2.1.toArray⟩ ∧ okE M v 2 i 0) ∧ (elE M v 2 i 1 = r.1 ∧ okE M v 2 i 1) ∧ ixOk v (i : Int) := by
  have he : (ws.map encV)[i]? = some (encV r) := by rw [List.getElem?_map, hx]; rfl
  have g0 := h.row.cell he (off := 0) (by omega)
  have g1 := h.row.cell he (off := 1) (by omega)
  have hi := (List.getElem?_eq_some_iff.1 hx).1
  exact ⟨⟨g0.1, g0.2.1⟩, ⟨g1.1, g1.2.1⟩, h.row.ix (i := (i : Int)) (by omega) (by rw [List.length_map]; omega)⟩
theorem id_at {M : Mem} {v : Value} {l : List Id3} {i : Nat} {r : Id3} (h : RowM M v 3 (l.map encI3)) (hx : l[i]? = some r) :
    (elE M v 3 i 0 = .bool r.1 ∧ okE M v 3 i 0) ∧ (elE M v 3 i 1 = .int .i64 r.2.1 ∧ okE M v 3 i 1) ∧ (elE M v 3 i 2 = .int .i64 r.2.2 ∧ okE M v 3 i 2) ∧ ixOk v (i : Int) := by
  have he : (l.map encI3)[i]? = some (encI3 r) := by rw [List.getElem?_map, hx]; rfl
  have g0 := h.cell he (off := 0) (by omega)
  have g1 := h.cell he (off := 1) (by omega)
  have g2 := h.cell he (off := 2) (by omega)
  have hi := (List.getElem?_eq_some_iff.1 hx).1
  exact ⟨⟨g0.1, g0.2.1⟩, ⟨g1.1, g1.2.1⟩, ⟨g2.1, g2.2.1⟩, h.ix (i := (i : Int)) (by omega) (by rw [List.length_map]; omega)⟩
/-! what is right -/
def idE (bag : List It) (id : Id3) : Int := if id.1 = false ∧ ¬ (id.2.1 = 0 ∧ id.2.2 = 0) then 3 else if id.1 = true ∧ fidx (isId id) bag 0 < 0 then 4 else 0
def goI (bag : List It) : List Id3 → Int
  | [] => 0
  | x :: r => if idE bag x ≠ 0 then idE bag x else goI bag r
def nameBad : Option (List UInt8) → List UInt8 → Bool
  | none, _ => false
  | some q, n => !(Op.bytesLess q n)
def goV (bag : List It) : Option (List UInt8) → List Vol → Int
  | _, [] => 0
  | p, v :: r => if nmB v.1 = false ∨ nameBad p v.1 = true then 3 else if 32 < v.2.length then 2 else if goI bag v.2 ≠ 0 then goI bag v.2 else goV bag (some v.1) r
def volsE (bag : List It) (l : List Vol) : Int := if 6 < l.length then 2 else goV bag none l
def prevN (l : List WV) (i : Nat) : Option (List UInt8) := match i with
  | 0 => none
  | j + 1 => (l[j]?).map (·.2.1)

theorem volumes (b v : Value) (bag : List It) (ws : List WV) (M : Mem) (hb : RowM M b 4 (bag.map Bg.encT)) (hv : VolsM M v ws) :
    Meets Proofs.Tryz.prog 73 [stV b v] M fun r _ _ => r = .v (.int .i64 (volsE bag (ws.map (·.2)))) := by
  refine Meets.of_body [0,1,2,3,4,6,10,12,13,14,15,38,42,44,45,46,47,57,66] Proofs.Tryz.func73 rfl (by kernel_rfl) rfl fun w => ?_
  generalize hc : volsE bag (ws.map (·.2)) = c
  unfold volsE at hc
  rw [List.length_map] at hc
  have hvl := hv.row.len_le
  rw [List.length_map] at hvl
  by_cases h6 : 6 < ws.length
  · have c6 : ((6 : Int) < (ws.length : Int)) = True := eq_true (by omega)
    rw [if_pos h6] at hc
    subst hc
    simp only [Proofs.Tryz.f73, stV, shs, zts, sos, sls, zss, eqs, sx, sb1, sb2, sb3, sb4, sb5, sb6, sb7, ↓reduceIte, zqa, zqb, zqc, zqd, zqe, zqf, reduceCtorEq, zra, zrb, zrc, zrd, zre, zrf, zrg, zrh, zri, zrj, zrk, zrl, zrm, zqg, nzs, hv.row.len, hv.row.sl, List.length_map, c6]
  have c6 : ((6 : Int) < (ws.length : Int)) = False := eq_false (by omega)
  rw [if_neg h6] at hc
  simp only [Proofs.Tryz.f73, stV, shs, zts, sos, sls, zss, eqs, sx, sb1, sb2, sb3, sb4, sb5, sb6, sb7, ↓reduceIte, zqa, zqb, zqc, zqd, zqe, zqf, reduceCtorEq, zra, zrb, zrc, zrd, zre, zrf, zrg, zrh, zri, zrj, zrk, zrl, zrm, zqg, nzs, hv.row.len, hv.row.sl, List.length_map, c6]
  refine LoopK.go (X := Nat × Nat) (fun x => ([(0, true, .agg [.v b, .v v]), (1, true, .ptr 8 0 0 0), (2, true, .v (.int .i64 0)), (12, true, .v v), (13, true, .v (.int .i64 ws.length)), (14, true, .v (.int .i64 x.2))], [(8, .box [.v b, .v v] none)], M))
    (fun x => x.1 + x.2 = ws.length ∧ goV bag (prevN ws x.2) ((ws.drop x.2).map (·.2)) = c) (fun x => x.1) (ws.length, 0) ⟨rfl, hc⟩ (Ent.of ?_) ?_
  · simp only [sx, sb1, sb2, sb3, sb4, sb5, sb6, sb7, ↓reduceIte, zqa, zqb, zqc, zqd, zqe, zqf, reduceCtorEq, zra, zrb, zrc, zrd, zre, zrf, zrg, zrh, zri, zrj, zrk, zrl, zrm, zqg]
  rintro ⟨f, i⟩ ⟨h1, h2⟩
  simp only at h1 h2
  by_cases hil : i < ws.length
  rotate_left
  · have d1 : ((i : Int) < (ws.length : Int)) = False := eq_false (by omega)
    rw [List.drop_eq_nil_of_le (by omega)] at h2
    simp only [List.map_nil, goV] at h2
    subst h2
    simp only [shs, zts, sos, sls, zss, eqs, sx, sb1, sb2, sb3, sb4, sb5, sb6, sb7, ↓reduceIte, zqa, zqb, zqc, zqd, zqe, zqf, reduceCtorEq, zra, zrb, zrc, zrd, zre, zrf, zrg, zrh, zri, zrj, zrk, zrl, zrm, zqg, nzs, d1]
  have d1 : ((i : Int) < (ws.length : Int)) = True := eq_true (by omega)
  obtain ⟨x, hx, hd⟩ := l_drop_at (l := ws) (i := i) hil
  rw [hd, List.map_cons, goV] at h2
  obtain ⟨g0, g1, i0⟩ := vol_at hv hx
  have hblk := hv.blk x (List.mem_of_getElem? hx)
  simp only [shs, zts, sos, sls, zss, eqs, sx, sb1, sb2, sb3, sb4, sb5, sb6, sb7, ↓reduceIte, zqa, zqb, zqc, zqd, zqe, zqf, reduceCtorEq, zra, zrb, zrc, zrd, zre, zrf, zrg, zrh, zri, zrj, zrk, zrl, zrm, zqg, nzs, d1, hv.row.len, hv.row.sl, List.length_map, i0, i0.2, g0.1, g0.2, g1.1, g1.2, hblk.one]
  have hbl := hblk.len_le
  rw [List.length_map] at hbl
  have hp : prevN ws (i + 1) = some x.2.1 := by simp only [prevN, hx, Option.map_some]
  refine DrawK.ent (X := Unit) (fun _ => True) (fun _ => ([(0, true, .agg [.v b, .v v]), (1, true, .ptr 8 0 0 0), (2, true, .v (.int .i64 0)), (3, true, .v (.int .i64 i)), (4, true, .ptr 32 0 0 0), (12, true, .v v), (13, true, .v (.int .i64 ws.length)), (14, true, .v (.int .i64 i)), (38, true, .v (.bool (!nmB x.2.1 || nameBad (prevN ws i) x.2.1)))], [(32, .box [.v (.string ⟨x.2.1.toArray⟩), .v x.1] none), (8, .box [.v b, .v v] none)], M)) ?_ ?_
  · cases i with
    | zero =>
      refine DrawK.held [8, 32] (tk [0, 1] (.one 2 (tk [3, 4, 5, 6, 7, 8, 10, 15, 9, 11, 16, 12, 13, 14, 17, 18, 19] .done))) (by kernel_rfl) (by kernel_rfl) fun xs => ?_
      simp only [shs, zts, sos, sls, zss, eqs, sx, sb1, sb2, sb3, sb4, sb5, sb6, sb7, ↓reduceIte, zqa, zqb, zqc, zqd, zqe, zqf, reduceCtorEq, zra, zrb, zrc, zrd, zre, zrf, zrg, zrh, zri, zrj, zrk, zrl, zrm, zqg, nzs, se1, se2, tks]
      refine CallK.pure ⟨rfl, rfl⟩ rfl (nameW x.2.1 M) ?_
      cases hN : nmB x.2.1 with
      | false =>
        simp only [shs, zts, sos, sls, zss, eqs, sx, sb1, sb2, sb3, sb4, sb5, sb6, sb7, ↓reduceIte, zqa, zqb, zqc, zqd, zqe, zqf, reduceCtorEq, zra, zrb, zrc, zrd, zre, zrf, zrg, zrh, zri, zrj, zrk, zrl, zrm, zqg, nzs, se1, se2, tks, zrk, Bool.not_false, Bool.true_or]
        first | exact ⟨(), trivial, Ent.heap (HEnt.untie (k := 32) rfl) (Ent.heap (HEnt.untie (k := 8) rfl) (Ent.of (by simp only [sx, sb1, sb2, sb3, sb4, sb5, sb6, sb7, ↓reduceIte, zqa, zqb, zqc, zqd, zqe, zqf, reduceCtorEq, zra, zrb, zrc, zrd, zre, zrf, zrg, zrh, zri, zrj, zrk, zrl, zrm, zqg, hset])))⟩ | exact ⟨(), Ent.heap (HEnt.untie (k := 32) rfl) (Ent.heap (HEnt.untie (k := 8) rfl) (Ent.of (by simp only [sx, sb1, sb2, sb3, sb4, sb5, sb6, sb7, ↓reduceIte, zqa, zqb, zqc, zqd, zqe, zqf, reduceCtorEq, zra, zrb, zrc, zrd, zre, zrf, zrg, zrh, zri, zrj, zrk, zrl, zrm, zqg, hset])))⟩ | exact Ent.heap (HEnt.untie (k := 32) rfl) (Ent.heap (HEnt.untie (k := 8) rfl) (Ent.of (by simp only [sx, sb1, sb2, sb3, sb4, sb5, sb6, sb7, ↓reduceIte, zqa, zqb, zqc, zqd, zqe, zqf, reduceCtorEq, zra, zrb, zrc, zrd, zre, zrf, zrg, zrh, zri, zrj, zrk, zrl, zrm, zqg, hset])))
      | true =>
        simp only [shs, zts, sos, sls, zss, eqs, sx, sb1, sb2, sb3, sb4, sb5, sb6, sb7, ↓reduceIte, zqa, zqb, zqc, zqd, zqe, zqf, reduceCtorEq, zra, zrb, zrc, zrd, zre, zrf, zrg, zrh, zri, zrj, zrk, zrl, zrm, zqg, nzs, se1, se2, tks, zrk, Bool.not_true, Bool.false_or, prevN, nameBad]
        first | exact ⟨(), trivial, Ent.heap (HEnt.untie (k := 32) rfl) (Ent.heap (HEnt.untie (k := 8) rfl) (Ent.of (by simp only [sx, sb1, sb2, sb3, sb4, sb5, sb6, sb7, ↓reduceIte, zqa, zqb, zqc, zqd, zqe, zqf, reduceCtorEq, zra, zrb, zrc, zrd, zre, zrf, zrg, zrh, zri, zrj, zrk, zrl, zrm, zqg, hset])))⟩ | exact ⟨(), Ent.heap (HEnt.untie (k := 32) rfl) (Ent.heap (HEnt.untie (k := 8) rfl) (Ent.of (by simp only [sx, sb1, sb2, sb3, sb4, sb5, sb6, sb7, ↓reduceIte, zqa, zqb, zqc, zqd, zqe, zqf, reduceCtorEq, zra, zrb, zrc, zrd, zre, zrf, zrg, zrh, zri, zrj, zrk, zrl, zrm, zqg, hset])))⟩ | exact Ent.heap (HEnt.untie (k := 32) rfl) (Ent.heap (HEnt.untie (k := 8) rfl) (Ent.of (by simp only [sx, sb1, sb2, sb3, sb4, sb5, sb6, sb7, ↓reduceIte, zqa, zqb, zqc, zqd, zqe, zqf, reduceCtorEq, zra, zrb, zrc, zrd, zre, zrf, zrg, zrh, zri, zrj, zrk, zrl, zrm, zqg, hset])))
    | succ j =>
      obtain ⟨y, hy, _⟩ := l_drop_at (l := ws) (i := j) (by omega)
      obtain ⟨f0, f1, j0⟩ := vol_at hv hy
      have e0 : ((j + 1 : Nat) : Int) - 1 = (j : Int) := by omega
      have e1 : ((0 : Int) < ((j + 1 : Nat) : Int)) = True := eq_true (by omega)
      refine DrawK.held [8, 32] (tk [0, 1] (.one 2 (tk [3, 4, 5, 6, 7, 8, 10, 15, 9, 11, 16, 12, 13, 14, 17, 18, 19] .done))) (by kernel_rfl) (by kernel_rfl) fun xs => ?_
      simp only [shs, zts, sos, sls, zss, eqs, sx, sb1, sb2, sb3, sb4, sb5, sb6, sb7, ↓reduceIte, zqa, zqb, zqc, zqd, zqe, zqf, reduceCtorEq, zra, zrb, zrc, zrd, zre, zrf, zrg, zrh, zri, zrj, zrk, zrl, zrm, zqg, nzs, se1, se2, tks]
      refine CallK.pure ⟨rfl, rfl⟩ rfl (nameW x.2.1 M) ?_
      cases hN : nmB x.2.1 with
      | false =>
        simp only [shs, zts, sos, sls, zss, eqs, sx, sb1, sb2, sb3, sb4, sb5, sb6, sb7, ↓reduceIte, zqa, zqb, zqc, zqd, zqe, zqf, reduceCtorEq, zra, zrb, zrc, zrd, zre, zrf, zrg, zrh, zri, zrj, zrk, zrl, zrm, zqg, nzs, se1, se2, tks, Bool.not_false, Bool.true_or]
        first | exact ⟨(), trivial, Ent.heap (HEnt.untie (k := 32) rfl) (Ent.heap (HEnt.untie (k := 8) rfl) (Ent.of (by simp only [sx, sb1, sb2, sb3, sb4, sb5, sb6, sb7, ↓reduceIte, zqa, zqb, zqc, zqd, zqe, zqf, reduceCtorEq, zra, zrb, zrc, zrd, zre, zrf, zrg, zrh, zri, zrj, zrk, zrl, zrm, zqg, hset])))⟩ | exact ⟨(), Ent.heap (HEnt.untie (k := 32) rfl) (Ent.heap (HEnt.untie (k := 8) rfl) (Ent.of (by simp only [sx, sb1, sb2, sb3, sb4, sb5, sb6, sb7, ↓reduceIte, zqa, zqb, zqc, zqd, zqe, zqf, reduceCtorEq, zra, zrb, zrc, zrd, zre, zrf, zrg, zrh, zri, zrj, zrk, zrl, zrm, zqg, hset])))⟩ | exact Ent.heap (HEnt.untie (k := 32) rfl) (Ent.heap (HEnt.untie (k := 8) rfl) (Ent.of (by simp only [sx, sb1, sb2, sb3, sb4, sb5, sb6, sb7, ↓reduceIte, zqa, zqb, zqc, zqd, zqe, zqf, reduceCtorEq, zra, zrb, zrc, zrd, zre, zrf, zrg, zrh, zri, zrj, zrk, zrl, zrm, zqg, hset])))
      | true =>
        simp only [shs, zts, sos, sls, zss, eqs, sx, sb1, sb2, sb3, sb4, sb5, sb6, sb7, ↓reduceIte, zqa, zqb, zqc, zqd, zqe, zqf, reduceCtorEq, zra, zrb, zrc, zrd, zre, zrf, zrg, zrh, zri, zrj, zrk, zrl, zrm, zqg, nzs, se1, se2, tks, e0, e1, j0, j0.2, f0.1, f0.2, inK, lo, hi, Bool.not_true, Bool.false_or, prevN, hy, Option.map_some, nameBad]
        refine ⟨by omega, ?_⟩
        first | exact ⟨(), trivial, Ent.heap (HEnt.untie (k := 32) rfl) (Ent.heap (HEnt.untie (k := 8) rfl) (Ent.of (by simp only [sx, sb1, sb2, sb3, sb4, sb5, sb6, sb7, ↓reduceIte, zqa, zqb, zqc, zqd, zqe, zqf, reduceCtorEq, zra, zrb, zrc, zrd, zre, zrf, zrg, zrh, zri, zrj, zrk, zrl, zrm, zqg, hset])))⟩ | exact ⟨(), Ent.heap (HEnt.untie (k := 32) rfl) (Ent.heap (HEnt.untie (k := 8) rfl) (Ent.of (by simp only [sx, sb1, sb2, sb3, sb4, sb5, sb6, sb7, ↓reduceIte, zqa, zqb, zqc, zqd, zqe, zqf, reduceCtorEq, zra, zrb, zrc, zrd, zre, zrf, zrg, zrh, zri, zrj, zrk, zrl, zrm, zqg, hset])))⟩ | exact Ent.heap (HEnt.untie (k := 32) rfl) (Ent.heap (HEnt.untie (k := 8) rfl) (Ent.of (by simp only [sx, sb1, sb2, sb3, sb4, sb5, sb6, sb7, ↓reduceIte, zqa, zqb, zqc, zqd, zqe, zqf, reduceCtorEq, zra, zrb, zrc, zrd, zre, zrf, zrg, zrh, zri, zrj, zrk, zrl, zrm, zqg, hset])))
  rintro _ _
  have hbad : ((!nmB x.2.1 || nameBad (prevN ws i) x.2.1) = true) ↔ (nmB x.2.1 = false ∨ nameBad (prevN ws i) x.2.1 = true) := by
    rw [Bool.or_eq_true, Bool.not_eq_true']
  generalize (!nmB x.2.1 || nameBad (prevN ws i) x.2.1) = bd at *
  cases bd with
  | true =>
    rw [if_pos (hbad.1 rfl)] at h2
    subst h2
    simp only [shs, zts, sos, sls, zss, eqs, sx, sb1, sb2, sb3, sb4, sb5, sb6, sb7, ↓reduceIte, zqa, zqb, zqc, zqd, zqe, zqf, reduceCtorEq, zra, zrb, zrc, zrd, zre, zrf, zrg, zrh, zri, zrj, zrk, zrl, zrm, zqg, nzs, se1, se2, tks]
  | false =>
  rw [if_neg (fun h => by cases hbad.2 h)] at h2
  by_cases h32 : 32 < x.2.2.length
  · have d2 : ((32 : Int) < (x.2.2.length : Int)) = True := eq_true (by omega)
    rw [if_pos h32] at h2
    subst h2
    simp only [shs, zts, sos, sls, zss, eqs, sx, sb1, sb2, sb3, sb4, sb5, sb6, sb7, ↓reduceIte, zqa, zqb, zqc, zqd, zqe, zqf, reduceCtorEq, zra, zrb, zrc, zrd, zre, zrf, zrg, zrh, zri, zrj, zrk, zrl, zrm, zqg, nzs, se1, se2, tks, hblk.len, hblk.sl, List.length_map, d2]
  have d2 : ((32 : Int) < (x.2.2.length : Int)) = False := eq_false (by omega)
  rw [if_neg h32] at h2
  simp only [shs, zts, sos, sls, zss, eqs, sx, sb1, sb2, sb3, sb4, sb5, sb6, sb7, ↓reduceIte, zqa, zqb, zqc, zqd, zqe, zqf, reduceCtorEq, zra, zrb, zrc, zrd, zre, zrf, zrg, zrh, zri, zrj, zrk, zrl, zrm, zqg, nzs, se1, se2, tks, hblk.len, hblk.sl, List.length_map, d2]
  generalize hge : goI bag x.2.2 = ge at h2
  refine LoopK.go (X := Nat × Nat) (fun z => ([(0, true, .agg [.v b, .v v]), (1, true, .ptr 8 0 0 0), (2, true, .v (.int .i64 0)), (12, true, .v v), (13, true, .v (.int .i64 ws.length)), (14, true, .v (.int .i64 i)), (44, true, .v x.1), (45, true, .v (.int .i64 x.2.2.length)), (46, true, .v (.int .i64 z.2))], [(8, .box [.v b, .v v] none)], M))
    (fun z => z.1 + z.2 = x.2.2.length ∧ goI bag (x.2.2.drop z.2) = ge) (fun z => z.1) (x.2.2.length, 0) ⟨rfl, hge⟩ (Ent.of ?_) ?_
  · simp only [sx, sb1, sb2, sb3, sb4, sb5, sb6, sb7, ↓reduceIte, zqa, zqb, zqc, zqd, zqe, zqf, reduceCtorEq, zra, zrb, zrc, zrd, zre, zrf, zrg, zrh, zri, zrj, zrk, zrl, zrm, zqg, zrk]
  rintro ⟨f2, j⟩ ⟨k1, k2⟩
  simp only at k1 k2
  by_cases hjl : j < x.2.2.length
  rotate_left
  · have d3 : ((j : Int) < (x.2.2.length : Int)) = False := eq_false (by omega)
    rw [List.drop_eq_nil_of_le (by omega)] at k2
    simp only [goI] at k2
    subst k2
    rw [if_neg (fun h => h rfl)] at h2
    simp only [shs, zts, sos, sls, zss, eqs, sx, sb1, sb2, sb3, sb4, sb5, sb6, sb7, ↓reduceIte, zqa, zqb, zqc, zqd, zqe, zqf, reduceCtorEq, zra, zrb, zrc, zrd, zre, zrf, zrg, zrh, zri, zrj, zrk, zrl, zrm, zqg, nzs, se1, se2, tks, d3, inK, lo, hi]
    refine ⟨by omega, (f - 1, i + 1), ⟨⟨by simp only; omega, by rw [hp]; exact h2⟩, by simp only; omega⟩, Ent.of ?_⟩
    simp only [sx, sb1, sb2, sb3, sb4, sb5, sb6, sb7, ↓reduceIte, zqa, zqb, zqc, zqd, zqe, zqf, reduceCtorEq, zra, zrb, zrc, zrd, zre, zrf, zrg, zrh, zri, zrj, zrk, zrl, zrm, zqg, Int.natCast_add]
  have d3 : ((j : Int) < (x.2.2.length : Int)) = True := eq_true (by omega)
  obtain ⟨y, hy, hd2⟩ := l_drop_at (l := x.2.2) (i := j) hjl
  obtain ⟨y0, y1, y2, yi⟩ := id_at hblk hy
  rw [hd2, goI] at k2
  have hF := find b bag y M hb
  simp only [idV] at hF
  obtain ⟨q0, q1, q2⟩ := y
  simp only at y0 y1 y2 k2 hF
  cases q0 with
  | false =>
    by_cases hz : q1 = 0 ∧ q2 = 0
    · obtain ⟨rfl, rfl⟩ := hz
      have hE : idE bag (false, 0, 0) = 0 := rfl
      rw [hE, if_neg (fun h => h rfl)] at k2
      simp only [shs, zts, sos, sls, zss, eqs, sx, sb1, sb2, sb3, sb4, sb5, sb6, sb7, ↓reduceIte, zqa, zqb, zqc, zqd, zqe, zqf, reduceCtorEq, zra, zrb, zrc, zrd, zre, zrf, zrg, zrh, zri, zrj, zrk, zrl, zrm, zqg, nzs, se1, se2, tks, d3, yi, yi.2, y0.1, y0.2, y1.1, y1.2, y2.1, y2.2, inK, lo, hi]
      refine ⟨by omega, (f2 - 1, j + 1), ⟨⟨by simp only; omega, k2⟩, by simp only; omega⟩, Ent.of ?_⟩
      simp only [sx, sb1, sb2, sb3, sb4, sb5, sb6, sb7, ↓reduceIte, zqa, zqb, zqc, zqd, zqe, zqf, reduceCtorEq, zra, zrb, zrc, zrd, zre, zrf, zrg, zrh, zri, zrj, zrk, zrl, zrm, zqg, Int.natCast_add]
    · have hE : idE bag (false, q1, q2) = 3 := by
        unfold idE
        exact if_pos ⟨rfl, hz⟩
      have hn : ∀ p : Prop, ((q1 = 0 ∧ q2 = 0) → p) = True := fun p => eq_true (fun h => absurd h hz)
      rw [hE, if_pos (by decide)] at k2
      subst k2
      rw [if_pos (by decide)] at h2
      subst h2
      simp only [shs, zts, sos, sls, zss, eqs, sx, sb1, sb2, sb3, sb4, sb5, sb6, sb7, ↓reduceIte, zqa, zqb, zqc, zqd, zqe, zqf, reduceCtorEq, zra, zrb, zrc, zrd, zre, zrf, zrg, zrh, zri, zrj, zrk, zrl, zrm, zqg, nzs, se1, se2, tks, d3, yi, yi.2, y0.1, y0.2, y1.1, y1.2, y2.1, y2.2]
      exact fun h => absurd h hz
  | true =>
    simp only [shs, zts, sos, sls, zss, eqs, sx, sb1, sb2, sb3, sb4, sb5, sb6, sb7, ↓reduceIte, zqa, zqb, zqc, zqd, zqe, zqf, reduceCtorEq, zra, zrb, zrc, zrd, zre, zrf, zrg, zrh, zri, zrj, zrk, zrl, zrm, zqg, nzs, se1, se2, tks, d3, yi, yi.2, y0.1, y0.2, y1.1, y1.2, y2.1, y2.2]
    refine CallK.pure ⟨rfl, rfl⟩ rfl hF ?_
    by_cases hneg : fidx (isId (true, q1, q2)) bag 0 < 0
    · have d4 := eq_true hneg
      have hE : idE bag (true, q1, q2) = 4 := by
        unfold idE
        rw [if_neg (fun h => by cases h.1)]
        exact if_pos ⟨rfl, hneg⟩
      rw [hE, if_pos (by decide)] at k2
      subst k2
      rw [if_pos (by decide)] at h2
      subst h2
      simp only [shs, zts, sos, sls, zss, eqs, sx, sb1, sb2, sb3, sb4, sb5, sb6, sb7, ↓reduceIte, zqa, zqb, zqc, zqd, zqe, zqf, reduceCtorEq, zra, zrb, zrc, zrd, zre, zrf, zrg, zrh, zri, zrj, zrk, zrl, zrm, zqg, nzs, se1, se2, tks, d4]
    · have d4 := eq_false hneg
      have hE : idE bag (true, q1, q2) = 0 := by
        unfold idE
        rw [if_neg (fun h => by cases h.1)]
        exact if_neg (fun h => hneg h.2)
      rw [hE, if_neg (fun h => h rfl)] at k2
      simp only [shs, zts, sos, sls, zss, eqs, sx, sb1, sb2, sb3, sb4, sb5, sb6, sb7, ↓reduceIte, zqa, zqb, zqc, zqd, zqe, zqf, reduceCtorEq, zra, zrb, zrc, zrd, zre, zrf, zrg, zrh, zri, zrj, zrk, zrl, zrm, zqg, nzs, se1, se2, tks, d4, inK, lo, hi]
      refine ⟨by omega, (f2 - 1, j + 1), ⟨⟨by simp only; omega, k2⟩, by simp only; omega⟩, Ent.of ?_⟩
      simp only [sx, sb1, sb2, sb3, sb4, sb5, sb6, sb7, ↓reduceIte, zqa, zqb, zqc, zqd, zqe, zqf, reduceCtorEq, zra, zrb, zrc, zrd, zre, zrf, zrg, zrh, zri, zrj, zrk, zrl, zrm, zqg, Int.natCast_add]
end Go.X.Vo

