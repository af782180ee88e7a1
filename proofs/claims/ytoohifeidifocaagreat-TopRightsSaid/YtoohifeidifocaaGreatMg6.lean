/- Contracts of functions and the logic that they are proved in (6 texts in one). Conditions: none. -/
import Derived.Test.YtoohifeidifocaaGreatMg5
import Derived.OrdersHeld
open Nat renaming reduceAdd → zqa, reduceMul → zqb, reduceDiv → zqc, reduceEqDiff → zqd, reduceLT → zqe, reduceLeDiff → zqf, reduceBEq → zqg
open Int renaming reduceEq → zra, reduceNe → zrb, reduceLT → zrc, reduceLE → zrd, reduceAdd → zre, reduceSub → zrf, reduceMul → zrg, reduceNeg → zrh, reduceToNat → zri, cast_ofNat_Int → zrj, natCast_zero → zrk, natCast_one → zrl, toNat_natCast → zrm
namespace Go.X.Pol
end Go.X.Pol
namespace Go.X.Pl
end Go.X.Pl
namespace Go.X.Rp
end Go.X.Rp
namespace Go.X.Pd
end Go.X.Pd
namespace Go.X.Md
end Go.X.Md
namespace Go.X.Mv
end Go.X.Mv
set_option linter.unusedSimpArgs false
set_option linter.unusedVariables false
set_option maxHeartbeats 4000000
set_option maxRecDepth 20000
namespace Go.X.Pt
open Go Go.X Go.X.Pol Go.X.Pl Go.X.Rp Go.X.Pd Go.X.Md Go.X.Mv

/-- one byte more -/
def stp (m p c : Nat) : Nat := pmod (p * 2 ^ 8 + c) m
def prf (m : Nat) (s : List UInt8) (p : Nat) : Nat := s.foldl (fun p c => stp m p c.toNat) p

theorem strIx_at {s : List UInt8} {i : Nat} {b : UInt8} (h : s[i]? = some b) : strIx s (i : Int) = ((b.toNat : Nat) : Int) := by
  unfold strIx
  rw [zrm, List.getD_eq_getElem?_getD, h]
  rfl
theorem push (p m : Nat) (s : List UInt8) (M : Mem) (h2 : 2 ≤ m) (hm : m ≤ 2147483647) (hp : p ≤ 2147483647) (hs : s.length ≤ maxLen) :
    Meets Proofs.Tryz.prog 89 [.v (.int .i64 (p : Int)), .v (.string ⟨s.toArray⟩), .v (.int .i64 (m : Int))] M fun r _ _ => r = .v (.int .i64 ((prf m s p : Nat) : Int)) := by
  refine Meets.of_body [0,1,2,6,7,9,11,12,13] Proofs.Tryz.func89 rfl (by kernel_rfl) rfl fun w => ?_
  have h0 : m ≠ 0 := by omega
  generalize hc : prf m s p = c
  simp only [maxLen] at hs
  simp only [Proofs.Tryz.f89, shs, zts, sos, sls, zss, eqs, sx, sb1, sb2, sb3, sb4, sb5, sb6, sb7, ↓reduceIte, zqa, zqb, zqc, zqd, zqe, zqf, reduceCtorEq, zra, zrb, zrc, zrd, zre, zrf, zrg, zrh, zri, zrj, zrk, zrl, zrm, zqg]
  refine LoopK.go (X := Nat × Nat × Nat) (fun x => ([(0, true, .v (.int .i64 (x.2.2 : Int))), (1, true, .v (.string ⟨s.toArray⟩)), (2, true, .v (.int .i64 m)), (11, true, .v (.int .i64 s.length)), (12, true, .v (.int .i64 x.2.1))], [], M))
    (fun x => (x.1 + x.2.1 = s.length ∧ x.2.2 ≤ 2147483647) ∧ prf m (s.drop x.2.1) x.2.2 = c) (fun x => x.1) (s.length, 0, p) ⟨⟨rfl, hp⟩, hc⟩ (Ent.of ?_) ?_
  · simp only [sx, sb1, sb2, sb3, sb4, sb5, sb6, sb7, ↓reduceIte, zqa, zqb, zqc, zqd, zqe, zqf, reduceCtorEq, zra, zrb, zrc, zrd, zre, zrf, zrg, zrh, zri, zrj, zrk, zrl, zrm, zqg]
  rintro ⟨f, i, q⟩ ⟨⟨h3, h4⟩, h5⟩
  simp only at h3 h4 h5
  simp only [shs, zts, sos, sls, zss, eqs, sx, sb1, sb2, sb3, sb4, sb5, sb6, sb7, ↓reduceIte, zqa, zqb, zqc, zqd, zqe, zqf, reduceCtorEq, zra, zrb, zrc, zrd, zre, zrf, zrg, zrh, zri, zrj, zrk, zrl, zrm, zqg, inK, lo, hi, uw (show q < 18446744073709551616 by omega), mw, b64u]
  refine ⟨fun h6 => ?_, fun h6 => ?_⟩
  · obtain ⟨b, hb, hd⟩ := drop_at (l := s) (i := i) (by omega)
    have e1 := strIx_at hb
    have hb2 : b.toNat < 256 := UInt8.toNat_lt b
    rw [hd] at h5
    simp only [prf, List.foldl_cons] at h5
    have hz := red_le (x := q * 2 ^ 8 + b.toNat) h0 hm
    refine ⟨(fun h => by cases h), by omega, by omega, (fun h => by cases h), ?_⟩
    rw [e1, uw (show b.toNat < 18446744073709551616 by omega), orw (show q * 2 ^ 8 < 18446744073709551616 by omega) (show b.toNat < 18446744073709551616 by omega), or_low (k := 8) (by omega)]
    refine CallK.pure ⟨rfl, rfl⟩ rfl (over _ m M (by omega) hm h0) ?_
    simp only [shs, zts, sos, sls, zss, eqs, sx, sb1, sb2, sb3, sb4, sb5, sb6, sb7, ↓reduceIte, zqa, zqb, zqc, zqd, zqe, zqf, reduceCtorEq, zra, zrb, zrc, zrd, zre, zrf, zrg, zrh, zri, zrj, zrk, zrl, zrm, zqg, inK, lo, hi, iw (show pmod (q * 2 ^ 8 + b.toNat) m < 9223372036854775808 by omega)]
    refine ⟨(fun h => by cases h), by omega, (f - 1, i + 1, pmod (q * 2 ^ 8 + b.toNat) m), ⟨⟨⟨by simp only; omega, by simp only; omega⟩, h5⟩, by simp only; omega⟩, Ent.of ?_⟩
    simp only [sx, sb1, sb2, sb3, sb4, sb5, sb6, sb7, ↓reduceIte, zqa, zqb, zqc, zqd, zqe, zqf, reduceCtorEq, zra, zrb, zrc, zrd, zre, zrf, zrg, zrh, zri, zrj, zrk, zrl, zrm, zqg, Int.natCast_add]
  · have hd : s.drop i = [] := List.drop_eq_nil_of_le (by omega)
    rw [hd] at h5
    simp only [prf, List.foldl_nil] at h5
    rw [h5]

theorem plain (m : Nat) (s : List UInt8) (M : Mem) (h2 : 2 ≤ m) (hm : m ≤ 2147483647) (hs : s.length ≤ maxLen) :
    Meets Proofs.Tryz.prog 66 [.v (.int .i64 (m : Int)), .v (.string ⟨s.toArray⟩)] M fun r _ _ => r = .v (.int .i64 ((prf m s 1 : Nat) : Int)) := by
  refine Meets.of_body [0,1,4,6] Proofs.Tryz.func66 rfl (by kernel_rfl) rfl fun w => ?_
  have h0 : m ≠ 0 := by omega
  have h1 : pmod 1 m = 1 := pmod_small (by
    have h3 : sz 1 = 1 := rfl
    have h4 := lt_sz.2 (show 2 ^ 1 ≤ m by omega)
    omega)
  simp only [Proofs.Tryz.f66, shs, zts, sos, sls, zss, eqs, sx, sb1, sb2, sb3, sb4, sb5, sb6, sb7, ↓reduceIte, zqa, zqb, zqc, zqd, zqe, zqf, reduceCtorEq, zra, zrb, zrc, zrd, zre, zrf, zrg, zrh, zri, zrj, zrk, zrl, zrm, zqg]
  refine CallK.pure ⟨rfl, rfl⟩ rfl (over 1 m M (by omega) hm h0) ?_
  rw [h1]
  simp only [shs, zts, sos, sls, zss, eqs, sx, sb1, sb2, sb3, sb4, sb5, sb6, sb7, ↓reduceIte, zqa, zqb, zqc, zqd, zqe, zqf, reduceCtorEq, zra, zrb, zrc, zrd, zre, zrf, zrg, zrh, zri, zrj, zrk, zrl, zrm, zqg, iw (show 1 < 9223372036854775808 by omega)]
  refine ⟨(fun h => by cases h), CallK.pure ⟨rfl, rfl⟩ rfl (push 1 m s M h2 hm (by omega) hs) ?_⟩
  simp only [shs, zts, sos, sls, zss, eqs, sx, sb1, sb2, sb3, sb4, sb5, sb6, sb7, ↓reduceIte, zqa, zqb, zqc, zqd, zqe, zqf, reduceCtorEq, zra, zrb, zrc, zrd, zre, zrf, zrg, zrh, zri, zrj, zrk, zrl, zrm, zqg]

end Go.X.Pt

namespace Go.X
open Go Go.RowKit

/-- the order in which a drawn region is walked: 'take' a quiet operation first; fork over all that may come up -/
inductive Sch where
  | done
  | take (i : Nat) (n : Sch)
  | one (i : Nat) (n : Sch)
  | two (i : Nat) (n : Sch) (j : Nat) (m : Sch)

def schB (md : Region.Mode) (ops : Array Oper) : Sch → Nat → Array Bool → Bool
  | .done, _, listed => (Region.ready md ops listed).isEmpty
  | .take i n, f + 1, listed => (Region.free md ops listed i && (Region.ready md ops listed).contains i) && schB md ops n f (listed.setIfInBounds i true)
  | .one i n, f + 1, listed => Region.ready md ops listed == [i] && schB md ops n f (listed.setIfInBounds i true)
  | .two i n j m, f + 1, listed => Region.ready md ops listed == [i, j] && (schB md ops n f (listed.setIfInBounds i true) && schB md ops m f (listed.setIfInBounds j true))
  | _, 0, _ => false

def pickH (sel : List Nat) : HS → HS
  | [] => []
  | (k, .box cs t) :: H => bif memN k sel && (SV.concs cs && t.isSome) then (k, .box cs t) :: pickH sel H else pickH sel H
  | (_, .row _ _) :: H => pickH sel H
  | (_, .tab _ _) :: H => pickH sel H
  | (_, .mp _) :: H => pickH sel H

def stayH : HS → HS → Prop
  | [], _ => True
  | (k, p) :: r, H => hget H k = some p ∧ stayH r H

/-- a quiet operation, at what of memory stays -/
def qtK (E : Env) (o : Oper) (Hs : HS) (Ms : Mem) (K : KP) (σ : Sig) (H : HS) (M : Mem) : Option Bool → Option Nat → Prop
  | some g, some d => (d < E.N ∧ (g = true → (pev E.P Hs Ms σ o.op).1 = true ∧ (pev E.P Hs Ms σ o.op).2.2)) ∧ K ((d, g, (pev E.P Hs Ms σ o.op).2.1) :: σ) H M
  | _, _ => False
def efC (Hs : HS) (Ms : Mem) (K : KP) (σ' : Sig) (H' : HS) (M' : Mem) : Prop := (stayH Hs H' ∧ Ms.le M') ∧ K σ' H' M'
@[congr] theorem efC_congr {Hs Hs' : HS} {Ms : Mem} {K : KP} {σ σ' : Sig} {H H' : HS} {M : Mem} (h0 : Hs = Hs') (h : σ = σ') (h' : H = H') : efC Hs Ms K σ H M = efC Hs' Ms K σ' H' M := by rw [h0, h, h']
def efK (E : Env) (o : Oper) (Hs : HS) (Ms : Mem) (K : KP) (σ : Sig) (H : HS) (M : Mem) : Option Bool → Prop
  | some g => stepK E o g (efC Hs Ms K) σ H M
  | none => False
def opt1 (f : Oper → Prop) : Option Oper → Prop
  | some o => f o
  | none => False

def wpH (E : Env) (ops : List Oper) (Hs : HS) (Ms : Mem) (K : KP) : Sch → Sig → HS → Mem → Prop
  | .done, σ, H, M => K σ H M
  | .take i n, σ, H, M => opt1 (fun o => qtK E o Hs Ms (wpH E ops Hs Ms K n) σ H M (gdOf ops σ o.guard) o.dst) ops[i]?
  | .one i n, σ, H, M => opt1 (fun o => efK E o Hs Ms (wpH E ops Hs Ms K n) σ H M (gdOf ops σ o.guard)) ops[i]?
  | .two i n j m, σ, H, M => opt1 (fun o => efK E o Hs Ms (wpH E ops Hs Ms K n) σ H M (gdOf ops σ o.guard)) ops[i]? ∧ opt1 (fun o => efK E o Hs Ms (wpH E ops Hs Ms K m) σ H M (gdOf ops σ o.guard)) ops[j]?

@[congr] theorem qtK_congr {E : Env} {o : Oper} {Hs Hs' : HS} {Ms : Mem} {K : KP} {σ σ' : Sig} {H H' : HS} {M : Mem} {g g' : Option Bool} {d d' : Option Nat} (h0 : Hs = Hs') (h : σ = σ') (h' : H = H') (hg : g = g') (hd : d = d') : qtK E o Hs Ms K σ H M g d = qtK E o Hs' Ms K σ' H' M g' d' := by rw [h0, h, h', hg, hd]
@[congr] theorem efK_congr {E : Env} {o : Oper} {Hs Hs' : HS} {Ms : Mem} {K : KP} {σ σ' : Sig} {H H' : HS} {M : Mem} {g g' : Option Bool} (h0 : Hs = Hs') (h : σ = σ') (h' : H = H') (hg : g = g') : efK E o Hs Ms K σ H M g = efK E o Hs' Ms K σ' H' M g' := by rw [h0, h, h', hg]
@[congr] theorem opt1_congr {f : Oper → Prop} {x y : Option Oper} (h : x = y) : opt1 f x = opt1 f y := by rw [h]
@[congr] theorem wpH_congr {E : Env} {ops : List Oper} {Hs Hs' : HS} {Ms : Mem} {K : KP} {s : Sch} {σ σ' : Sig} {H H' : HS} {M : Mem} (h0 : Hs = Hs') (h : σ = σ') (h' : H = H') : wpH E ops Hs Ms K s σ H M = wpH E ops Hs' Ms K s σ' H' M := by rw [h0, h, h']

section
variable {E : Env} {σ : Sig} {H Hs : HS} {M Ms : Mem} {ν ν' : Nat → Value} {a : Act} {w : World}

def tieds (ν : Nat → Value) : HS → Prop
  | [] => True
  | (k, .box cs t) :: H => (SV.concs cs = true ∧ t = some (ν k)) ∧ tieds ν H
  | (_, .row _ _) :: _ => False
  | (_, .tab _ _) :: _ => False
  | (_, .mp _) :: _ => False
theorem tieds_mem : ∀ {Hs : HS} {q : Nat × PO}, tieds ν Hs → q ∈ Hs → ∃ cs, q.2 = .box cs (some (ν q.1)) ∧ SV.concs cs = true
  | (k, .box cs t) :: H, q, h, hq => by
    obtain ⟨⟨h1, rfl⟩, h2⟩ := h
    rcases List.mem_cons.1 hq with rfl | hq
    · exact ⟨cs, rfl, h1⟩
    · exact tieds_mem h2 hq
  | (k, .row _ _) :: H, q, h, _ => h.elim
  | (k, .tab _ _) :: H, q, h, _ => h.elim
  | (k, .mp _) :: H, q, h, _ => h.elim
  | [], q, _, hq => by cases hq
theorem stayH_mem : ∀ {Hs : HS} {q : Nat × PO}, stayH Hs H → q ∈ Hs → q ∈ H
  | (k, p) :: r, q, h, hq => by
    rcases List.mem_cons.1 hq with rfl | hq
    · exact hget_mem h.1
    · exact stayH_mem h.2 hq
  | [], q, _, hq => by cases hq
theorem fp_eq : ∀ {Hs : HS}, (∀ q ∈ Hs, ν' q.1 = ν q.1) → fp ν' Hs = fp ν Hs
  | [], _ => rfl
  | q :: H, h => by
    have := fp_eq (Hs := H) fun q hq => h q (List.mem_cons_of_mem _ hq)
    have h0 := h q List.mem_cons_self
    simp only [fp, List.filterMap_cons] at this ⊢
    rw [h0, this]

/-- what stays of memory, at the values of the region's beginning -/
theorem Heap.stay {w0 : World} (h0 : Heap E ν Hs Ms w0) (ht : tieds ν Hs) (hh : Heap E ν' H M w) (hs : stayH Hs H) (hle : Ms.le M) : Heap E ν Hs Ms w ∧ ∀ q ∈ Hs, ν' q.1 = ν q.1 := by
  have e : ∀ q ∈ Hs, ν' q.1 = ν q.1 := fun q hq => by
    obtain ⟨cs, h1, _⟩ := tieds_mem ht hq
    have := hh.holds q (stayH_mem hs hq)
    rw [h1] at this
    exact this.2 _ rfl
  refine ⟨⟨fun q hq => ?_, h0.nodup, h0.apart, fun b o hb => hh.mem b o (hle b o hb), hh.below, h0.le0, h0.fresh, h0.one⟩, e⟩
  obtain ⟨cs, h1, h2⟩ := tieds_mem ht hq
  have := hh.holds q (stayH_mem hs hq)
  rw [h1, e q hq] at this
  rw [h1]
  obtain ⟨⟨b, T, e1, e2⟩, e3⟩ := this
  exact ⟨⟨b, T, e1, by rw [SV.concs_vals (ν := ν') (ν' := ν) cs h2]; exact e2⟩, e3⟩

theorem Heap.again (h0 : Heap E ν Hs Ms w) (ht : tieds ν Hs) (e : ∀ q ∈ Hs, ν' q.1 = ν q.1) (h1 : ∀ k, (ν' k).oneCell' = true) : Heap E ν' Hs Ms w := by
  have hf := fp_eq (ν := ν) (ν' := ν') e
  refine ⟨fun q hq => ?_, by rw [hf]; exact h0.nodup, by rw [hf]; exact h0.apart, h0.mem, h0.below, h0.le0, h0.fresh, h1⟩
  obtain ⟨cs, h1, h2⟩ := tieds_mem ht hq
  have := h0.holds q hq
  rw [h1] at this
  rw [h1, e q hq]
  obtain ⟨⟨b, T, e1, e2⟩, e3⟩ := this
  exact ⟨⟨b, T, e1, by rw [SV.concs_vals (ν := ν) (ν' := ν') cs h2]; exact e2⟩, e3⟩

theorem wpH_sound {ops : Array Oper} {K : KP} {w0 : World} (hsel : Region.noSelect ops = true) (h0 : Heap E ν Hs Ms w0) (ht : tieds ν Hs) :
    ∀ (sch : Sch) (f : Nat) (listed : Array Bool) (σ : Sig) (H : HS) (M : Mem) (a : Act) (w : World), schB .any ops sch f listed = true → Rep E σ H M a w → (stayH Hs H ∧ Ms.le M) → wpH E ops.toList Hs Ms K sch σ H M →
      wpAnyH E.P .any ops (fun e a w => e = Exit.normal ∧ ∃ σ H M, Rep E σ H M a w ∧ K σ H M) (fun w => Heap E ν Hs Ms w) f listed a w
  | .done, f, listed, σ, H, M, a, w, hB, hr, _, h => by
    exact wpAnyH_done (by simpa [schB] using hB) ⟨rfl, σ, H, M, hr, h⟩ f
  | .take i n, f + 1, listed, σ, H, M, a, w, hB, ⟨ν', hs, hh⟩, ⟨hsub, hle⟩, h => by
    simp only [schB, Bool.and_eq_true] at hB
    obtain ⟨⟨hf, hrd⟩, hB⟩ := hB
    simp only [wpH] at h
    cases ho : ops[i]? with
    | none => rw [show ops.toList[i]? = none by rw [Array.getElem?_toList]; exact ho] at h; exact h.elim
    | some o =>
      rw [show ops.toList[i]? = some o by rw [Array.getElem?_toList]; exact ho] at h
      simp only [opt1] at h
      cases hg : gdOf ops.toList σ o.guard with
      | none => rw [hg] at h; exact h.elim
      | some g =>
        cases hd : o.dst with
        | none => rw [hg, hd] at h; exact h.elim
        | some d =>
          rw [hg, hd] at h
          obtain ⟨⟨hN, h1⟩, hK⟩ := h
          have hgd := gd_spec hs hg o rfl
          obtain ⟨hS, hke⟩ := Heap.stay h0 ht hh hsub hle
          refine wpAnyH_take (v := bif g then (pev E.P Hs Ms σ o.op).2.1.val ν' else undef) ho hsel hf hrd (fun c a w h => by obtain ⟨h, _⟩ := h; cases h) ?_ hS ?_
          · cases g with
            | true =>
              obtain ⟨hg1, hc⟩ := h1 rfl
              refine .inl ⟨by simpa using hgd, fun w1 hw1 => ?_⟩
              exact pev_sound hs (Heap.again hw1 ht hke hh.one) o hg1 hc
            | false => exact .inr ⟨by simpa using hgd, rfl⟩
          · refine wpH_sound hsel h0 ht n f _ _ H M _ w hB ⟨ν', ?_, hh⟩ ⟨hsub, hle⟩ hK
            rw [hd]
            exact hs.put hN rfl
  | .one i n, f + 1, listed, σ, H, M, a, w, hB, hr, hsm, h => by
    simp only [schB, Bool.and_eq_true, beq_iff_eq] at hB
    refine wpAnyH_all hB.1 (by simp) fun j hj => ?_
    obtain rfl : j = i := by simpa using hj
    exact wpH_op hsel h0 ht n f listed σ H M a w hB.2 hr hsm h
  | .two i n i' m, f + 1, listed, σ, H, M, a, w, hB, hr, hsm, h => by
    simp only [schB, Bool.and_eq_true, beq_iff_eq] at hB
    refine wpAnyH_all hB.1 (by simp) fun j hj => ?_
    rcases (by simpa using hj : j = i ∨ j = i') with rfl | rfl
    · exact wpH_op hsel h0 ht n f listed σ H M a w hB.2.1 hr hsm h.1
    · exact wpH_op hsel h0 ht m f listed σ H M a w hB.2.2 hr hsm h.2
  | .take _ _, 0, _, _, _, _, _, _, hB, _, _, _ => by simp [schB] at hB
  | .one _ _, 0, _, _, _, _, _, _, hB, _, _, _ => by simp [schB] at hB
  | .two _ _ _ _, 0, _, _, _, _, _, _, hB, _, _, _ => by simp [schB] at hB
where
  wpH_op {ops : Array Oper} {K : KP} {w0 : World} (hsel : Region.noSelect ops = true) (h0 : Heap E ν Hs Ms w0) (ht : tieds ν Hs) {i : Nat} (n : Sch) (f : Nat) (listed : Array Bool) (σ : Sig) (H : HS) (M : Mem) (a : Act) (w : World)
      (hB : schB .any ops n f (listed.setIfInBounds i true) = true) (hr : Rep E σ H M a w) (_ : stayH Hs H ∧ Ms.le M)
      (h : opt1 (fun o => efK E o Hs Ms (wpH E ops.toList Hs Ms K n) σ H M (gdOf ops.toList σ o.guard)) ops.toList[i]?) :
      wpOp E.P ops (fun e a w => e = Exit.normal ∧ ∃ σ H M, Rep E σ H M a w ∧ K σ H M) i (fun a' w' => Heap E ν Hs Ms w' ∧ wpAnyH E.P .any ops (fun e a w => e = Exit.normal ∧ ∃ σ H M, Rep E σ H M a w ∧ K σ H M) (fun w => Heap E ν Hs Ms w) f (listed.setIfInBounds i true) a' w') a w := by
    cases ho : ops[i]? with
    | none => rw [show ops.toList[i]? = none by rw [Array.getElem?_toList]; exact ho] at h; exact h.elim
    | some o =>
      rw [show ops.toList[i]? = some o by rw [Array.getElem?_toList]; exact ho] at h
      simp only [opt1] at h
      obtain ⟨ν', hs, hh⟩ := hr
      cases hg : gdOf ops.toList σ o.guard with
      | none => rw [hg] at h; exact h.elim
      | some g =>
        rw [hg] at h
        simp only [efK] at h
        have hgd := gd_spec hs hg o rfl
        have key := stepK_sound (Nx := fun a' w' => Heap E ν Hs Ms w' ∧ wpAnyH E.P .any ops (fun e a w => e = Exit.normal ∧ ∃ σ H M, Rep E σ H M a w ∧ K σ H M) (fun w => Heap E ν Hs Ms w) f (listed.setIfInBounds i true) a' w')
          (Qx := fun e a w => e = Exit.normal ∧ ∃ σ H M, Rep E σ H M a w ∧ K σ H M)
          (fun σ1 H1 M1 a1 w1 hr1 hk1 => by
            obtain ⟨ν1, hs1, hh1⟩ := hr1
            exact ⟨(Heap.stay h0 ht hh1 hk1.1.1 hk1.1.2).1, wpH_sound hsel h0 ht n f _ σ1 H1 M1 a1 w1 hB ⟨ν1, hs1, hh1⟩ hk1.1 hk1.2⟩) hs hh h
        unfold wpOp
        simp only [ho]
        have hgd' : Region.wanted o (yielded ops a.tmps) = g := by simpa using hgd
        rw [hgd']
        cases g with
        | true => simp only [if_true] at key ⊢; exact .inl key
        | false => simp only [Bool.false_eq_true, if_false] at key ⊢; exact key

theorem tieH_heap (hh : Heap E ν H M w) : Heap E ν (tieH ν H) M w := by
  refine ⟨fun q hq => ?_, by rw [tieH_fp]; exact hh.nodup, by rw [tieH_fp]; exact hh.apart, hh.mem, hh.below, hh.le0, hh.fresh, hh.one⟩
  have : ∀ {H : HS} {q : Nat × PO}, q ∈ tieH ν H → ((∃ cs t, (q.1, PO.box cs t) ∈ H ∧ q.2 = .box cs (some (ν q.1))) ∨ q ∈ H) := by
    intro H
    induction H with
    | nil => intro q h; simp [tieH] at h
    | cons p H ih =>
      intro q h
      obtain ⟨k, p⟩ := p
      cases p with
      | box cs t =>
        simp only [tieH] at h
        rcases List.mem_cons.1 h with rfl | h
        · exact .inl ⟨cs, t, List.mem_cons_self, rfl⟩
        · rcases ih h with ⟨cs', t', h1, h2⟩ | h1
          · exact .inl ⟨cs', t', List.mem_cons_of_mem _ h1, h2⟩
          · exact .inr (List.mem_cons_of_mem _ h1)
      | row sz es =>
        simp only [tieH] at h
        rcases List.mem_cons.1 h with rfl | h
        · exact .inr List.mem_cons_self
        · rcases ih h with ⟨cs', t', h1, h2⟩ | h1
          · exact .inl ⟨cs', t', List.mem_cons_of_mem _ h1, h2⟩
          · exact .inr (List.mem_cons_of_mem _ h1)
      | tab sz es =>
        simp only [tieH] at h
        rcases List.mem_cons.1 h with rfl | h
        · exact .inr List.mem_cons_self
        · rcases ih h with ⟨cs', t', h1, h2⟩ | h1
          · exact .inl ⟨cs', t', List.mem_cons_of_mem _ h1, h2⟩
          · exact .inr (List.mem_cons_of_mem _ h1)
      | mp es =>
        simp only [tieH] at h
        rcases List.mem_cons.1 h with rfl | h
        · exact .inr List.mem_cons_self
        · rcases ih h with ⟨cs', t', h1, h2⟩ | h1
          · exact .inl ⟨cs', t', List.mem_cons_of_mem _ h1, h2⟩
          · exact .inr (List.mem_cons_of_mem _ h1)
  rcases this hq with ⟨cs, t, h1, h2⟩ | h1
  · have := hh.holds _ h1
    rw [h2]
    exact ⟨this.1, fun v hv => by cases hv; rfl⟩
  · exact hh.holds _ h1

theorem pickH_sub (sel : List Nat) : ∀ H : HS, (pickH sel H).Sublist H
  | [] => List.Sublist.slnil
  | (k, .box cs t) :: H => by
    simp only [pickH]
    cases (memN k sel && (SV.concs cs && t.isSome))
    · exact (pickH_sub sel H).cons _
    · exact (pickH_sub sel H).cons_cons _
  | (k, .row _ _) :: H => (pickH_sub sel H).cons _
  | (k, .tab _ _) :: H => (pickH_sub sel H).cons _
  | (k, .mp _) :: H => (pickH_sub sel H).cons _
theorem pickH_tieds (sel : List Nat) : ∀ H : HS, tieds ν (pickH sel (tieH ν H))
  | [] => trivial
  | (k, .box cs t) :: H => by
    simp only [pickH, tieH]
    cases hb : (memN k sel && (SV.concs cs && (some (ν k)).isSome))
    · exact pickH_tieds sel H
    · simp only [Bool.and_eq_true] at hb
      exact ⟨⟨hb.2.1, rfl⟩, pickH_tieds sel H⟩
  | (k, .row _ _) :: H => pickH_tieds sel H
  | (k, .tab _ _) :: H => pickH_tieds sel H
  | (k, .mp _) :: H => pickH_tieds sel H

/-- a region that draws its order, walked after a plan: quiet operations taken first, at what of memory stays (the boxes 'sel', tied; all that is known) -/
theorem DrawK.held {id : Nat} {ops : Array Oper} {K : KP} (sel : List Nat) (sch : Sch) (hm : E.P.follows .mixedOrders = true) (hB : (Region.noSelect ops && schB .any ops sch ops.size (Array.replicate ops.size false)) = true)
    (h : ∀ xs : Nat → Value, stayH (pickH sel (tieH xs H)) (tieH xs H) ∧ wpH E ops.toList (pickH sel (tieH xs H)) M K sch σ (tieH xs H) M) : DrawK E id ops K σ H M := by
  rintro a w ⟨ν, hs, hh⟩
  simp only [Bool.and_eq_true] at hB
  have h1 := tieH_heap (hh.grow ((Below.refl _ _).drew) : Heap E ν H M { w with drawn := w.drawn + 1 })
  exact wp_region_held hm (wpH_sound hB.1 (h1.sublist (pickH_sub sel _)) (pickH_tieds sel H) sch _ _ σ _ M a _ hB.2 ⟨ν, hs, h1⟩ ⟨(h ν).1, Mem.le.refl M⟩ (h ν).2)
/-- .. no box is looked at -/
theorem DrawK.plan {id : Nat} {ops : Array Oper} {K : KP} (sch : Sch) (hm : E.P.follows .mixedOrders = true) (hB : (Region.noSelect ops && schB .any ops sch ops.size (Array.replicate ops.size false)) = true)
    (h : wpH E ops.toList [] M K sch σ H M) : DrawK E id ops K σ H M := by
  rintro a w ⟨ν, hs, hh⟩
  simp only [Bool.and_eq_true] at hB
  have h1 := (hh.grow ((Below.refl _ _).drew) : Heap E ν H M { w with drawn := w.drawn + 1 })
  exact wp_region_held hm (wpH_sound hB.1 (h1.sublist (List.nil_sublist H)) trivial sch _ _ σ _ M a _ hB.2 ⟨ν, hs, h1⟩ ⟨trivial, Mem.le.refl M⟩ h)
end
theorem nzs : (((1 : Nat) ≠ 0) = True) ∧ (((2 : Nat) ≠ 0) = True) ∧ (((3 : Nat) ≠ 0) = True) ∧ (((4 : Nat) ≠ 0) = True) ∧ (∀ k, (Shp.int k ≠ Shp.bad) = True) ∧ ((Shp.str ≠ Shp.bad) = True) ∧ ((Shp.bool ≠ Shp.bad) = True) ∧ ((∀ _ : Nat, True) = True) := by simp
theorem Mem.le_self (M : Mem) : Mem.le M M = True := eq_true (Mem.le.refl M)
theorem se1 : type_of% (And.intro (And.intro (And.intro @wpH.eq_1 @wpH.eq_2) (And.intro @wpH.eq_3 @wpH.eq_4)) (And.intro (And.intro (And.intro @opt1.eq_1 @efC.eq_1) @efK.eq_1) (And.intro @qtK.eq_1 @Mem.le_self))) := And.intro (And.intro (And.intro @wpH.eq_1 @wpH.eq_2) (And.intro @wpH.eq_3 @wpH.eq_4)) (And.intro (And.intro (And.intro @opt1.eq_1 @efC.eq_1) @efK.eq_1) (And.intro @qtK.eq_1 @Mem.le_self))
theorem isS {α : Type} (x : α) : (some x).isSome = true := rfl
theorem se2 : type_of% (And.intro (And.intro (And.intro @stayH.eq_1 @stayH.eq_2) (And.intro @pickH.eq_1 @pickH.eq_2)) (And.intro (And.intro @pickH.eq_3 @tieH.eq_1) (And.intro @tieH.eq_2 (And.intro @tieH.eq_3 @isS)))) := And.intro (And.intro (And.intro @stayH.eq_1 @stayH.eq_2) (And.intro @pickH.eq_1 @pickH.eq_2)) (And.intro (And.intro @pickH.eq_3 @tieH.eq_1) (And.intro @tieH.eq_2 (And.intro @tieH.eq_3 @isS)))
end Go.X

namespace Go.X
open Go Go.RowKit

section
variable {E : Env} {σ : Sig} {H : HS} {M : Mem} {a : Act} {w : World} {ν : Nat → Value} {K : KP}

theorem RowM.one {v : Value} {sz : Nat} {es : List (List Value)} (h : RowM M v sz es) : v.oneCell' = true := by
  have := h.sl
  cases v <;> first | rfl | cases this

/-- a call that hands back what is known -/
theorem CallK.res {f d : Nat} {l : List SV} {R : SV → Mem → Prop} (hl : SV.concs l = true) (hd : decide (d < E.N) = true) (h : Meets E.P f l M (fun r _ M' => R r M')) (hc : ∀ r M', R r M' → r.conc = true)
    (hk : ∀ r M', M.le M' → R r M' → K ((d, true, r) :: σ) H M') : CallK E f l d K σ H M := by
  intro ν a w hs hh
  refine .inl ⟨h.1, ?_⟩
  rw [SV.concs_vals (ν := ν0) (ν' := ν) l hl]
  refine (h.2 w hh.mem).mono ?_
  rintro e w' ⟨s, H', M', ν', rfl, hh', hR⟩
  refine ⟨_, rfl, _, _, _, ⟨ν, hs.put (of_decide_eq_true hd) (by rw [cond_true]; exact SV.conc_val s (hc _ _ hR)), hh.call hh'⟩, hk s M' hh'.le0 hR⟩

/-- what the callee hands back as its own, known from now on -/
theorem Meets.pub {P : Program} {f : FuncId} {args : List SV} {T : SV → SV} {sz : Nat} {Φ : List (List Value) → Mem → Prop} (hT : Ctx T) (hΦ : ∀ es M M', M.le M' → Φ es M → Φ es M')
    (h : Meets P f args M (fun r H M' => ∃ s es, r = T s ∧ IsRow H M' s sz es ∧ Φ es M')) : Meets P f args M (fun r _ M' => ∃ v es, r = T (.v v) ∧ RowM M' v sz es ∧ Φ es M') := by
  refine ⟨h.1, fun w hw => (h.2 w hw).mono ?_⟩
  rintro e w' ⟨s, H', M', ν, rfl, hh, s', es, rfl, hR, hp⟩
  cases s' with
  | v x => exact ⟨_, H', M', ν, rfl, hh, x, es, rfl, hR, hp⟩
  | own k =>
    obtain ⟨M'', h1, h2, h3⟩ := pub_heap hh hR
    refine ⟨T (.v (ν k)), _, M'', ν, ?_, h3, ν k, es, rfl, h2, hΦ _ _ _ h1 hp⟩
    rw [hT (.own k) (.v (ν k)) ν ν rfl]
  | _ => exact hR.elim

/-- nil, as a row of the callee's own -/
theorem Meets.nilOwn {P : Program} {f : FuncId} {args : List SV} {sz : Nat} (h : Meets P f args M (fun r _ _ => r = .v (.slice none 0 0))) : Meets P f args M (OwnR (fun s => s) sz []) := by
  refine ⟨h.1, fun w hw => (h.2 w hw).mono ?_⟩
  rintro e w' ⟨s, H', M', ν, rfl, hh, rfl⟩
  refine ⟨.own 0, [(0, .row sz [])], M', fun _ => .slice none 0 0, rfl, ⟨fun p hp => ?_, by simp [fp, blk?], by simp [fp, blk?], hh.mem, hh.below, hh.le0, hh.fresh, fun _ => rfl⟩, 0, rfl, rfl⟩
  simp only [List.mem_singleton] at hp
  subst hp
  exact ⟨fun e he => by simp at he, .inl ⟨rfl, rfl⟩⟩
end
def tk : List Nat → Sch → Sch
  | [], s => s
  | i :: l, s => .take i (tk l s)
def ones' : List Nat → Sch → Sch
  | [], s => s
  | i :: l, s => .one i (ones' l s)
theorem tks : type_of% (And.intro (And.intro @tk.eq_1 @tk.eq_2) (And.intro @ones'.eq_1 @ones'.eq_2)) := And.intro (And.intro @tk.eq_1 @tk.eq_2) (And.intro @ones'.eq_1 @ones'.eq_2)
theorem l_drop_at {α : Type} {l : List α} {i : Nat} (h : i < l.length) : ∃ x, l[i]? = some x ∧ l.drop i = x :: l.drop (i + 1) :=
  ⟨_, List.getElem?_eq_getElem h, List.drop_eq_getElem_cons h⟩
/-- the place of the first that is so, or -1 -/
def fidx {α : Type} (p : α → Bool) : List α → Nat → Int
  | [], _ => -1
  | x :: l, i => if p x = true then (i : Int) else fidx p l (i + 1)
theorem fidx_iff {α : Type} (p : α → Bool) : ∀ (l : List α) (i : Nat), 0 ≤ fidx p l i ↔ l.any p = true
  | [], i => by simp [fidx]
  | x :: l, i => by
    have := fidx_iff p l (i + 1)
    by_cases hp : p x = true
    · simp [fidx, hp]
    · simp [fidx, hp, this]
theorem fidx_any {α : Type} (p : α → Bool) (l : List α) (i : Nat) : decide (0 ≤ fidx p l i) = l.any p := by
  have := fidx_iff p l i
  cases h : l.any p with
  | true => exact decide_eq_true (this.2 h)
  | false => exact decide_eq_false (fun h' => by rw [this.1 h'] at h; cases h)
end Go.X

namespace Go.X
open Go Go.RowKit

def vv (es : List (List Value)) : List (List SV) := es.map (·.map .v)
theorem vals_v (ν : Nat → Value) : ∀ l : List Value, SV.vals ν (l.map .v) = l
  | [] => rfl
  | x :: l => by simp only [List.map_cons, SV.vals, SV.val, vals_v ν l]
def tabOf : Option PO → Option (Nat × List (List SV))
  | some (.row sz es) => some (sz, vv es)
  | some (.tab sz es) => some (sz, es)
  | _ => none
/-- a part's cells -/
def tabP (sz : Nat) : Nat → List (Nat × SV) → List (List SV) × Prop
  | _, [] => ([], True)
  | j, (i, s) :: r => (cellsSV s :: (tabP sz (j + 1) r).1, ((i = j ∧ (cellsSV s).length = sz) ∧ oneS s = true ∧ ones (cellsSV s) = true) ∧ (tabP sz (j + 1) r).2)

section
variable {E : Env} {σ : Sig} {H : HS} {M : Mem} {a : Act} {w : World} {ν : Nat → Value} {K : KP} {o : Oper}

/-! ### other forms of the same memory -/
def HEnt (E : Env) (H : HS) (M : Mem) (H' : HS) : Prop := ∀ ν w, Heap E ν H M w → Heap E ν H' M w
theorem HEnt.refl : HEnt E H M H := fun _ _ h => h
theorem HEnt.trans {H' H'' : HS} (h : HEnt E H M H') (h' : HEnt E H' M H'') : HEnt E H M H'' := fun ν w x => h' ν w (h ν w x)
theorem OpK.heap {H' : HS} (h : HEnt E H M H') (hk : OpK E o K σ H' M) : OpK E o K σ H M := by
  rintro a w ⟨ν, hs, hh⟩
  exact hk a w ⟨ν, hs, h ν w hh⟩
theorem CallK.heap {f d : Nat} {l : List SV} {H' : HS} (h : HEnt E H M H') (hk : CallK E f l d K σ H' M) : CallK E f l d K σ H M := fun ν a w hs hh => hk ν a w hs (h ν w hh)
theorem LoopK.heap {live : List Nat} {body : Code} {Q : QP} {H' : HS} (h : HEnt E H M H') (hk : LoopK E live body Q σ H' M) : LoopK E live body Q σ H M := by
  rintro a w ⟨ν, hs, hh⟩
  exact hk a w ⟨ν, hs, h ν w hh⟩
theorem DrawK.heap {id : Nat} {ops : Array Oper} {H' : HS} (h : HEnt E H M H') (hk : DrawK E id ops K σ H' M) : DrawK E id ops K σ H M := by
  rintro a w ⟨ν, hs, hh⟩
  exact hk a w ⟨ν, hs, h ν w hh⟩
theorem Ent.heap {S : Sig × HS × Mem} {H' : HS} (h : HEnt E H M H') (hk : Ent E σ H' M S) : Ent E σ H M S := by
  rintro a w ⟨ν, hs, hh⟩
  exact hk a w ⟨ν, hs, h ν w hh⟩
/-- a row whose cells are all known, as such, and the other way round -/
theorem HEnt.set {k : Nat} {p q : PO} (hk : hget H k = some p) (h : ∀ ν w, p.holds ν w (ν k) → q.holds ν w (ν k)) : HEnt E H M (hset k q H) := by
  intro ν w hh
  refine ⟨fun r hr => ?_, by rw [hset_fp]; exact hh.nodup, fun b hb => hh.apart b (by rw [hset_fp] at hb; exact hb), hh.mem, hh.below, hh.le0, hh.fresh, hh.one⟩
  rcases hset_mem hr with rfl | hr
  · exact h ν w (hh.holds _ (hget_mem hk))
  · exact hh.holds _ hr
theorem HEnt.sub {H' : HS} (h : H'.Sublist H) : HEnt E H M H' := fun _ _ hh => hh.sublist h
end
theorem vv_cons (e : List Value) (es : List (List Value)) : vv (e :: es) = e.map .v :: vv es := rfl
theorem vv_len (es : List (List Value)) : (vv es).length = es.length := List.length_map _
theorem noKeys_v (d : Nat) : ∀ l : List Value, SV.noKeys d (l.map .v) = true
  | [] => rfl
  | x :: l => by simp only [List.map_cons, SV.noKeys, SV.noKey, noKeys_v d l, Bool.and_self]
theorem noKeyss_vv (d : Nat) : ∀ es : List (List Value), noKeyss d (vv es) = true
  | [] => rfl
  | e :: r => by rw [vv_cons, noKeyss, noKeys_v, noKeyss_vv d r]; rfl
theorem noKeyss_app (d : Nat) : ∀ es es' : List (List SV), noKeyss d (es ++ es') = (noKeyss d es && noKeyss d es')
  | [], es' => by simp [noKeyss]
  | e :: r, es' => by rw [List.cons_append, noKeyss, noKeyss, noKeyss_app d r es', Bool.and_assoc]
theorem pubs_v (k : Nat) (v : Value) : ∀ l : List Value, SV.pubs k v (l.map .v) = l.map .v
  | [] => rfl
  | x :: l => by simp only [List.map_cons, SV.pubs, SV.pub, pubs_v k v l]
theorem pubss_vv (k : Nat) (v : Value) : ∀ es : List (List Value), pubss k v (vv es) = vv es
  | [] => rfl
  | e :: r => by rw [vv_cons, pubss, pubs_v, pubss_vv k v r]
theorem pubss_app (k : Nat) (v : Value) : ∀ es es' : List (List SV), pubss k v (es ++ es') = pubss k v es ++ pubss k v es'
  | [], _ => rfl
  | e :: r, es' => by rw [List.cons_append, pubss, pubss, pubss_app k v r es', List.cons_append]
theorem tieH_mp (xs : Nat → Value) (k : Nat) (es : List (Value × Value)) (H : HS) : tieH xs ((k, .mp es) :: H) = (k, .mp es) :: tieH xs H := rfl
theorem pickH_mp (sel : List Nat) (k : Nat) (es : List (Value × Value)) (H : HS) : pickH sel ((k, .mp es) :: H) = pickH sel H := rfl
theorem tieH_tab (xs : Nat → Value) (k sz : Nat) (es : List (List SV)) (H : HS) : tieH xs ((k, .tab sz es) :: H) = (k, .tab sz es) :: tieH xs H := rfl
theorem pickH_tab (sel : List Nat) (k sz : Nat) (es : List (List SV)) (H : HS) : pickH sel ((k, .tab sz es) :: H) = pickH sel H := rfl
theorem st1 : type_of% (And.intro (And.intro (And.intro (And.intro @tieH_tab @tieH_mp) (And.intro @pickH_mp @pickH_tab)) (And.intro (And.intro @tabOf.eq_1 @tabOf.eq_2) (And.intro @tabP.eq_1 @tabP.eq_2))) (And.intro (And.intro (And.intro @vv_len @noKeyss_vv) (And.intro @noKeyss_app @pubss_vv)) @pubss_app)) :=
  And.intro (And.intro (And.intro (And.intro @tieH_tab @tieH_mp) (And.intro @pickH_mp @pickH_tab)) (And.intro (And.intro @tabOf.eq_1 @tabOf.eq_2) (And.intro @tabP.eq_1 @tabP.eq_2))) (And.intro (And.intro (And.intro @vv_len @noKeyss_vv) (And.intro @noKeyss_app @pubss_vv)) @pubss_app)
end Go.X

namespace Go.X
open Go Go.RowKit

def enumK : Nat → List PO → HS
  | _, [] => []
  | k, p :: r => (k, p) :: enumK (k + 1) r
def heldL (H : HS) : List Nat → List PO → Prop
  | [], [] => True
  | k :: ks, p :: ps => hget H k = some p ∧ heldL H ks ps
  | _, _ => False
def ksv (ks : List Nat) : Nat → SV := fun i => .own (ks.getD i 0)
def kd (d : Nat) : Nat → SV := fun i => .own (d + i)
/-- the same entries, the rows under other names -/
def alike (ν ν' : Nat → Value) : List PO → List PO → Prop
  | [], [] => True
  | p :: ps, q :: qs => (∀ w x, p.holds ν w x → q.holds ν' w x) ∧ alike ν ν' ps qs
  | _, _ => False
def sigConcA : List Nat → Sig → Sig
  | _, [] => []
  | D, (j, g, s) :: σ => bif memN j D then sigConcA D σ else bif s.conc then (j, g, s) :: sigConcA D σ else sigConcA (j :: D) σ
def sigConc (σ : Sig) : Sig := sigConcA [] σ

section
variable {E : Env} {σ : Sig} {H : HS} {M : Mem} {a : Act} {w : World} {ν : Nat → Value} {K : KP} {o : Oper}

theorem sigConcA_lk : ∀ {σ : Sig} {D : List Nat} {k : Nat} {p : Bool × SV}, lk (sigConcA D σ) k = some p → memN k D = false ∧ lk σ k = some p ∧ p.2.conc = true
  | [], D, k, p, h => by simp [sigConcA, lk] at h
  | (j, g, s) :: σ, D, k, p, h => by
    simp only [sigConcA] at h
    cases hm : memN j D with
    | true =>
      rw [hm, cond_true] at h
      obtain ⟨h1, h2, h3⟩ := sigConcA_lk h
      refine ⟨h1, ?_, h3⟩
      simp only [lk]
      rw [if_neg (fun e => by rw [e, hm] at h1; cases h1)]
      exact h2
    | false =>
      rw [hm, cond_false] at h
      cases hc : s.conc with
      | true =>
        rw [hc, cond_true] at h
        simp only [lk] at h
        split at h
        · rename_i e
          subst e
          simp only [Option.some.injEq] at h
          subst h
          exact ⟨hm, by simp [lk], hc⟩
        · rename_i e
          obtain ⟨h1, h2, h3⟩ := sigConcA_lk h
          exact ⟨h1, by simp only [lk]; rw [if_neg e]; exact h2, h3⟩
      | false =>
        rw [hc, cond_false] at h
        obtain ⟨h1, h2, h3⟩ := sigConcA_lk h
        simp only [memN] at h1
        split at h1
        · cases h1
        · rename_i e
          exact ⟨h1, by simp only [lk]; rw [if_neg e]; exact h2, h3⟩
theorem Slots.concs {N : Nat} {ν' : Nat → Value} (hs : Slots N ν σ a) : Slots N ν' (sigConc σ) a :=
  ⟨hs.1, hs.2.1, fun k g s hk => by
    obtain ⟨_, h2, h3⟩ := sigConcA_lk hk
    rw [hs.2.2 k g s h2, SV.conc_val s h3]⟩

theorem heldL_mem : ∀ {ks : List Nat} {ps : List PO} {k : Nat}, heldL H ks ps → k ∈ ks → ∃ p, hget H k = some p
  | [], [], k, _, hk => by cases hk
  | j :: ks, p :: ps, k, h, hk => by
    rcases List.mem_cons.1 hk with rfl | hk
    · exact ⟨p, h.1⟩
    · exact heldL_mem h.2 hk
theorem heldL_len : ∀ {ks : List Nat} {ps : List PO}, heldL H ks ps → ks.length = ps.length
  | [], [], _ => rfl
  | j :: ks, p :: ps, h => by simp only [List.length_cons, heldL_len h.2]
theorem alike_len {ν ν' : Nat → Value} : ∀ {ps qs : List PO}, alike ν ν' ps qs → ps.length = qs.length
  | [], [], _ => rfl
  | p :: ps, q :: qs, h => by simp only [List.length_cons, alike_len h.2]
theorem blks_nodup (hh : Heap E ν H M w) : ∀ {ks : List Nat} {ps : List PO}, heldL H ks ps → ks.Nodup → (ks.filterMap fun k => blk? (ν k)).Nodup
  | [], _, _, _ => by simp
  | k :: ks, p :: ps, h, hn => by
    obtain ⟨hn1, hn2⟩ := List.nodup_cons.1 hn
    have ih := blks_nodup hh h.2 hn2
    rw [List.filterMap_cons]
    split
    · exact ih
    · rename_i b hb
      refine List.nodup_cons.2 ⟨fun hm => ?_, ih⟩
      obtain ⟨k', hk', hb'⟩ := List.mem_filterMap.1 hm
      obtain ⟨p', hp'⟩ := heldL_mem h.2 hk'
      exact blk_ne hh h.1 hb _ (hget_mem hp') (fun e => hn1 (e ▸ hk')) hb'
theorem enumK_fp {ν ν2 : Nat → Value} : ∀ {ks : List Nat} {qs : List PO} {base : Nat}, ks.length = qs.length → (∀ i, i < ks.length → ν2 (base + i) = ν (ks.getD i 0)) → fp ν2 (enumK base qs) = ks.filterMap fun k => blk? (ν k)
  | [], [], _, _, _ => rfl
  | k :: ks, q :: qs, base, hl, h => by
    have h0 := h 0 (by simp)
    simp only [Nat.add_zero, List.getD_cons_zero] at h0
    have ih := enumK_fp (ν := ν) (ν2 := ν2) (ks := ks) (qs := qs) (base := base + 1) (by simpa using hl) (fun i hi => by
      have := h (i + 1) (by simp; omega)
      rw [List.getD_cons_succ] at this
      rw [← this]
      congr 1
      omega)
    simp only [enumK, fp, List.filterMap_cons, h0] at ih ⊢
    rw [ih]
theorem enumK_mem : ∀ {qs : List PO} {base : Nat} {r : Nat × PO}, r ∈ enumK base qs → ∃ i, qs[i]? = some r.2 ∧ r.1 = base + i
  | q :: qs, base, r, h => by
    simp only [enumK] at h
    rcases List.mem_cons.1 h with rfl | h
    · exact ⟨0, rfl, rfl⟩
    · obtain ⟨i, h1, h2⟩ := enumK_mem h
      exact ⟨i + 1, by simpa using h1, by omega⟩
theorem alike_at {ν ν' : Nat → Value} : ∀ {ps qs : List PO} {i : Nat} {q : PO}, alike ν ν' ps qs → qs[i]? = some q → ∃ p, ps[i]? = some p ∧ ∀ w x, p.holds ν w x → q.holds ν' w x
  | p :: ps, q0 :: qs, 0, q, h, hi => by
    simp only [List.getElem?_cons_zero, Option.some.injEq] at hi
    subst hi
    exact ⟨p, rfl, h.1⟩
  | p :: ps, q0 :: qs, i + 1, q, h, hi => by
    simp only [List.getElem?_cons_succ] at hi
    obtain ⟨p', h1, h2⟩ := alike_at h.2 hi
    exact ⟨p', by simpa using h1, h2⟩
  | [], [], i, q, _, hi => by simp at hi
theorem heldL_at : ∀ {ks : List Nat} {ps : List PO} {i : Nat} {p : PO}, heldL H ks ps → ps[i]? = some p → hget H (ks.getD i 0) = some p
  | k :: ks, p0 :: ps, 0, p, h, hi => by
    simp only [List.getElem?_cons_zero, Option.some.injEq] at hi
    subst hi
    exact h.1
  | k :: ks, p0 :: ps, i + 1, p, h, hi => by
    simp only [List.getElem?_cons_succ] at hi
    rw [List.getD_cons_succ]
    exact heldL_at h.2 hi
  | [], [], i, p, _, hi => by simp at hi

/-- some of the entries, under other keys -/
theorem Heap.pick {N : Nat} (hh : Heap E ν H M w) {ks : List Nat} {ps qs : List PO} (hn : ks.Nodup) (hl : heldL H ks ps) {ν2 : Nat → Value} (ha : alike ν ν2 ps qs) {base : Nat} (hν : ∀ i, i < ks.length → ν2 (base + i) = ν (ks.getD i 0)) (h1 : ∀ k, (ν2 k).oneCell' = true) :
    Heap ⟨E.P, N, E.w0, E.M0⟩ ν2 (enumK base qs) M w := by
  have hlen : ks.length = qs.length := (heldL_len hl).trans (alike_len ha)
  have hf := enumK_fp (ν := ν) (ν2 := ν2) (base := base) hlen hν
  refine ⟨fun r hr => ?_, by rw [hf]; exact blks_nodup hh hl hn, fun b hb => ?_, hh.mem, hh.below, hh.le0, hh.fresh, h1⟩
  · obtain ⟨i, hi, he⟩ := enumK_mem hr
    obtain ⟨p, hp, hpq⟩ := alike_at ha hi
    have hil : i < ks.length := by rw [hlen]; exact (List.getElem?_eq_some_iff.1 hi).1
    have := hh.holds _ (hget_mem (heldL_at hl hp))
    rw [he, hν i hil]
    exact hpq _ _ this
  · rw [hf] at hb
    obtain ⟨k, hk, hkb⟩ := List.mem_filterMap.1 hb
    obtain ⟨p, hp⟩ := heldL_mem hl hk
    exact hh.apart b (List.mem_filterMap.2 ⟨_, hget_mem hp, hkb⟩)

/-- THE CONTRACT of a function that is lent rows. -/
def MeetsH (P : Program) (f : FuncId) (args : List SV) (H : HS) (M : Mem) (R : RP) : Prop :=
  callable P f ∧ ∀ (w0 : World) (M0 : Mem) (ν : Nat → Value) (w : World), Heap ⟨P, 0, w0, M0⟩ ν H M w → Calls P f (SV.vals ν args).toArray w fun e w' => ∃ s H' M' ν', e = .returned (s.val ν') ∧ Heap ⟨P, 0, w0, M0⟩ ν' H' M' w' ∧ R s H' M'
theorem MeetsH.mono {P : Program} {f : FuncId} {args : List SV} {R R' : RP} (h : MeetsH P f args H M R) (hr : ∀ s H' M', R s H' M' → R' s H' M') : MeetsH P f args H M R' :=
  ⟨h.1, fun w0 M0 ν w hh => (h.2 w0 M0 ν w hh).mono fun _ _ ⟨s, H', M', ν', h1, h2, h3⟩ => ⟨s, H', M', ν', h1, h2, hr _ _ _ h3⟩⟩
theorem MeetsH.of_body {P : Program} {f : FuncId} {fn : Func} {c : Code} {args : List SV} {R : RP} (live : List Nat) (hf : P.funcs[f]? = some fn) (hb : fn.body = some c) (hn : okFn fn args.length = true)
    (h : ∀ w M0, wpC ⟨P, fn.ntmps, w, M0⟩ live c (RetK P fn.results.toList R) (params fn.ntmps 0 args) H M) : MeetsH P f args H M R := by
  simp only [okFn, Bool.and_eq_true, Bool.not_eq_true', decide_eq_true_eq] at hn
  refine ⟨⟨fn, hf, hn.1.1, hn.1.2⟩, fun w0 M0 ν w hh => ?_⟩
  refine calls_of_wp hf hb ?_
  have hlen : (SV.vals ν args).length = args.length := by rw [SV.vals_map]; simp
  have hheap : Heap ⟨P, fn.ntmps, w0, M0⟩ ν H M w := ⟨hh.holds, hh.nodup, hh.apart, hh.mem, hh.below, hh.le0, hh.fresh, hh.one⟩
  refine Code.wp_mono ?_ (wpC_sound c _ _ _ _ (h w0 M0) _ w ⟨ν, ⟨?_, rfl, ?_⟩, hheap⟩)
  · rintro e a w' ⟨σ, H, M', ⟨ν, hs, hh⟩, hq⟩
    have key : (match rsvs P σ H M' fn.results.toList with | some (ss, C) => C ∧ R (one? ss) H M' | none => False) → a.defers = [] ∧ ∃ v, (results fn a.tmps).run P w' = .ok v w' ∧ ∃ s H' M' ν, Ending.returned v = .returned (s.val ν) ∧ Heap ⟨P, 0, w0, M0⟩ ν H' M' w' ∧ R s H' M' := by
      intro hq
      split at hq
      · rename_i ss C hr
        exact ⟨hs.2.1, _, results_sound hs hh hr hq.1, _, _, _, ν, rfl, ⟨hh.holds, hh.nodup, hh.apart, hh.mem, hh.below, hh.le0, hh.fresh, hh.one⟩, hq.2⟩
      · exact hq.elim
    cases e with
    | normal => exact key hq
    | ret => exact key hq
    | _ => exact hq.elim
  · simp only [Array.size_append, List.size_toArray, Array.size_replicate, hlen]; omega
  · intro k g s hk
    obtain ⟨i, rfl, hg, hi⟩ := lk_params hk
    simp only at hg hi
    subst hg
    have hlt : i < args.length := (List.getElem?_eq_some_iff.1 hi).1
    rw [Array.getElem?_append_left (by simp only [List.size_toArray, hlen]; omega), List.getElem?_toArray, SV.vals_map, List.getElem?_map, Nat.zero_add, hi]
    rfl

theorem hget_hpub {k k2 : Nat} {v : Value} {p : PO} (hne : k ≠ k2) : ∀ {H : HS}, hget H k = some p → hget (hpub k2 v H) k = some (poPub k2 v p)
  | [], h => by simp [hget] at h
  | (j, q) :: H, h => by
    simp only [hget] at h
    simp only [hpub]
    split at h
    · rename_i e
      subst e
      rw [if_neg hne]
      simp only [Option.some.injEq] at h
      subst h
      simp only [hget, if_true]
    · rename_i e
      split
      · exact hget_hpub hne h
      · simp only [hget, if_neg e]
        exact hget_hpub hne h
theorem HEnt.untie {k : Nat} {cs : List SV} {t : Option Value} (hk : hget H k = some (.box cs t)) : HEnt E H M (hset k (.box cs none) H) :=
  HEnt.set hk fun ν w h => ⟨h.1, fun v hv => by cases hv⟩
/-- a region's ways, led to one end -/
theorem DrawK.ent {id : Nat} {ops : Array Oper} {X : Type} (I : X → Prop) (S : X → Sig × HS × Mem) (h : DrawK E id ops (fun σ H M => ∃ x, I x ∧ Ent E σ H M (S x)) σ H M) (hk : ∀ x, I x → K (S x).1 (S x).2.1 (S x).2.2) : DrawK E id ops K σ H M := by
  intro a w hr
  refine Code.wp_mono ?_ (h a w hr)
  rintro e a' w' ⟨rfl, σ', H', M', hr', x, hx, he⟩
  exact ⟨rfl, _, _, _, he a' w' hr', hk x hx⟩

/-! ### publishing a box -/
def BoxM (M : Mem) (b : Nat) (cs : List Value) : Prop := ∀ j c, cs[j]? = some c → cellM M ⟨b, j, none⟩ = some c
theorem BoxM.le {M M' : Mem} {b : Nat} {cs : List Value} (h : BoxM M b cs) (hle : M.le M') : BoxM M' b cs := fun j c hc => cellM_le hle (h j c hc)
theorem BoxM.at {M : Mem} {b : Nat} {cs : List Value} (h : BoxM M b cs) {j : Nat} {c : Value} (hc : cs[j]? = some c) : elP M ⟨b, 0, none⟩ j = c ∧ okP M ⟨b, 0, none⟩ j := by
  have e : (⟨b, 0, none⟩ : Addr).add j = ⟨b, j, none⟩ := by unfold Addr.add; split <;> simp_all
  have := h j c hc
  unfold elP okP
  rw [e, this]
  exact ⟨rfl, rfl⟩
mutual
def SV.pubP (k b : Nat) : SV → SV
  | .v x => .v x
  | .own j => if j = k then .v (.pointer (some ⟨b, 0, none⟩)) else .own j
  | .ptr j sz i off => if j = k then .v (.pointer (some ⟨b, i * sz + off, none⟩)) else .ptr j sz i off
  | .ea x a b c => .ea x a b c
  | .agg l => .agg (SV.pubPs k b l)
  | .tup l => .tup (SV.pubPs k b l)
  | .fn f l => .fn f (SV.pubPs k b l)
def SV.pubPs (k b : Nat) : List SV → List SV
  | [] => []
  | s :: l => SV.pubP k b s :: SV.pubPs k b l
end
mutual
theorem SV.pubP_val {ν : Nat → Value} {k b : Nat} (h : ν k = .pointer (some ⟨b, 0, none⟩)) : ∀ s : SV, (s.pubP k b).val ν = s.val ν
  | .v _ => rfl
  | .own j => by
    simp only [SV.pubP]
    split
    · rename_i e; subst e; simp only [SV.val, h]
    · rfl
  | .ptr j _ _ _ => by
    simp only [SV.pubP]
    split
    · rename_i e; subst e; simp only [SV.val, h, bOf]
    · rfl
  | .ea _ _ _ _ => rfl
  | .agg l => by simp only [SV.pubP, SV.val, SV.pubPs_vals h l]
  | .tup l => by simp only [SV.pubP, SV.val, SV.pubPs_vals h l]
  | .fn _ l => by simp only [SV.pubP, SV.val, SV.pubPs_vals h l]
theorem SV.pubPs_vals {ν : Nat → Value} {k b : Nat} (h : ν k = .pointer (some ⟨b, 0, none⟩)) : ∀ l : List SV, SV.vals ν (SV.pubPs k b l) = SV.vals ν l
  | [] => rfl
  | s :: l => by simp only [SV.pubPs, SV.vals, SV.pubP_val h s, SV.pubPs_vals h l]
end
def sigPubP (k b : Nat) : Sig → Sig
  | [] => []
  | (j, g, s) :: σ => (j, g, s.pubP k b) :: sigPubP k b σ
theorem lk_pubP {k b : Nat} : ∀ {σ : Sig} {j : Nat} {g : Bool} {s : SV}, lk (sigPubP k b σ) j = some (g, s) → ∃ s', s = s'.pubP k b ∧ lk σ j = some (g, s')
  | [], j, g, s, h => by simp [sigPubP, lk] at h
  | (j0, g0, s0) :: σ, j, g, s, h => by
    simp only [sigPubP, lk] at h
    simp only [lk]
    split at h
    · rename_i e
      rw [if_pos e]
      simp only [Option.some.injEq, Prod.mk.injEq] at h
      obtain ⟨rfl, rfl⟩ := h
      exact ⟨s0, rfl, rfl⟩
    · rename_i e
      rw [if_neg e]
      exact lk_pubP h
theorem pubP_slots {N k b : Nat} (h : ν k = .pointer (some ⟨b, 0, none⟩)) (hs : Slots N ν σ a) : Slots N ν (sigPubP k b σ) a :=
  ⟨hs.1, hs.2.1, fun j g s hj => by
    obtain ⟨s', rfl, h'⟩ := lk_pubP hj
    rw [hs.2.2 j g s' h', SV.pubP_val h]⟩
theorem pubP_heap {k : Nat} {cs : List SV} {t : Option Value} (hh : Heap E ν H M w) (hk : hget H k = some (.box cs t)) (hc : SV.concs cs = true) :
    ∃ b M', ν k = .pointer (some ⟨b, 0, none⟩) ∧ M.le M' ∧ BoxM M' b (SV.vals ν0 cs) ∧ Heap E ν (hdelk k H) M' w := by
  obtain ⟨⟨b, T, hν, hb⟩, _⟩ := hh.holds _ (hget_mem hk)
  simp only at hν
  have hkb : blk? (ν k) = some b := by rw [hν]; rfl
  obtain ⟨hMb, hBb⟩ := hh.apart b (List.mem_filterMap.2 ⟨(k, _), hget_mem hk, hkb⟩)
  let M' : Mem := fun c => if c = b then some (.cells (SV.vals ν cs).toArray T (0, 0)) else M c
  have hM'b : M' b = some (.cells (SV.vals ν cs).toArray T (0, 0)) := by simp [M']
  have hle : M.le M' := fun c o hc => by
    simp only [M']
    rw [if_neg (fun e => by rw [e, hMb] at hc; cases hc)]
    exact hc
  have h1 := hh.sublist (hdelk_sub k H)
  refine ⟨b, M', hν, hle, fun j c hj => ?_, h1.holds, h1.nodup, fun c hc => ?_, fun c o hc => ?_, hh.below, hh.le0.trans hle, fun c hc => ?_, hh.one⟩
  · simp only [cellM, hM'b]
    simp only [Option.isSome_none, Bool.false_eq_true, if_false, List.getElem?_toArray]
    rw [SV.concs_vals (ν := ν0) (ν' := ν) cs hc]
    exact hj
  · have hcb : c ≠ b := by
      rintro rfl
      exact fp_hdelk hh hk hkb 0 _ (hdelk_sub k H) (hdelk_ne k H) hc
    simp only [M', if_neg hcb]
    exact h1.apart c hc
  · simp only [M'] at hc
    split at hc
    · rename_i e
      subst e
      simp only [Option.some.injEq] at hc
      subst hc
      exact hb
    · exact hh.mem c o hc
  · simp only [M'] at hc
    split at hc
    · rename_i e
      subst e
      exact .inr hBb
    · exact hh.fresh c hc
theorem CallK.pubB {f d k : Nat} {l : List SV} {cs : List SV} {t : Option Value} (hk : hget H k = some (.box cs t)) (hc : SV.concs cs = true)
    (h : ∀ b M', M.le M' → BoxM M' b (SV.vals ν0 cs) → CallK E f (SV.pubPs k b l) d K (sigPubP k b σ) (hdelk k H) M') : CallK E f l d K σ H M := by
  intro ν a w hs hh
  obtain ⟨b, M', hν, h1, h2, h3⟩ := pubP_heap hh hk hc
  have := h b M' h1 h2 ν a w (pubP_slots hν hs) h3
  rw [SV.pubPs_vals hν] at this
  exact this
theorem OpK.pubB {k : Nat} {cs : List SV} {t : Option Value} (hk : hget H k = some (.box cs t)) (hc : SV.concs cs = true)
    (h : ∀ b M', M.le M' → BoxM M' b (SV.vals ν0 cs) → OpK E o K (sigPubP k b σ) (hdelk k H) M') : OpK E o K σ H M := by
  rintro a w ⟨ν, hs, hh⟩
  obtain ⟨b, M', hν, h1, h2, h3⟩ := pubP_heap hh hk hc
  exact h b M' h1 h2 a w ⟨ν, pubP_slots hν hs, h3⟩
theorem LoopK.pubB {live : List Nat} {body : Code} {Q : QP} {k : Nat} {cs : List SV} {t : Option Value} (hk : hget H k = some (.box cs t)) (hc : SV.concs cs = true)
    (h : ∀ b M', M.le M' → BoxM M' b (SV.vals ν0 cs) → LoopK E live body Q (sigPubP k b σ) (hdelk k H) M') : LoopK E live body Q σ H M := by
  rintro a w ⟨ν, hs, hh⟩
  obtain ⟨b, M', hν, h1, h2, h3⟩ := pubP_heap hh hk hc
  exact h b M' h1 h2 a w ⟨ν, pubP_slots hν hs, h3⟩
theorem DrawK.pubB {id : Nat} {ops : Array Oper} {k : Nat} {cs : List SV} {t : Option Value} (hk : hget H k = some (.box cs t)) (hc : SV.concs cs = true)
    (h : ∀ b M', M.le M' → BoxM M' b (SV.vals ν0 cs) → DrawK E id ops K (sigPubP k b σ) (hdelk k H) M') : DrawK E id ops K σ H M := by
  rintro a w ⟨ν, hs, hh⟩
  obtain ⟨b, M', hν, h1, h2, h3⟩ := pubP_heap hh hk hc
  exact h b M' h1 h2 a w ⟨ν, pubP_slots hν hs, h3⟩
end
theorem shA1 : type_of% (And.intro (And.intro (And.intro @enumK.eq_1 @enumK.eq_2) (And.intro @kd.eq_1 @ksv.eq_1)) (And.intro (And.intro (And.intro @sigConcA.eq_1 @sigConcA.eq_2) (And.intro @sigConc.eq_1 @heldL.eq_1)) (And.intro @heldL.eq_2 @sigPubP.eq_1))) := And.intro (And.intro (And.intro @enumK.eq_1 @enumK.eq_2) (And.intro @kd.eq_1 @ksv.eq_1)) (And.intro (And.intro (And.intro @sigConcA.eq_1 @sigConcA.eq_2) (And.intro @sigConc.eq_1 @heldL.eq_1)) (And.intro @heldL.eq_2 @sigPubP.eq_1))
theorem shA2 : type_of% (And.intro (And.intro (And.intro @sigPubP.eq_2 @SV.pubP.eq_1) (And.intro @SV.pubP.eq_2 @SV.pubP.eq_3)) (And.intro (And.intro (And.intro @SV.pubP.eq_4 @SV.pubP.eq_5) (And.intro @SV.pubP.eq_6 @SV.pubP.eq_7)) (And.intro @SV.pubPs.eq_1 @SV.pubPs.eq_2))) := And.intro (And.intro (And.intro @sigPubP.eq_2 @SV.pubP.eq_1) (And.intro @SV.pubP.eq_2 @SV.pubP.eq_3)) (And.intro (And.intro (And.intro @SV.pubP.eq_4 @SV.pubP.eq_5) (And.intro @SV.pubP.eq_6 @SV.pubP.eq_7)) (And.intro @SV.pubPs.eq_1 @SV.pubPs.eq_2))
end Go.X

namespace Go.X
open Go Go.RowKit

section
variable {E : Env} {σ : Sig} {H : HS} {M : Mem} {a : Act} {w : World} {ν : Nat → Value} {K : KP} {o : Oper}

theorem Heap.setPO {k : Nat} {p q : PO} (hh : Heap E ν H M w) (hk : hget H k = some p) (h : p.holds ν w (ν k) → q.holds ν w (ν k)) : Heap E ν (hset k q H) M w := by
  refine ⟨fun r hr => ?_, by rw [hset_fp]; exact hh.nodup, fun b hb => hh.apart b (by rw [hset_fp] at hb; exact hb), hh.mem, hh.below, hh.le0, hh.fresh, hh.one⟩
  rcases hset_mem hr with rfl | hr
  · exact h (hh.holds _ (hget_mem hk))
  · exact hh.holds _ hr
abbrev ptrV (b : Nat) : Value := .pointer (some ⟨b, 0, none⟩)
/-- a nil slice in a box, as a row of the call's own -/
theorem CallK.nilBox {f d : Nat} {l : List SV} (k j e sz : Nat) {cs : List SV} {t : Option Value} (hk : hget H k = some (.box cs t)) (hj : cs[j]? = some (.v (.slice none 0 0))) (hke : (k / 8 == e) = false) (hl : SV.noKeys e l = true) (hn : hNoKey e H = true) (hs' : sigNoKey e σ = true)
    (h : CallK E f l d K σ ((8 * e, .row sz []) :: hset k (.box (cs.set j (.own (8 * e))) t) H) M) : CallK E f l d K σ H M := by
  intro ν a w hs hh
  let ν2 : Nat → Value := fun i => if i / 8 = e then .slice none 0 0 else ν i
  have hν : ∀ i, i / 8 ≠ e → ν2 i = ν i := fun i hi => by simp [ν2, hi]
  have hν8 : ν2 (8 * e) = .slice none 0 0 := by simp [ν2, show (8 * e) / 8 = e by omega]
  have hke' : k / 8 ≠ e := by simpa using hke
  have h1 : Heap E ν2 ((8 * e, .row sz []) :: H) M w := by
    refine hh.add hn hν (fun i => ?_) ?_ (fun b hb => by rw [hν8] at hb; simp [blk?] at hb)
    · by_cases hi : i / 8 = e
      · simp [ν2, hi, Value.oneCell']
      · simp only [ν2, hi, if_false]; exact hh.one i
    · rw [hν8]
      exact ⟨fun e he => by simp at he, .inl ⟨rfl, rfl⟩⟩
  have hne : ¬ 8 * e = k := fun he => hke' (by omega)
  have h2 : Heap E ν2 ((8 * e, .row sz []) :: hset k (.box (cs.set j (.own (8 * e))) t) H) M w := by
    have h3 := h1.setPO (k := k) (p := .box cs t) (q := .box (cs.set j (.own (8 * e))) t) (by simp only [hget]; rw [if_neg (fun e' => hne e'.symm)]; exact hk) (fun hx => by
      obtain ⟨⟨b, T, e1, e2⟩, e3⟩ := hx
      refine ⟨⟨b, T, e1, ?_⟩, e3⟩
      rw [e2]
      congr 3
      rw [SV.vals_map, SV.vals_map, List.map_set]
      apply List.ext_getElem?
      intro i
      rw [List.getElem?_set]
      split
      · rename_i ei
        subst ei
        have hjl : j < cs.length := (List.getElem?_eq_some_iff.1 hj).1
        rw [List.length_map, if_pos hjl, List.getElem?_map, hj]
        simp only [Option.map_some, SV.val, hν8]
      · rfl)
    simp only [hset, if_neg hne] at h3
    exact h3
  have := h ν2 a w ⟨hs.1, hs.2.1, fun i g s hi => by rw [hs.2.2 i g s hi, SV.val_congr hν s (sigNoKey_lk hs' hi)]⟩ h2
  rw [SV.vals_congr hν l hl] at this
  exact this
end
theorem BoxM.at' {M : Mem} {b : Nat} {cs : List Value} (h : BoxM M b cs) {j : Nat} {c : Value} (hc : cs[j]? = some c) : elP M ((⟨b, 0, none⟩ : Addr).add j) 0 = c ∧ okP M ((⟨b, 0, none⟩ : Addr).add j) 0 := by
  have := h.at hc
  unfold elP okP at this ⊢
  rw [Addr.add_add, Nat.add_zero]
  exact this
end Go.X

