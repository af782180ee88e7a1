/- Contracts of functions and the logic that they are proved in (4 texts in one). Conditions: none. -/
import Derived.Test.YteebcojoghnlnaaMg5
import Derived.Test.YteebcojoghnlnaaMg3
import Derived.Test.YteebcojoghnlnaaMg13
namespace Go.X.Pol
end Go.X.Pol
namespace Go.X.Pl
end Go.X.Pl
namespace Go.X.Rp
end Go.X.Rp
namespace Go.X.Pd
end Go.X.Pd
namespace Go.X.Md
end Go.X.Md
namespace Go.X.Mv
end Go.X.Mv
namespace Go.X.Pt
end Go.X.Pt
namespace Go.X.Bg
end Go.X.Bg
namespace Go.X.Nm
end Go.X.Nm
namespace Go.X.Bp
end Go.X.Bp
namespace Go.X.Sb
end Go.X.Sb
set_option linter.unusedSimpArgs false
set_option linter.unusedVariables false
set_option maxHeartbeats 4000000
set_option maxRecDepth 20000
namespace Go.X.Cu
open Go Go.X Go.X.Pol Go.X.Pl Go.X.Rp Go.X.Pd Go.X.Md Go.X.Mv Go.X.Pt

def encN (k : Nat) : List Value := [.int .i64 (k : Int)]

/-- what is looked at ahead of place e -/
def win (t : List UInt8) (e : Nat) : List UInt8 := if 8 < e then (t.drop (e - 8)).take 8 else t.take e
def hit (mask : Nat) (t : List UInt8) (e : Nat) : Prop := prf 65581 (win t e) 1 &&& mask = mask
instance (mask : Nat) (t : List UInt8) (e : Nat) : Decidable (hit mask t e) := inferInstanceAs (Decidable (_ = _))
def fe (most mask : Nat) (t : List UInt8) : Nat → Nat → Nat
  | 0, e => e
  | f + 1, e => if e < t.length ∧ e ≠ most ∧ ¬ hit mask t e then fe most mask t f (e + 1) else e
def endN (least most mask : Nat) (t : List UInt8) : Nat := fe most mask t (t.length - min t.length least) (min t.length least)
theorem fe_ge (most mask : Nat) (t : List UInt8) : ∀ f e, e ≤ fe most mask t f e
  | 0, e => Nat.le_refl _
  | f + 1, e => by
    simp only [fe]
    split
    · have := fe_ge most mask t f (e + 1); omega
    · exact Nat.le_refl _
theorem fe_le (most mask : Nat) (t : List UInt8) : ∀ f e, fe most mask t f e ≤ e + f
  | 0, e => Nat.le_refl _
  | f + 1, e => by
    simp only [fe]
    split
    · have := fe_le most mask t f (e + 1); omega
    · omega
theorem fe_stop {most mask : Nat} {t : List UInt8} {f e : Nat} (h : ¬ (e < t.length ∧ e ≠ most ∧ ¬ hit mask t e)) : fe most mask t f e = e := by
  cases f with
  | zero => rfl
  | succ f => simp only [fe, if_neg h]
def ends (least most mask : Nat) : Nat → List UInt8 → List Nat
  | 0, _ => []
  | f + 1, t => if t = [] then [] else endN least most mask t :: (ends least most mask f (t.drop (endN least most mask t))).map (· + endN least most mask t)
theorem ends_nil (least most mask f : Nat) : ends least most mask f [] = [] := by cases f <;> rfl

theorem prf_le (m : Nat) (h0 : m ≠ 0) (hm : m ≤ 2147483647) : ∀ (s : List UInt8) (p : Nat), p ≤ 1073741824 → prf m s p ≤ 1073741824
  | [], p, h => h
  | b :: s, p, h => by
    simp only [prf, List.foldl_cons]
    exact prf_le m h0 hm s _ (red_le h0 hm)
theorem win_len (t : List UInt8) (e : Nat) (he : e ≤ 600) : (win t e).length ≤ maxLen := by
  unfold win
  simp only [maxLen]
  split <;> simp only [List.length_take] <;> omega
theorem endN_ge {least most mask : Nat} {t : List UInt8} (h1 : 1 ≤ least) (ht : t ≠ []) : 1 ≤ endN least most mask t := by
  have := fe_ge most mask t (t.length - min t.length least) (min t.length least)
  have := List.length_pos_iff.2 ht
  unfold endN
  omega
theorem endN_le {least most mask : Nat} {t : List UInt8} : endN least most mask t ≤ t.length := by
  have := fe_le most mask t (t.length - min t.length least) (min t.length least)
  unfold endN
  omega

def cutB (s : List UInt8) (least most mask : Int) : Int := if 600 < (s.length : Int) then 2 else if (((least < 1 ∨ most < least) ∨ 600 < most) ∨ mask < 0) ∨ 65535 < mask then 1 else 0
theorem ends_bad (s : List UInt8) (least most mask : Int) (M : Mem) (h : cutB s least most mask ≠ 0) :
    Meets Proofs.Try.prog 29 [.v (.string ⟨s.toArray⟩), .v (.int .i64 least), .v (.int .i64 most), .v (.int .i64 mask)] M fun r _ _ => r = .tup [.v (.slice none 0 0), .v (.int .i64 (cutB s least most mask))] := by
  refine Meets.of_body [0,1,2,3,8,9,10,11,12,15,34,38,69] Proofs.Try.func29 rfl (by kernel_rfl) rfl fun w => ?_
  generalize hc : cutB s least most mask = c at h
  simp only [Proofs.Try.f29, shs, zts, sos, sls, zss, eqs, sx, sb1, sb2, sb3, sb4, sb5, sb6, sb7, ↓reduceIte, Nat.reduceAdd, Nat.reduceMul, Nat.reduceDiv, Nat.reduceEqDiff, Nat.reduceLT, Nat.reduceLeDiff, reduceCtorEq, Int.reduceEq, Int.reduceNe, Int.reduceLT, Int.reduceLE, Int.reduceAdd, Int.reduceSub, Int.reduceMul, Int.reduceNeg, Int.reduceToNat, Int.cast_ofNat_Int, Int.natCast_zero, Int.natCast_one, Int.toNat_natCast, Nat.reduceBEq]
  by_cases h1 : 600 < (s.length : Int)
  · rw [cutB, if_pos h1] at hc
    subst hc
    exact ⟨fun _ => rfl, fun h2 => by omega⟩
  · rw [cutB, if_neg h1] at hc
    by_cases h2 : (((least < 1 ∨ most < least) ∨ 600 < most) ∨ mask < 0) ∨ 65535 < mask
    · rw [if_pos h2] at hc
      subst hc
      exact ⟨fun h3 => by omega, fun _ => ⟨fun _ => rfl, fun h4 => by omega⟩⟩
    · rw [if_neg h2] at hc
      exact (h hc.symm).elim

theorem drop_dr (s : List UInt8) (b k : Nat) : (s.drop b).drop k = s.drop (b + k) := List.drop_drop ..
/-- the program's window is the document's -/
theorem win_of (s : List UInt8) {b e : Nat} (h : b ≤ e) : List.take (e - max b (e - 8)) (List.drop (max b (e - 8)) s) = win (s.drop b) (e - b) := by
  unfold win
  split
  · rw [drop_dr, show max b (e - 8) = e - 8 by omega, show b + (e - b - 8) = e - 8 by omega, show e - (e - 8) = 8 by omega]
  · rw [show max b (e - 8) = b by omega]

theorem ends_ok (s : List UInt8) (least most mask : Nat) (M : Mem) (hs : s.length ≤ 600) (h1 : 1 ≤ least) (hlm : least ≤ most) (hm : most ≤ 600) (hk : mask ≤ 65535) :
    Meets Proofs.Try.prog 29 [.v (.string ⟨s.toArray⟩), .v (.int .i64 (least : Int)), .v (.int .i64 (most : Int)), .v (.int .i64 (mask : Int))] M (RowR (fun t => .tup [t, .v (.int .i64 0)]) 1 ((ends least most mask 600 s).map encN)) := by
  refine Meets.of_body [0,1,2,3,8,9,10,11,12,15,34,38,69] Proofs.Try.func29 rfl (by kernel_rfl) rfl fun w => ?_
  generalize hc : (ends least most mask 600 s) = c
  have d1 : (600 < (s.length : Int)) = False := eq_false (by omega)
  have d2 : ((least : Int) < 1) = False := eq_false (by omega)
  have d3 : ((most : Int) < (least : Int)) = False := eq_false (by omega)
  have d4 : (600 < (most : Int)) = False := eq_false (by omega)
  have d5 : ((mask : Int) < 0) = False := eq_false (by omega)
  have d6 : (65535 < (mask : Int)) = False := eq_false (by omega)
  simp only [Proofs.Try.f29, shs, zts, sos, sls, zss, eqs, sx, sb1, sb2, sb3, sb4, sb5, sb6, sb7, ↓reduceIte, Nat.reduceAdd, Nat.reduceMul, Nat.reduceDiv, Nat.reduceEqDiff, Nat.reduceLT, Nat.reduceLeDiff, reduceCtorEq, Int.reduceEq, Int.reduceNe, Int.reduceLT, Int.reduceLE, Int.reduceAdd, Int.reduceSub, Int.reduceMul, Int.reduceNeg, Int.reduceToNat, Int.cast_ofNat_Int, Int.natCast_zero, Int.natCast_one, Int.toNat_natCast, Nat.reduceBEq, d1, d2, d3, d4, d5, d6]
  refine LoopK.nilRow 10 75 1 rfl rfl rfl ?_
  simp only [sx, sb1, sb2, sb3, sb4, sb5, sb6, sb7, ↓reduceIte, Nat.reduceAdd, Nat.reduceMul, Nat.reduceDiv, Nat.reduceEqDiff, Nat.reduceLT, Nat.reduceLeDiff, reduceCtorEq, Int.reduceEq, Int.reduceNe, Int.reduceLT, Int.reduceLE, Int.reduceAdd, Int.reduceSub, Int.reduceMul, Int.reduceNeg, Int.reduceToNat, Int.cast_ofNat_Int, Int.natCast_zero, Int.natCast_one, Int.toNat_natCast, Nat.reduceBEq]
  refine LoopK.go (X := Nat × Nat × List Nat) (fun x => ([(0, true, .v (.string ⟨s.toArray⟩)), (1, true, .v (.int .i64 least)), (2, true, .v (.int .i64 most)), (3, true, .v (.int .i64 mask)), (10, true, .own 600), (11, true, .v (.int .i64 x.2.1))], [(600, .row 1 (x.2.2.map encN))], M))
    (fun x => (((s.length ≤ x.1 + x.2.1 ∧ x.2.1 ≤ s.length) ∧ x.1 ≤ 600) ∧ x.2.2.length + x.1 ≤ 600) ∧ x.2.2 ++ (ends least most mask x.1 (s.drop x.2.1)).map (· + x.2.1) = c) (fun x => x.1) (600, 0, [])
    ⟨⟨⟨⟨by simp only; omega, Nat.zero_le _⟩, Nat.le_refl _⟩, by simp⟩, by simpa using hc⟩ (Ent.of ?_) ?_
  · simp only [sx, sb1, sb2, sb3, sb4, sb5, sb6, sb7, ↓reduceIte, Nat.reduceAdd, Nat.reduceMul, Nat.reduceDiv, Nat.reduceEqDiff, Nat.reduceLT, Nat.reduceLeDiff, reduceCtorEq, Int.reduceEq, Int.reduceNe, Int.reduceLT, Int.reduceLE, Int.reduceAdd, Int.reduceSub, Int.reduceMul, Int.reduceNeg, Int.reduceToNat, Int.cast_ofNat_Int, Int.natCast_zero, Int.natCast_one, Int.toNat_natCast, Nat.reduceBEq, List.map_nil]
  rintro ⟨f, b, out⟩ ⟨⟨⟨⟨h3, h4⟩, h5⟩, h6⟩, h7⟩
  simp only at h3 h4 h5 h6 h7
  simp only [shs, zts, sos, sls, zss, eqs, sx, sb1, sb2, sb3, sb4, sb5, sb6, sb7, ↓reduceIte, Nat.reduceAdd, Nat.reduceMul, Nat.reduceDiv, Nat.reduceEqDiff, Nat.reduceLT, Nat.reduceLeDiff, reduceCtorEq, Int.reduceEq, Int.reduceNe, Int.reduceLT, Int.reduceLE, Int.reduceAdd, Int.reduceSub, Int.reduceMul, Int.reduceNeg, Int.reduceToNat, Int.cast_ofNat_Int, Int.natCast_zero, Int.natCast_one, Int.toNat_natCast, Nat.reduceBEq, inK, lo, hi]
  refine ⟨fun h8 => ?_, fun h8 => ?_⟩
  · refine ⟨by omega, ?_⟩
    have hne : s.drop b ≠ [] := fun e => by
      have := congrArg List.length e
      rw [List.length_drop, List.length_nil] at this
      omega
    obtain ⟨f, rfl⟩ : ∃ g, f = g + 1 := ⟨f - 1, by omega⟩
    have hk1 := endN_ge (least := least) (most := most) (mask := mask) h1 hne
    have hk2 := endN_le (least := least) (most := most) (mask := mask) (t := s.drop b)
    simp only [ends, if_neg hne] at h7
    generalize hkk : endN least most mask (s.drop b) = k at *
    rw [List.map_cons, List.map_map, drop_dr] at h7
    rw [List.length_drop] at hk2
    have hmn : min (s.length : Int) ((b : Int) + (least : Int)) = ((b + min (s.drop b).length least : Nat) : Int) := by rw [List.length_drop]; omega
    have hfin : (out ++ [b + k]) ++ (ends least most mask f (s.drop (b + k))).map (· + (b + k)) = c := by
      rw [← h7, List.append_assoc, Nat.add_comm b k]
      congr 1
      show (k + b) :: _ = _
      congr 1
      apply List.map_congr_left
      intro x _
      simp only [Function.comp]
      omega
    simp only [hmn]
    refine LoopK.go (X := Nat × Nat) (fun x => ([(0, true, .v (.string ⟨s.toArray⟩)), (1, true, .v (.int .i64 least)), (2, true, .v (.int .i64 most)), (3, true, .v (.int .i64 mask)), (10, true, .own 600), (11, true, .v (.int .i64 b)), (12, true, .v (.int .i64 ((b + x.2 : Nat) : Int)))], [(600, .row 1 (out.map encN))], M))
      (fun x => (x.1 + x.2 = s.length - b ∧ x.2 ≤ most) ∧ fe most mask (s.drop b) x.1 x.2 = k) (fun x => x.1) (s.length - b - min (s.drop b).length least, min (s.drop b).length least)
      ⟨⟨by simp only [List.length_drop]; omega, by simp only; omega⟩, by rw [← hkk, endN, List.length_drop]⟩ (Ent.of ?_) ?_
    · simp only [sx, sb1, sb2, sb3, sb4, sb5, sb6, sb7, ↓reduceIte, Nat.reduceAdd, Nat.reduceMul, Nat.reduceDiv, Nat.reduceEqDiff, Nat.reduceLT, Nat.reduceLeDiff, reduceCtorEq, Int.reduceEq, Int.reduceNe, Int.reduceLT, Int.reduceLE, Int.reduceAdd, Int.reduceSub, Int.reduceMul, Int.reduceNeg, Int.reduceToNat, Int.cast_ofNat_Int, Int.natCast_zero, Int.natCast_one, Int.toNat_natCast, Nat.reduceBEq]
    rintro ⟨g, x⟩ ⟨⟨h9, h10⟩, h11⟩
    simp only at h9 h10 h11
    by_cases hA : x < s.length - b
    · have c1 : (((b + x : Nat) : Int) < (s.length : Int)) = True := eq_true (by omega)
      by_cases hB : x = most
      · have c2 : (((b + x : Nat) : Int) - (b : Int) < (most : Int)) = False := eq_false (by omega)
        rw [fe_stop (fun h => h.2.1 hB)] at h11
        subst h11
        simp only [shs, zts, sos, sls, zss, eqs, sx, sb1, sb2, sb3, sb4, sb5, sb6, sb7, ↓reduceIte, Nat.reduceAdd, Nat.reduceMul, Nat.reduceDiv, Nat.reduceEqDiff, Nat.reduceLT, Nat.reduceLeDiff, reduceCtorEq, Int.reduceEq, Int.reduceNe, Int.reduceLT, Int.reduceLE, Int.reduceAdd, Int.reduceSub, Int.reduceMul, Int.reduceNeg, Int.reduceToNat, Int.cast_ofNat_Int, Int.natCast_zero, Int.natCast_one, Int.toNat_natCast, Nat.reduceBEq, inK, lo, hi, c1, c2]
        refine ⟨by omega, ⟨by rw [List.length_map]; omega, by rw [List.length_map]; omega⟩, (f, b + x, out ++ [b + x]), ⟨⟨⟨⟨⟨by simp only; omega, by simp only; omega⟩, by simp only; omega⟩, by simp only [List.length_append, List.length_singleton]; omega⟩, hfin⟩, by simp only; omega⟩, Ent.of ?_⟩
        simp only [sx, sb1, sb2, sb3, sb4, sb5, sb6, sb7, ↓reduceIte, Nat.reduceAdd, Nat.reduceMul, Nat.reduceDiv, Nat.reduceEqDiff, Nat.reduceLT, Nat.reduceLeDiff, reduceCtorEq, Int.reduceEq, Int.reduceNe, Int.reduceLT, Int.reduceLE, Int.reduceAdd, Int.reduceSub, Int.reduceMul, Int.reduceNeg, Int.reduceToNat, Int.cast_ofNat_Int, Int.natCast_zero, Int.natCast_one, Int.toNat_natCast, Nat.reduceBEq, List.map_append, encN]
      · have c2 : (((b + x : Nat) : Int) - (b : Int) < (most : Int)) = True := eq_true (by omega)
        have e3 : max (b : Int) (((b + x : Nat) : Int) - 8) = ((max b (b + x - 8) : Nat) : Int) := by omega
        have hw := win_of s (show b ≤ b + x by omega)
        rw [Nat.add_sub_cancel_left] at hw
        simp only [shs, zts, sos, sls, zss, eqs, sx, sb1, sb2, sb3, sb4, sb5, sb6, sb7, ↓reduceIte, Nat.reduceAdd, Nat.reduceMul, Nat.reduceDiv, Nat.reduceEqDiff, Nat.reduceLT, Nat.reduceLeDiff, reduceCtorEq, Int.reduceEq, Int.reduceNe, Int.reduceLT, Int.reduceLE, Int.reduceAdd, Int.reduceSub, Int.reduceMul, Int.reduceNeg, Int.reduceToNat, Int.cast_ofNat_Int, Int.natCast_zero, Int.natCast_one, Int.toNat_natCast, Nat.reduceBEq, inK, lo, hi, c1, c2, e3, hw]
        have hwl := win_len (s.drop b) x (by omega)
        have hP := prf_le 65581 (by omega) (by omega) (win (s.drop b) x) 1 (by omega)
        refine ⟨by omega, by omega, by omega, CallK.pure ⟨rfl, rfl⟩ rfl (plain 65581 (win (s.drop b) x) M (by omega) (by omega) hwl) ?_⟩
        by_cases hh : hit mask (s.drop b) x
        · have hh' : prf 65581 (win (s.drop b) x) 1 &&& mask = mask := hh
          rw [fe_stop (fun h => h.2.2 hh)] at h11
          subst h11
          simp only [shs, zts, sos, sls, zss, eqs, sx, sb1, sb2, sb3, sb4, sb5, sb6, sb7, ↓reduceIte, Nat.reduceAdd, Nat.reduceMul, Nat.reduceDiv, Nat.reduceEqDiff, Nat.reduceLT, Nat.reduceLeDiff, reduceCtorEq, Int.reduceEq, Int.reduceNe, Int.reduceLT, Int.reduceLE, Int.reduceAdd, Int.reduceSub, Int.reduceMul, Int.reduceNeg, Int.reduceToNat, Int.cast_ofNat_Int, Int.natCast_zero, Int.natCast_one, Int.toNat_natCast, Nat.reduceBEq, inK, lo, hi, hh']
          refine ⟨by omega, ⟨by rw [List.length_map]; omega, by rw [List.length_map]; omega⟩, (f, b + x, out ++ [b + x]), ⟨⟨⟨⟨⟨by simp only; omega, by simp only; omega⟩, by simp only; omega⟩, by simp only [List.length_append, List.length_singleton]; omega⟩, hfin⟩, by simp only; omega⟩, Ent.of ?_⟩
          simp only [sx, sb1, sb2, sb3, sb4, sb5, sb6, sb7, ↓reduceIte, Nat.reduceAdd, Nat.reduceMul, Nat.reduceDiv, Nat.reduceEqDiff, Nat.reduceLT, Nat.reduceLeDiff, reduceCtorEq, Int.reduceEq, Int.reduceNe, Int.reduceLT, Int.reduceLE, Int.reduceAdd, Int.reduceSub, Int.reduceMul, Int.reduceNeg, Int.reduceToNat, Int.cast_ofNat_Int, Int.natCast_zero, Int.natCast_one, Int.toNat_natCast, Nat.reduceBEq, List.map_append, encN]
        · have hh' : (((prf 65581 (win (s.drop b) x) 1 &&& mask : Nat) : Int) = (mask : Int)) = False := eq_false (fun h => hh (Int.ofNat.inj h))
          obtain ⟨g, rfl⟩ : ∃ j, g = j + 1 := ⟨g - 1, by omega⟩
          simp only [fe] at h11
          rw [if_pos ⟨by rw [List.length_drop]; omega, hB, hh⟩] at h11
          simp only [shs, zts, sos, sls, zss, eqs, sx, sb1, sb2, sb3, sb4, sb5, sb6, sb7, ↓reduceIte, Nat.reduceAdd, Nat.reduceMul, Nat.reduceDiv, Nat.reduceEqDiff, Nat.reduceLT, Nat.reduceLeDiff, reduceCtorEq, Int.reduceEq, Int.reduceNe, Int.reduceLT, Int.reduceLE, Int.reduceAdd, Int.reduceSub, Int.reduceMul, Int.reduceNeg, Int.reduceToNat, Int.cast_ofNat_Int, Int.natCast_zero, Int.natCast_one, Int.toNat_natCast, Nat.reduceBEq, inK, lo, hi, hh']
          have e4 : ((b + (x + 1) : Nat) : Int) = ((b + x : Nat) : Int) + 1 := by omega
          refine ⟨by omega, by omega, (g, x + 1), ⟨⟨⟨by simp only; omega, by simp only; omega⟩, h11⟩, by simp only; omega⟩, Ent.of ?_⟩
          simp only [sx, sb1, sb2, sb3, sb4, sb5, sb6, sb7, ↓reduceIte, Nat.reduceAdd, Nat.reduceMul, Nat.reduceDiv, Nat.reduceEqDiff, Nat.reduceLT, Nat.reduceLeDiff, reduceCtorEq, Int.reduceEq, Int.reduceNe, Int.reduceLT, Int.reduceLE, Int.reduceAdd, Int.reduceSub, Int.reduceMul, Int.reduceNeg, Int.reduceToNat, Int.cast_ofNat_Int, Int.natCast_zero, Int.natCast_one, Int.toNat_natCast, Nat.reduceBEq, e4]
    · have c1 : (((b + x : Nat) : Int) < (s.length : Int)) = False := eq_false (by omega)
      rw [fe_stop (fun h => by rw [List.length_drop] at h; omega)] at h11
      subst h11
      simp only [shs, zts, sos, sls, zss, eqs, sx, sb1, sb2, sb3, sb4, sb5, sb6, sb7, ↓reduceIte, Nat.reduceAdd, Nat.reduceMul, Nat.reduceDiv, Nat.reduceEqDiff, Nat.reduceLT, Nat.reduceLeDiff, reduceCtorEq, Int.reduceEq, Int.reduceNe, Int.reduceLT, Int.reduceLE, Int.reduceAdd, Int.reduceSub, Int.reduceMul, Int.reduceNeg, Int.reduceToNat, Int.cast_ofNat_Int, Int.natCast_zero, Int.natCast_one, Int.toNat_natCast, Nat.reduceBEq, inK, lo, hi, c1]
      refine ⟨⟨by rw [List.length_map]; omega, by rw [List.length_map]; omega⟩, (f, b + x, out ++ [b + x]), ⟨⟨⟨⟨⟨by simp only; omega, by simp only; omega⟩, by simp only; omega⟩, by simp only [List.length_append, List.length_singleton]; omega⟩, hfin⟩, by simp only; omega⟩, Ent.of ?_⟩
      simp only [sx, sb1, sb2, sb3, sb4, sb5, sb6, sb7, ↓reduceIte, Nat.reduceAdd, Nat.reduceMul, Nat.reduceDiv, Nat.reduceEqDiff, Nat.reduceLT, Nat.reduceLeDiff, reduceCtorEq, Int.reduceEq, Int.reduceNe, Int.reduceLT, Int.reduceLE, Int.reduceAdd, Int.reduceSub, Int.reduceMul, Int.reduceNeg, Int.reduceToNat, Int.cast_ofNat_Int, Int.natCast_zero, Int.natCast_one, Int.toNat_natCast, Nat.reduceBEq, List.map_append, encN]
  · have hd : s.drop b = [] := List.drop_eq_nil_of_le (by omega)
    rw [hd, ends_nil, List.map_nil, List.append_nil] at h7
    subst h7
    exact ⟨.own 600, rfl, rfl⟩
end Go.X.Cu

namespace Go.X.Sp
open Go Go.X

/-- the pieces, or nothing where the ends are no ends -/
def spl (s : List UInt8) : List Int → Nat → List (List UInt8) → Option (List (List UInt8))
  | [], b, out => if b = s.length then some out else none
  | e :: es, b, out => if e ≤ b ∨ (s.length : Int) < e then none else spl s es e.toNat (out ++ [(s.drop b).take (e.toNat - b)])

theorem drop_at {α : Type} {l : List α} {i : Nat} (h : i < l.length) : ∃ x, l[i]? = some x ∧ l.drop i = x :: l.drop (i + 1) :=
  ⟨_, List.getElem?_eq_getElem h, List.drop_eq_getElem_cons h⟩

/-- what Split answers -/
def SplitR (c : Option (List (List UInt8))) : RP := fun r H M => match c with
  | some out => RowR (fun t => .tup [t, .v (.int .i64 0)]) 1 (out.map encS) r H M
  | none => r = .tup [.v (.slice none 0 0), .v (.int .i64 3)]

theorem split (s : List UInt8) (y : Value) (l : List Int) (M : Mem) (hs : s.length ≤ 600) (hy : RowM M y 1 (l.map encI)) :
    Meets Proofs.Try.prog 30 [.v (.string ⟨s.toArray⟩), .v y] M (SplitR (spl s l 0 [])) := by
  refine Meets.of_body [0,1,4,5,6,7,9,12,13,14,15,16,27,40] Proofs.Try.func30 rfl (by kernel_rfl) rfl fun w => ?_
  generalize hc : spl s l 0 [] = c
  have hle := hy.len_le
  rw [List.length_map] at hle
  simp only [Proofs.Try.f30, shs, zts, sos, sls, zss, eqs, sx, sb1, sb2, sb3, sb4, sb5, sb6, sb7, ↓reduceIte, Nat.reduceAdd, Nat.reduceMul, Nat.reduceDiv, Nat.reduceEqDiff, Nat.reduceLT, Nat.reduceLeDiff, reduceCtorEq, Int.reduceEq, Int.reduceNe, Int.reduceLT, Int.reduceLE, Int.reduceAdd, Int.reduceSub, Int.reduceMul, Int.reduceNeg, Int.reduceToNat, Int.cast_ofNat_Int, Int.natCast_zero, Int.natCast_one, Int.toNat_natCast, Nat.reduceBEq, hy.len, hy.sl, List.length_map]
  refine ⟨fun h => by omega, fun _ => ?_⟩
  refine LoopK.nilRow 6 34 1 rfl rfl rfl ?_
  simp only [sx, sb1, sb2, sb3, sb4, sb5, sb6, sb7, ↓reduceIte, Nat.reduceAdd, Nat.reduceMul, Nat.reduceDiv, Nat.reduceEqDiff, Nat.reduceLT, Nat.reduceLeDiff, reduceCtorEq, Int.reduceEq, Int.reduceNe, Int.reduceLT, Int.reduceLE, Int.reduceAdd, Int.reduceSub, Int.reduceMul, Int.reduceNeg, Int.reduceToNat, Int.cast_ofNat_Int, Int.natCast_zero, Int.natCast_one, Int.toNat_natCast, Nat.reduceBEq]
  refine LoopK.go (X := Nat × Nat × Nat × List (List UInt8)) (fun x => ([(0, true, .v (.string ⟨s.toArray⟩)), (1, true, .v y), (6, true, .own 272), (7, true, .v (.int .i64 x.2.2.1)), (13, true, .v y), (14, true, .v (.int .i64 l.length)), (15, true, .v (.int .i64 x.2.1))], [(272, .row 1 (x.2.2.2.map encS))], M))
    (fun x => ((x.1 + x.2.1 = l.length ∧ x.2.2.2.length ≤ x.2.2.1) ∧ x.2.2.1 ≤ s.length) ∧ spl s (l.drop x.2.1) x.2.2.1 x.2.2.2 = c) (fun x => x.1) (l.length, 0, 0, []) ⟨⟨⟨rfl, by simp⟩, by simp⟩, hc⟩ (Ent.of ?_) ?_
  · simp only [sx, sb1, sb2, sb3, sb4, sb5, sb6, sb7, ↓reduceIte, Nat.reduceAdd, Nat.reduceMul, Nat.reduceDiv, Nat.reduceEqDiff, Nat.reduceLT, Nat.reduceLeDiff, reduceCtorEq, Int.reduceEq, Int.reduceNe, Int.reduceLT, Int.reduceLE, Int.reduceAdd, Int.reduceSub, Int.reduceMul, Int.reduceNeg, Int.reduceToNat, Int.cast_ofNat_Int, Int.natCast_zero, Int.natCast_one, Int.toNat_natCast, Nat.reduceBEq]
  rintro ⟨f, i, b, out⟩ ⟨⟨⟨h1, h2⟩, h3⟩, h4⟩
  simp only at h1 h2 h3 h4
  simp only [shs, zts, sos, sls, zss, eqs, sx, sb1, sb2, sb3, sb4, sb5, sb6, sb7, ↓reduceIte, Nat.reduceAdd, Nat.reduceMul, Nat.reduceDiv, Nat.reduceEqDiff, Nat.reduceLT, Nat.reduceLeDiff, reduceCtorEq, Int.reduceEq, Int.reduceNe, Int.reduceLT, Int.reduceLE, Int.reduceAdd, Int.reduceSub, Int.reduceMul, Int.reduceNeg, Int.reduceToNat, Int.cast_ofNat_Int, Int.natCast_zero, Int.natCast_one, Int.toNat_natCast, Nat.reduceBEq]
  refine ⟨fun h5 => ?_, fun h5 => ?_⟩
  · obtain ⟨e, he, hd⟩ := drop_at (l := l) (i := i) (by omega)
    have g1 := hy.el1 he rfl
    have i1 := hy.ix (i := (i : Int)) (by omega) (by rw [List.length_map]; omega)
    rw [hd] at h4
    simp only [spl] at h4
    simp only [shs, zts, sos, sls, zss, eqs, sx, sb1, sb2, sb3, sb4, sb5, sb6, sb7, ↓reduceIte, Nat.reduceAdd, Nat.reduceMul, Nat.reduceDiv, Nat.reduceEqDiff, Nat.reduceLT, Nat.reduceLeDiff, reduceCtorEq, Int.reduceEq, Int.reduceNe, Int.reduceLT, Int.reduceLE, Int.reduceAdd, Int.reduceSub, Int.reduceMul, Int.reduceNeg, Int.reduceToNat, Int.cast_ofNat_Int, Int.natCast_zero, Int.natCast_one, Int.toNat_natCast, Nat.reduceBEq, g1.1, inK, lo, hi]
    refine ⟨i1, g1.2, fun h6 => ?_, fun h6 => ?_⟩
    rotate_left
    refine ⟨by omega, by rw [List.length_map]; omega, by omega, (f - 1, i + 1, e.toNat, out ++ [(s.drop b).take (e.toNat - b)]), ⟨⟨⟨⟨by simp only; omega, ?_⟩, by simp only; omega⟩, ?_⟩, by simp only; omega⟩, Ent.of ?_⟩
    rotate_right
    · rw [if_pos h6] at h4
      subst h4
      rfl
    · simp only [List.length_append, List.length_singleton]; omega
    · simp only
      rw [if_neg (by omega)] at h4
      exact h4
    · simp only [sx, sb1, sb2, sb3, sb4, sb5, sb6, sb7, ↓reduceIte, Nat.reduceAdd, Nat.reduceMul, Nat.reduceDiv, Nat.reduceEqDiff, Nat.reduceLT, Nat.reduceLeDiff, reduceCtorEq, Int.reduceEq, Int.reduceNe, Int.reduceLT, Int.reduceLE, Int.reduceAdd, Int.reduceSub, Int.reduceMul, Int.reduceNeg, Int.reduceToNat, Int.cast_ofNat_Int, Int.natCast_zero, Int.natCast_one, Int.toNat_natCast, Nat.reduceBEq, Int.natCast_add, List.map_append, encS, Int.toNat_of_nonneg (show 0 ≤ e by omega)]
  · have hd : l.drop i = [] := List.drop_eq_nil_of_le (by omega)
    rw [hd] at h4
    simp only [spl] at h4
    refine ⟨fun h6 => ?_, fun h6 => ?_⟩
    · rw [if_neg (by omega)] at h4
      subst h4
      rfl
    · rw [if_pos (by omega)] at h4
      subst h4
      exact ⟨.own 272, rfl, rfl⟩

theorem CallK.splitR {E : Env} {σ : Sig} {H : HS} {M : Mem} {K : KP} {f d : Nat} {l : List SV} {c : Option (List (List UInt8))} (hl : SV.concs l = true) (hd : decide (d < E.N) = true) (h : Meets E.P f l M (SplitR c))
    (hk : ∀ v n M', M.le M' → isSl v = true → ((∃ out, c = some out ∧ n = 0 ∧ RowM M' v 1 (out.map encS)) ∨ (c = none ∧ n = 3 ∧ v = .slice none 0 0)) → K ((d, true, .tup [.v v, .v (.int .i64 n)]) :: σ) H M') : CallK E f l d K σ H M := by
  cases c with
  | some out => exact CallK.row (Ctx.fst _) hl hd h (fun v M' hle hr => hk v 0 M' hle hr.sl (.inl ⟨out, rfl, rfl, hr⟩))
  | none => exact CallK.pure ⟨hl, rfl⟩ hd h (hk _ 3 M (Mem.le.refl M) rfl (.inr ⟨rfl, rfl, rfl⟩))

end Go.X.Sp

namespace Go.X.Vo
open Go Go.X Go.RowKit Go.X.Bg Go.X.Nm Go.X.Bp Go.X.Sb

/-! ### pieces -/
abbrev eN (t : Txt) : Nat := Cu.endN 4 64 7 t
def chop : Nat → Txt → List Txt
  | 0, _ => []
  | f + 1, t => if t = [] then [] else t.take (eN t) :: chop f (t.drop (eN t))
theorem chop_flat : ∀ (f : Nat) (t : Txt), t.length ≤ f → (chop f t).flatten = t
  | 0, t, h => by
    have : t = [] := List.length_eq_zero_iff.1 (by omega)
    subst this
    rfl
  | f + 1, t, h => by
    rw [chop]
    by_cases ht : t = []
    · rw [if_pos ht, ht]; rfl
    · have h1 := Cu.endN_ge (least := 4) (most := 64) (mask := 7) (by decide) ht
      rw [if_neg ht, List.flatten_cons, chop_flat f _ (by rw [List.length_drop]; have : eN t = Cu.endN 4 64 7 t := rfl; omega), List.take_append_drop]
theorem chop_ends : ∀ (f : Nat) (t : Txt), (Cu.ends 4 64 7 f t).length = (chop f t).length
  | 0, _ => rfl
  | f + 1, t => by
    rw [Cu.ends, chop]
    by_cases ht : t = []
    · rw [if_pos ht, if_pos ht]; rfl
    · rw [if_neg ht, if_neg ht, List.length_cons, List.length_cons, List.length_map, chop_ends f]
theorem spl_chop (S : Txt) : ∀ (f : Nat) (b : Nat) (out : List Txt), S.length - b ≤ f → b ≤ S.length → Sp.spl S ((Cu.ends 4 64 7 f (S.drop b)).map fun k => ((k + b : Nat) : Int)) b out = some (out ++ chop f (S.drop b))
  | 0, b, out, h, hb => by
    have : b = S.length := by omega
    simp only [Cu.ends, List.map_nil, Sp.spl, chop, List.append_nil]
    rw [if_pos this]
  | f + 1, b, out, h, hb => by
    rw [Cu.ends, chop]
    by_cases ht : S.drop b = []
    · have : b = S.length := by have := congrArg List.length ht; rw [List.length_drop, List.length_nil] at this; omega
      rw [if_pos ht, if_pos ht]
      simp only [List.map_nil, Sp.spl, List.append_nil]
      rw [if_pos this]
    · have h1 := Cu.endN_ge (least := 4) (most := 64) (mask := 7) (by decide) ht
      have h2 := @Cu.endN_le 4 64 7 (S.drop b)
      rw [List.length_drop] at h2
      rw [if_neg ht, if_neg ht, List.map_cons, Sp.spl, if_neg (by omega), Int.toNat_natCast]
      have e1 : (S.drop b).drop (Cu.endN 4 64 7 (S.drop b)) = S.drop (Cu.endN 4 64 7 (S.drop b) + b) := by rw [List.drop_drop, Nat.add_comm]
      have ih := spl_chop S f (Cu.endN 4 64 7 (S.drop b) + b) (out ++ [(S.drop b).take (Cu.endN 4 64 7 (S.drop b) + b - b)]) (by omega) (by omega)
      rw [List.map_map]
      rw [← e1] at ih
      have e2 : ((fun k : Nat => ((k + b : Nat) : Int)) ∘ fun x => x + Cu.endN 4 64 7 (S.drop b)) = fun k : Nat => ((k + (Cu.endN 4 64 7 (S.drop b) + b) : Nat) : Int) := by
        funext k
        simp only [Function.comp]
        omega
      rw [e2, ih, List.append_assoc, Nat.add_sub_cancel]
      rfl
/-! ### stored -/
def stor (n : Txt) : List Txt → Nat → St → Option St
  | [], _, A => some A
  | t :: r, i, A => if (writeA A.1 A.2 n (i : Int) t).2 ≠ 0 then none else stor n r (i + 1) (writeA A.1 A.2 n (i : Int) t).1
def stoT (A : St) (n s : Txt) : St × Nat × Bool :=
  if 600 < s.length then (A, 0, false) else if 32 < (chop 600 s).length ∨ (chop 600 s).length = 0 then (A, 0, false) else
  if (makeA A.1 A.2 n ((chop 600 s).length : Int)).2 ≠ 0 then (A, 0, false) else
  match stor n (chop 600 s) 0 (makeA A.1 A.2 n ((chop 600 s).length : Int)).1 with
  | some B => (B, (chop 600 s).length, true)
  | none => (A, 0, false)
def inBag (A : St) (t : Txt) : Prop := ∃ x ∈ A.1, x.2.2.1 = t
/-- a block that is a hole is written -/
theorem write_hole {A : St} {n s : Txt} {j : Nat} {X : List (Option Txt)} (hA : stE A.1 A.2 = 0) (hX : lookV A n = some X) (hj : X[j]? = some none) (h : (writeA A.1 A.2 n (j : Int) s).2 = 0) :
    stE (writeA A.1 A.2 n (j : Int) s).1.1 (writeA A.1 A.2 n (j : Int) s).1.2 = 0 ∧ (∀ m, lookV (writeA A.1 A.2 n (j : Int) s).1 m = if m = n then some (X.set j (some s)) else lookV A m) ∧
    (inBag A s → (writeA A.1 A.2 n (j : Int) s).1.1.length = A.1.length) ∧ (writeA A.1 A.2 n (j : Int) s).1.1.length ≤ A.1.length + 1 ∧ (∀ t, inBag A t → inBag (writeA A.1 A.2 n (j : Int) s).1 t) := by
  obtain ⟨bag, l⟩ := A
  have hr := writeA_right bag l n (j : Int) s
  obtain ⟨Y, hY, hjl, hlk⟩ := look_writeA h
  have hXY : lookV (bag, l) n = some X := hX
  rw [hXY] at hY
  cases hY
  refine ⟨hr, hlk, ?_⟩
  obtain ⟨i, x, e, hx, hn, hx2⟩ := look_some hXY
  rw [← hx2, List.getElem?_map, Option.map_eq_some_iff] at hj
  obtain ⟨y, hy, hyn⟩ := hj
  have hy1 : y.1 = false := by
    unfold obs at hyn
    split at hyn
    · cases hyn
    · rename_i h1; simpa using h1
  have hp := pl_look (bag := bag) (l := l) hA hXY hjl
  unfold writeA at h ⊢
  rw [if_neg (fun h => h hp)] at h ⊢
  rw [show volIx l n = (i : Int) from e, Int.toNat_natCast, Int.toNat_natCast] at h ⊢
  unfold writeS at h ⊢
  rw [idAt_at hx hy, less_hole hy1] at h ⊢
  simp only at h ⊢
  by_cases h3 : (putG bag s).2.2 = 0
  · rw [if_neg (fun h => h h3)]
    have hP := putR (stE_ok hA).1 h3
    refine ⟨fun hb => hP.old hb, hP.new, fun t ht => (hP.txts t).2 (.inr ht)⟩
  · rw [if_pos h3] at h
    exact absurd h h3
theorem stor_sp (n : Txt) : ∀ (r : List Txt) (i : Nat) (A B : St) (D : List Txt), D.length = i → stE A.1 A.2 = 0 → lookV A n = some (D.map some ++ List.replicate r.length none) → stor n r i A = some B →
    stE B.1 B.2 = 0 ∧ (∀ m, lookV B m = if m = n then some ((D ++ r).map some) else lookV A m) ∧ (∀ t, inBag A t → inBag B t) ∧ (∀ q : Nat, (∀ (k : Nat) (t : Txt), k < q → r[k]? = some t → inBag A t) → B.1.length ≤ A.1.length + (r.length - q))
  | [], i, A, B, D, hD, hA, hl, h => by
    simp only [stor, Option.some.injEq] at h
    subst h
    refine ⟨hA, fun m => ?_, fun _ h => h, fun q _ => by omega⟩
    by_cases hm : m = n
    · rw [if_pos hm, hm, hl, List.length_nil, List.append_nil]; simp
    · rw [if_neg hm]
  | t :: r, i, A, B, D, hD, hA, hl, h => by
    rw [stor] at h
    by_cases h1 : (writeA A.1 A.2 n (i : Int) t).2 = 0
    rotate_left
    · rw [if_pos h1] at h; cases h
    rw [if_neg (fun h => h h1)] at h
    have hj : (D.map some ++ List.replicate (t :: r).length (none : Option Txt))[i]? = some none := by
      rw [List.getElem?_append_right (by rw [List.length_map]; omega), List.length_map, hD, Nat.sub_self, List.getElem?_replicate, if_pos (by simp)]
    obtain ⟨g1, g2, g3, g4, g5⟩ := write_hole hA hl hj h1
    have hset : (D.map some ++ List.replicate (t :: r).length (none : Option Txt)).set i (some t) = (D ++ [t]).map some ++ List.replicate r.length none := by
      rw [List.set_append_right _ _ (by rw [List.length_map]; omega), List.length_map, hD, Nat.sub_self, List.length_cons, List.replicate_succ, List.set_cons_zero, List.map_append, List.append_assoc]
      rfl
    generalize (writeA A.1 A.2 n (i : Int) t).1 = A1 at *
    have g2n := g2 n
    rw [if_pos rfl, hset] at g2n
    obtain ⟨q1, q2, q3, q4⟩ := stor_sp n r (i + 1) A1 B (D ++ [t]) (by rw [List.length_append, List.length_singleton]; omega) g1 g2n h
    refine ⟨q1, fun m => ?_, fun u hu => q3 u (g5 u hu), fun q hq => ?_⟩
    · rw [q2, g2, List.append_assoc]
      by_cases hm : m = n
      · rw [if_pos hm, if_pos hm]; rfl
      · rw [if_neg hm, if_neg hm, if_neg hm]
    · rw [List.length_cons]
      cases q with
      | zero => have := q4 0 (fun k t hk => absurd hk (Nat.not_lt_zero _)); omega
      | succ q =>
        have h0 := g3 (hq 0 t (Nat.succ_pos _) rfl)
        have := q4 q (fun k u hk hu => g5 u (hq (k + 1) u (by omega) hu))
        omega
theorem stoT_sp {A B : St} {n s : Txt} {k : Nat} (h : stoT A n s = (B, k, true)) :
    ((s.length ≤ 600 ∧ k = (chop 600 s).length) ∧ 1 ≤ k ∧ k ≤ 32) ∧ stE B.1 B.2 = 0 ∧ (∀ m, lookV B m = if m = n then some ((chop 600 s).map some) else lookV A m) ∧ (∀ t, inBag A t → inBag B t) ∧
    (∀ q : Nat, (∀ (i : Nat) (t : Txt), i < q → (chop 600 s)[i]? = some t → inBag A t) → B.1.length ≤ A.1.length + (k - q)) := by
  unfold stoT at h
  by_cases h1 : 600 < s.length
  · rw [if_pos h1] at h; cases h
  rw [if_neg h1] at h
  by_cases h2 : 32 < (chop 600 s).length ∨ (chop 600 s).length = 0
  · rw [if_pos h2] at h; cases h
  rw [if_neg h2] at h
  by_cases h3 : (makeA A.1 A.2 n ((chop 600 s).length : Int)).2 = 0
  rotate_left
  · rw [if_pos h3] at h; cases h
  rw [if_neg (fun h => h h3)] at h
  have hm := look_makeA h3
  have hr := makeA_right A.1 A.2 n ((chop 600 s).length : Int)
  have hbag : (makeA A.1 A.2 n ((chop 600 s).length : Int)).1.1 = A.1 := by
    unfold makeA at h3 ⊢
    split
    · rename_i h; rw [if_pos h] at h3; exact absurd h3 h
    rename_i h4
    rw [if_neg h4] at h3
    split
    · rename_i h; rw [if_pos h] at h3; cases h3
    rename_i h5
    rw [if_neg h5] at h3
    split
    · rename_i h; rw [if_pos h] at h3; exact absurd h3 h
    rfl
  generalize (makeA A.1 A.2 n ((chop 600 s).length : Int)).1 = A1 at *
  have hi : ∀ t, inBag A t ↔ inBag A1 t := fun t => by unfold inBag; rw [hbag]
  cases hs : stor n (chop 600 s) 0 A1 with
  | none => rw [hs] at h; cases h
  | some B' =>
    rw [hs] at h
    simp only [Prod.mk.injEq, and_true] at h
    obtain ⟨rfl, rfl⟩ := h
    have hl := hm n
    rw [if_pos rfl] at hl
    obtain ⟨q1, q2, q3, q4⟩ := stor_sp n (chop 600 s) 0 A1 B' [] rfl hr (by rw [hl]; rfl) hs
    refine ⟨⟨⟨by omega, rfl⟩, by omega, by omega⟩, q1, fun m => ?_, fun t ht => q3 t ((hi t).1 ht), fun q hq => ?_⟩
    · rw [q2, hm]
      by_cases hmn : m = n
      · rw [if_pos hmn, if_pos hmn]; rfl
      · rw [if_neg hmn, if_neg hmn, if_neg hmn]
    · have := q4 q (fun i t hi2 ht => (hi t).1 (hq i t hi2 ht))
      rw [hbag] at this
      exact this
/-- what stands in a right state's volume lies in its bag -/
theorem look_bag {A : St} (hA : stE A.1 A.2 = 0) {n : Txt} {X : List (Option Txt)} (hX : lookV A n = some X) {j : Nat} {t : Txt} (hj : X[j]? = some (some t)) : inBag A t := by
  obtain ⟨i, x, e, hx, hn, hx2⟩ := look_some hX
  rw [← hx2, List.getElem?_map, Option.map_eq_some_iff] at hj
  obtain ⟨y, hy, hyt⟩ := hj
  have hr := rt_of hA
  unfold obs at hyt
  by_cases h1 : y.1 = true
  · rw [if_pos h1] at hyt
    cases hi : itK A.1 y.2 with
    | none => exact absurd hi (hr.it (mem_at hx hy) h1)
    | some z =>
      rw [txt_it (dk_of hr.ok) h1 hi] at hyt
      exact ⟨z, (itK_mem hi).1, Option.some.inj hyt⟩
  · rw [if_neg h1] at hyt; cases hyt
/-- what is read, one behind the other -/
def ldS (A : St) (n : Txt) (k : Nat) : Txt := ((List.range k).map fun i : Nat => rdS A.1 A.2 n (i : Int)).flatten
theorem ldS_succ (A : St) (n : Txt) (k : Nat) : ldS A n (k + 1) = ldS A n k ++ rdS A.1 A.2 n (k : Int) := by
  unfold ldS
  rw [List.range_succ, List.map_append, List.flatten_append]
  simp
theorem ldS_eq {A : St} (hA : stE A.1 A.2 = 0) {n : Txt} {P : List Txt} (hX : lookV A n = some (P.map some)) : ∀ k, k ≤ P.length → ldS A n k = (P.take k).flatten
  | 0, _ => rfl
  | k + 1, h => by
    obtain ⟨p, hp⟩ : ∃ p, P[k]? = some p := ⟨_, List.getElem?_eq_getElem (by omega)⟩
    have := rd_look (bag := A.1) (l := A.2) hA hX (j := k) (o := some p) (by rw [List.getElem?_map, hp]; rfl)
    rw [ldS_succ, ldS_eq hA hX k (by omega), this, List.take_add_one, hp, List.flatten_append]
    simp
end Go.X.Vo

namespace Go.X.Tv
open Go Go.X Go.X.Pol Go.X.Pl Go.X.Rp Go.X.Pd Go.X.Md Go.X.Mv Go.X.Pt

def be4 (p : Nat) : List UInt8 := [UInt8.ofNat (p / 16777216), UInt8.ofNat (p / 65536), UInt8.ofNat (p / 256), UInt8.ofNat p]
theorem ofNat_mod (x : Nat) : UInt8.ofNat (x % 256) = UInt8.ofNat x := by
  apply UInt8.toNat_inj.1
  simp
theorem byteW (x : Nat) : UInt8.ofNat (IntKind.u8.wrap (x : Int)).toNat = UInt8.ofNat x := by
  have h : (IntKind.u8.wrap (x : Int)).toNat = x % 256 := by
    rw [IntKind.wrap_u8]
    omega
  rw [h, ofNat_mod]
def saidN (a b : Nat) : List UInt8 := 110 :: (be4 a ++ be4 b)

theorem be4_len (p : Nat) : (be4 p).length = 4 := rfl
theorem four (p : Nat) (M : Mem) (hp : p ≤ 2147483647) :
    Meets Proofs.Try.prog 110 [.v (.int .i64 (p : Int))] M fun r _ _ => r = .v (.string ⟨(be4 p).toArray⟩) := by
  refine Meets.of_body [0,2] Proofs.Try.func110 rfl (by kernel_rfl) rfl fun w => ?_
  simp only [Proofs.Try.f110, shs, zts, sos, sls, zss, eqs, sx, sb1, sb2, sb3, sb4, sb5, sb6, sb7, ↓reduceIte, Nat.reduceAdd, Nat.reduceMul, Nat.reduceDiv, Nat.reduceEqDiff, Nat.reduceLT, Nat.reduceLeDiff, reduceCtorEq, Int.reduceEq, Int.reduceNe, Int.reduceLT, Int.reduceLE, Int.reduceAdd, Int.reduceSub, Int.reduceMul, Int.reduceNeg, Int.reduceToNat, Int.cast_ofNat_Int, Int.natCast_zero, Int.natCast_one, Int.toNat_natCast, Nat.reduceBEq, dw, b64, byteOf, byteW]
  exact ⟨(fun h => by cases h), (fun h => by cases h), (fun h => by cases h), (fun h => by cases h), rfl⟩
theorem said (a b : Nat) (M : Mem) (ha : a ≤ 2147483647) (hb : b ≤ 2147483647) :
    Meets Proofs.Try.prog 105 [.v (.int .i64 (a : Int)), .v (.int .i64 (b : Int))] M fun r _ _ => r = .v (.string ⟨(saidN a b).toArray⟩) := by
  refine Meets.of_body [0,1,4] Proofs.Try.func105 rfl (by kernel_rfl) rfl fun w => ?_
  simp only [Proofs.Try.f105, shs, zts, sos, sls, zss, eqs, sx, sb1, sb2, sb3, sb4, sb5, sb6, sb7, ↓reduceIte, Nat.reduceAdd, Nat.reduceMul, Nat.reduceDiv, Nat.reduceEqDiff, Nat.reduceLT, Nat.reduceLeDiff, reduceCtorEq, Int.reduceEq, Int.reduceNe, Int.reduceLT, Int.reduceLE, Int.reduceAdd, Int.reduceSub, Int.reduceMul, Int.reduceNeg, Int.reduceToNat, Int.cast_ofNat_Int, Int.natCast_zero, Int.natCast_one, Int.toNat_natCast, Nat.reduceBEq]
  refine CallK.pure ⟨rfl, rfl⟩ rfl (four a M ha) ?_
  simp only [shs, zts, sos, sls, zss, eqs, sx, sb1, sb2, sb3, sb4, sb5, sb6, sb7, ↓reduceIte, Nat.reduceAdd, Nat.reduceMul, Nat.reduceDiv, Nat.reduceEqDiff, Nat.reduceLT, Nat.reduceLeDiff, reduceCtorEq, Int.reduceEq, Int.reduceNe, Int.reduceLT, Int.reduceLE, Int.reduceAdd, Int.reduceSub, Int.reduceMul, Int.reduceNeg, Int.reduceToNat, Int.cast_ofNat_Int, Int.natCast_zero, Int.natCast_one, Int.toNat_natCast, Nat.reduceBEq, be4_len]
  refine CallK.pure ⟨rfl, rfl⟩ rfl (four b M hb) ?_
  simp only [shs, zts, sos, sls, zss, eqs, sx, sb1, sb2, sb3, sb4, sb5, sb6, sb7, ↓reduceIte, Nat.reduceAdd, Nat.reduceMul, Nat.reduceDiv, Nat.reduceEqDiff, Nat.reduceLT, Nat.reduceLeDiff, reduceCtorEq, Int.reduceEq, Int.reduceNe, Int.reduceLT, Int.reduceLE, Int.reduceAdd, Int.reduceSub, Int.reduceMul, Int.reduceNeg, Int.reduceToNat, Int.cast_ofNat_Int, Int.natCast_zero, Int.natCast_one, Int.toNat_natCast, Nat.reduceBEq, be4_len, saidN]
theorem prf_le (m : Nat) (h0 : m ≠ 0) (hm : m ≤ 2147483647) : ∀ (s : List UInt8) (p : Nat), p ≤ 1073741824 → prf m s p ≤ 1073741824
  | [], p, h => h
  | b :: s, p, h => by
    simp only [prf, List.foldl_cons]
    exact prf_le m h0 hm s _ (red_le h0 hm)
theorem saidN_len (a b : Nat) : (saidN a b).length = 9 := rfl

/-! ### verifying -/
def G : Nat := 1073741907
def good (s : Int) : Prop := 0 ≤ s ∧ s ≤ 2147483647
instance (s : Int) : Decidable (good s) := inferInstanceAs (Decidable (_ ∧ _))
/-! ### the document's sides -/
def spF (n : Nat) : Nat → Nat → Nat
  | 0, k => k
  | f + 1, k => if k * 2 < n then spF n f (k * 2) else k
end Go.X.Tv

