/- cut.Ends, woolref.End, woolref.Ends: what each returns. Conditions: none. -/
import Derived.Test.YtkhadbanpfngnaaPrint
set_option linter.unusedSimpArgs false
set_option linter.unusedVariables false
set_option maxHeartbeats 4000000
set_option maxRecDepth 20000
namespace Go.X.Cu
open Go Go.X Go.X.Pol Go.X.Pl Go.X.Rp Go.X.Pd Go.X.Md Go.X.Mv Go.X.Pt

def encN (k : Nat) : List Value := [.int .i64 (k : Int)]

theorem eqInt (x y : Value) (l m : List Nat) (M : Mem) (hx : RowM M x 1 (l.map encN)) (hy : RowM M y 1 (m.map encN)) :
    Meets Proofs.Try.prog 31 [.v x, .v y] M fun r _ _ => r = .v (.bool (decide (l = m))) := by
  refine Meets.of_body [0,1,4,5,10,12,13,14,24] Proofs.Try.func31 rfl (by kernel_rfl) rfl fun w => ?_
  simp only [Proofs.Try.f31, shs, zts, sos, sls, zss, sx, sb1, sb2, sb3, sb4, sb5, ↓reduceIte, Nat.reduceAdd, Nat.reduceMul, Nat.reduceDiv, Nat.reduceEqDiff, Nat.reduceLT, Nat.reduceLeDiff, reduceCtorEq, Int.reduceEq, Int.reduceNe, Int.reduceLT, Int.reduceLE, Int.reduceAdd, Int.reduceSub, Int.reduceMul, Int.reduceNeg, Int.reduceToNat, Int.cast_ofNat_Int, Int.natCast_zero, Int.natCast_one, Int.toNat_natCast, Nat.reduceBEq, hx.len, hy.len, hx.sl, hy.sl, List.length_map]
  refine ⟨fun h => ?_, fun h => ?_⟩
  · rw [decide_eq_false (fun e => h (by rw [e]))]
  have hlen : l.length = m.length := by omega
  have hle := hx.len_le
  rw [List.length_map] at hle
  refine LoopK.go (X := Nat × Nat) (fun p => ([(0, true, .v x), (1, true, .v y), (4, true, .v (.bool false)), (12, true, .v (.int .i64 l.length)), (13, true, .v (.int .i64 p.2))], [], M))
    (fun p => p.1 + p.2 = l.length ∧ (l = m ↔ l.drop p.2 = m.drop p.2)) (fun p => p.1) (l.length, 0) ⟨rfl, Iff.rfl⟩ (Ent.of ?_) ?_
  · simp only [sx, sb1, sb2, sb3, sb4, sb5, ↓reduceIte, Nat.reduceAdd, Nat.reduceMul, Nat.reduceDiv, Nat.reduceEqDiff, Nat.reduceLT, Nat.reduceLeDiff, reduceCtorEq, Int.reduceEq, Int.reduceNe, Int.reduceLT, Int.reduceLE, Int.reduceAdd, Int.reduceSub, Int.reduceMul, Int.reduceNeg, Int.reduceToNat, Int.cast_ofNat_Int, Int.natCast_zero, Int.natCast_one, Int.toNat_natCast, Nat.reduceBEq]
  rintro ⟨f, i⟩ ⟨h1, h2⟩
  simp only at h1 h2
  simp only [shs, zts, sos, sls, zss, sx, sb1, sb2, sb3, sb4, sb5, ↓reduceIte, Nat.reduceAdd, Nat.reduceMul, Nat.reduceDiv, Nat.reduceEqDiff, Nat.reduceLT, Nat.reduceLeDiff, reduceCtorEq, Int.reduceEq, Int.reduceNe, Int.reduceLT, Int.reduceLE, Int.reduceAdd, Int.reduceSub, Int.reduceMul, Int.reduceNeg, Int.reduceToNat, Int.cast_ofNat_Int, Int.natCast_zero, Int.natCast_one, Int.toNat_natCast, Nat.reduceBEq]
  refine ⟨fun h3 => ?_, fun h3 => ?_⟩
  · obtain ⟨e1, hl, hd⟩ := drop_at (l := l) (i := i) (by omega)
    obtain ⟨e2, hm, hd2⟩ := drop_at (l := m) (i := i) (by omega)
    have g1 := hx.el1 hl rfl
    have g2 := hy.el1 hm rfl
    have i1 := hx.ix (i := (i : Int)) (by omega) (by rw [List.length_map]; omega)
    have i2 := hy.ix (i := (i : Int)) (by omega) (by rw [List.length_map]; omega)
    refine DrawK.quiet (by kernel_rfl) (by kernel_rfl) ?_
    simp only [shs, zts, sos, sls, zss, sx, sb1, sb2, sb3, sb4, sb5, ↓reduceIte, Nat.reduceAdd, Nat.reduceMul, Nat.reduceDiv, Nat.reduceEqDiff, Nat.reduceLT, Nat.reduceLeDiff, reduceCtorEq, Int.reduceEq, Int.reduceNe, Int.reduceLT, Int.reduceLE, Int.reduceAdd, Int.reduceSub, Int.reduceMul, Int.reduceNeg, Int.reduceToNat, Int.cast_ofNat_Int, Int.natCast_zero, Int.natCast_one, Int.toNat_natCast, Nat.reduceBEq, g1.1, g2.1, inK, lo, hi]
    refine ⟨i1, g1.2, i2, g2.2, fun hne => ?_, fun he => ⟨by omega, (f - 1, i + 1), ⟨⟨by simp only; omega, ?_⟩, by simp only; omega⟩, Ent.of ?_⟩⟩
    · rw [decide_eq_false (fun e => hne ?_)]
      have := h2.1 e
      rw [hd, hd2] at this
      have := (List.cons.inj this).1
      omega
    · simp only
      rw [h2, hd, hd2, show e1 = e2 by omega]
      exact ⟨fun e => (List.cons.inj e).2, fun e => by rw [e]⟩
    · simp only [sx, sb1, sb2, sb3, sb4, sb5, ↓reduceIte, Nat.reduceAdd, Nat.reduceMul, Nat.reduceDiv, Nat.reduceEqDiff, Nat.reduceLT, Nat.reduceLeDiff, reduceCtorEq, Int.reduceEq, Int.reduceNe, Int.reduceLT, Int.reduceLE, Int.reduceAdd, Int.reduceSub, Int.reduceMul, Int.reduceNeg, Int.reduceToNat, Int.cast_ofNat_Int, Int.natCast_zero, Int.natCast_one, Int.toNat_natCast, Nat.reduceBEq, Int.natCast_add]
  · have : i = l.length := by omega
    rw [decide_eq_true (h2.2 (by rw [List.drop_eq_nil_of_le (by omega), List.drop_eq_nil_of_le (by omega)]))]

/-- what is looked at ahead of place e -/
def win (t : List UInt8) (e : Nat) : List UInt8 := if 8 < e then (t.drop (e - 8)).take 8 else t.take e
def hit (mask : Nat) (t : List UInt8) (e : Nat) : Prop := prf 65581 (win t e) 1 &&& mask = mask
instance (mask : Nat) (t : List UInt8) (e : Nat) : Decidable (hit mask t e) := inferInstanceAs (Decidable (_ = _))
def fe (most mask : Nat) (t : List UInt8) : Nat → Nat → Nat
  | 0, e => e
  | f + 1, e => if e < t.length ∧ e ≠ most ∧ ¬ hit mask t e then fe most mask t f (e + 1) else e
def endN (least most mask : Nat) (t : List UInt8) : Nat := fe most mask t (t.length - min t.length least) (min t.length least)
theorem fe_ge (most mask : Nat) (t : List UInt8) : ∀ f e, e ≤ fe most mask t f e
  | 0, e => Nat.le_refl _
  | f + 1, e => by
    simp only [fe]
    split
    · have := fe_ge most mask t f (e + 1); omega
    · exact Nat.le_refl _
theorem fe_le (most mask : Nat) (t : List UInt8) : ∀ f e, fe most mask t f e ≤ e + f
  | 0, e => Nat.le_refl _
  | f + 1, e => by
    simp only [fe]
    split
    · have := fe_le most mask t f (e + 1); omega
    · omega
theorem fe_stop {most mask : Nat} {t : List UInt8} {f e : Nat} (h : ¬ (e < t.length ∧ e ≠ most ∧ ¬ hit mask t e)) : fe most mask t f e = e := by
  cases f with
  | zero => rfl
  | succ f => simp only [fe, if_neg h]
def ends (least most mask : Nat) : Nat → List UInt8 → List Nat
  | 0, _ => []
  | f + 1, t => if t = [] then [] else endN least most mask t :: (ends least most mask f (t.drop (endN least most mask t))).map (· + endN least most mask t)
theorem ends_nil (least most mask f : Nat) : ends least most mask f [] = [] := by cases f <;> rfl

theorem orm {x mask : Nat} (hx : x < 9223372036854775808) (hm : mask < 9223372036854775808) : (orV .i64 (x : Int) (-(mask : Int) - 1) = -1) = (x &&& mask = mask) := by
  have h1 : BitVec.ofInt 64 (-(mask : Int) - 1) = ~~~ BitVec.ofNat 64 mask := by
    rw [show -(mask : Int) - 1 = Int.negSucc mask by rw [Int.negSucc_eq]; omega]
    exact BitVec.ofInt_negSucc_eq_not_ofNat
  have h2 : BitVec.ofInt 64 (x : Int) = BitVec.ofNat 64 x := BitVec.ofInt_natCast ..
  have h3 : orV .i64 (x : Int) (-(mask : Int) - 1) = IntKind.i64.wrap ((BitVec.ofNat 64 x ||| ~~~ BitVec.ofNat 64 mask).toNat : Int) := by
    show IntKind.i64.wrap ((BitVec.ofInt 64 (x : Int) ||| BitVec.ofInt 64 (-(mask : Int) - 1)).toNat : Int) = _
    rw [h1, h2]
  rw [h3]
  have h4 := (BitVec.ofNat 64 x ||| ~~~ BitVec.ofNat 64 mask).isLt
  have hbit : ∀ i, i < 64 → (BitVec.ofNat 64 x ||| ~~~ BitVec.ofNat 64 mask).getLsbD i = (x.testBit i || !mask.testBit i) := fun i hi => by
    rw [BitVec.getLsbD_or, BitVec.getLsbD_not, BitVec.getLsbD_ofNat, BitVec.getLsbD_ofNat, decide_eq_true hi, Bool.true_and, Bool.true_and, Bool.true_and]
  generalize BitVec.ofNat 64 x ||| ~~~ BitVec.ofNat 64 mask = V at *
  have h5 : IntKind.i64.wrap (V.toNat : Int) = -1 ↔ V.toNat = 18446744073709551615 := by
    rw [IntKind.wrap_i64]
    omega
  apply propext
  rw [h5]
  constructor
  · intro h
    have hV : V = BitVec.allOnes 64 := BitVec.eq_of_toNat_eq (by rw [h, BitVec.toNat_allOnes])
    apply Nat.eq_of_testBit_eq
    intro i
    rw [Nat.testBit_and]
    by_cases hi : i < 64
    · have := hbit i hi
      rw [hV, BitVec.getLsbD_allOnes, decide_eq_true hi] at this
      revert this
      cases x.testBit i <;> cases mask.testBit i <;> simp
    · have : mask.testBit i = false := Nat.testBit_lt_two_pow (Nat.lt_of_lt_of_le hm (Nat.pow_le_pow_right (n := 2) (i := 63) (by omega) (by omega)))
      rw [this, Bool.and_false]
  · intro h
    have hV : V = BitVec.allOnes 64 := by
      apply BitVec.eq_of_getLsbD_eq
      intro i hi
      rw [hbit i hi, BitVec.getLsbD_allOnes, decide_eq_true hi]
      have : (x &&& mask).testBit i = mask.testBit i := by rw [h]
      rw [Nat.testBit_and] at this
      revert this
      cases x.testBit i <;> cases mask.testBit i <;> simp
    rw [hV, BitVec.toNat_allOnes]

theorem prf_le (m : Nat) (h0 : m ≠ 0) (hm : m ≤ 2147483647) : ∀ (s : List UInt8) (p : Nat), p ≤ 1073741824 → prf m s p ≤ 1073741824
  | [], p, h => h
  | b :: s, p, h => by
    simp only [prf, List.foldl_cons]
    exact prf_le m h0 hm s _ (red_le h0 hm)
theorem win_len (t : List UInt8) (e : Nat) (he : e ≤ 600) : (win t e).length ≤ maxLen := by
  unfold win
  simp only [maxLen]
  split <;> simp only [List.length_take] <;> omega
theorem win_hi (t : List UInt8) {e : Nat} (h : 8 < e) : List.take (e - (e - 8)) (List.drop (e - 8) t) = win t e := by
  rw [win, if_pos h, show e - (e - 8) = 8 by omega]
theorem win_lo (t : List UInt8) {e : Nat} (h : ¬ 8 < e) : List.take (e - 0) t = win t e := by
  rw [win, if_neg h, Nat.sub_zero]
theorem rend (t : List UInt8) (least most mask : Nat) (M : Mem) (ht : t.length ≤ 600) (h1 : 1 ≤ least) (hlm : least ≤ most) (hm : most ≤ 600) (hk : mask ≤ 65535) :
    Meets Proofs.Try.prog 84 [.v (.string ⟨t.toArray⟩), .v (.int .i64 (least : Int)), .v (.int .i64 (most : Int)), .v (.int .i64 (mask : Int))] M fun r _ _ => r = .v (.int .i64 ((endN least most mask t : Nat) : Int)) := by
  refine Meets.of_body [0,1,2,3,8,9,10,15,20,26,37] Proofs.Try.func84 rfl (by kernel_rfl) rfl fun w => ?_
  generalize hc : endN least most mask t = c
  simp only [Proofs.Try.f84, shs, zts, sos, sls, zss, sx, sb1, sb2, sb3, sb4, sb5, ↓reduceIte, Nat.reduceAdd, Nat.reduceMul, Nat.reduceDiv, Nat.reduceEqDiff, Nat.reduceLT, Nat.reduceLeDiff, reduceCtorEq, Int.reduceEq, Int.reduceNe, Int.reduceLT, Int.reduceLE, Int.reduceAdd, Int.reduceSub, Int.reduceMul, Int.reduceNeg, Int.reduceToNat, Int.cast_ofNat_Int, Int.natCast_zero, Int.natCast_one, Int.toNat_natCast, Nat.reduceBEq]
  by_cases hl : least < t.length
  · rw [endN, show min t.length least = least by omega] at hc
    refine LoopK.go (X := Nat × Nat) (fun x => ([(0, true, .v (.string ⟨t.toArray⟩)), (2, true, .v (.int .i64 most)), (3, true, .v (.int .i64 mask)), (9, true, .v (.int .i64 x.2))], [], M))
      (fun x => (x.1 + x.2 = t.length ∧ least ≤ x.2) ∧ fe most mask t x.1 x.2 = c) (fun x => x.1) (t.length - least, least) ⟨⟨by simp only; omega, Nat.le_refl _⟩, hc⟩ (Ent.of ?_) ?_
    · simp only [sx, sb1, sb2, sb3, sb4, sb5, ↓reduceIte, Nat.reduceAdd, Nat.reduceMul, Nat.reduceDiv, Nat.reduceEqDiff, Nat.reduceLT, Nat.reduceLeDiff, reduceCtorEq, Int.reduceEq, Int.reduceNe, Int.reduceLT, Int.reduceLE, Int.reduceAdd, Int.reduceSub, Int.reduceMul, Int.reduceNeg, Int.reduceToNat, Int.cast_ofNat_Int, Int.natCast_zero, Int.natCast_one, Int.toNat_natCast, Nat.reduceBEq]
    rintro ⟨f, e⟩ ⟨⟨h3, h4⟩, h5⟩
    simp only at h3 h4 h5
    have hwl := win_len t e (by omega)
    have hP := prf_le 65581 (by omega) (by omega) (win t e) 1 (by omega)
    have ho := orm (x := prf 65581 (win t e) 1) (mask := mask) (by omega) (by omega)
    by_cases h8 : 8 < e
    · have d8 : (8 < (e : Int)) = True := eq_true (by omega)
      have e8' : (e : Int) - 8 = ((e - 8 : Nat) : Int) := by omega
      simp only [shs, zts, sos, sls, zss, sx, sb1, sb2, sb3, sb4, sb5, ↓reduceIte, Nat.reduceAdd, Nat.reduceMul, Nat.reduceDiv, Nat.reduceEqDiff, Nat.reduceLT, Nat.reduceLeDiff, reduceCtorEq, Int.reduceEq, Int.reduceNe, Int.reduceLT, Int.reduceLE, Int.reduceAdd, Int.reduceSub, Int.reduceMul, Int.reduceNeg, Int.reduceToNat, Int.cast_ofNat_Int, Int.natCast_zero, Int.natCast_one, Int.toNat_natCast, Nat.reduceBEq, inK, lo, hi, d8, e8', win_hi t h8]
      refine ⟨fun h6 => ⟨fun h7 => ?_, fun h7 => ⟨by omega, by omega, by omega, ?_⟩⟩, fun h6 => ?_⟩
      · rw [← h5, fe_stop (by omega)]
      · refine CallK.pure ⟨rfl, rfl⟩ rfl (rprint 65581 (win t e) M (by omega) (by omega) hwl) ?_
        simp only [shs, zts, sos, sls, zss, sx, sb1, sb2, sb3, sb4, sb5, ↓reduceIte, Nat.reduceAdd, Nat.reduceMul, Nat.reduceDiv, Nat.reduceEqDiff, Nat.reduceLT, Nat.reduceLeDiff, reduceCtorEq, Int.reduceEq, Int.reduceNe, Int.reduceLT, Int.reduceLE, Int.reduceAdd, Int.reduceSub, Int.reduceMul, Int.reduceNeg, Int.reduceToNat, Int.cast_ofNat_Int, Int.natCast_zero, Int.natCast_one, Int.toNat_natCast, Nat.reduceBEq, inK, lo, hi, ho]
        refine ⟨by omega, fun h9 => ?_, fun h9 => ⟨by omega, (f - 1, e + 1), ⟨⟨⟨by simp only; omega, by simp only; omega⟩, ?_⟩, by simp only; omega⟩, Ent.of ?_⟩⟩
        · rw [← h5, fe_stop (fun h => h.2.2 h9)]
        · obtain ⟨f, rfl⟩ : ∃ g, f = g + 1 := ⟨f - 1, by omega⟩
          simp only [fe] at h5
          rw [if_pos ⟨by omega, by omega, h9⟩] at h5
          exact h5
        · simp only [sx, sb1, sb2, sb3, sb4, sb5, ↓reduceIte, Nat.reduceAdd, Nat.reduceMul, Nat.reduceDiv, Nat.reduceEqDiff, Nat.reduceLT, Nat.reduceLeDiff, reduceCtorEq, Int.reduceEq, Int.reduceNe, Int.reduceLT, Int.reduceLE, Int.reduceAdd, Int.reduceSub, Int.reduceMul, Int.reduceNeg, Int.reduceToNat, Int.cast_ofNat_Int, Int.natCast_zero, Int.natCast_one, Int.toNat_natCast, Nat.reduceBEq, Int.natCast_add]
      · rw [← h5, fe_stop (by omega), show t.length = e by omega]
    · have d8 : (8 < (e : Int)) = False := eq_false (by omega)
      simp only [shs, zts, sos, sls, zss, sx, sb1, sb2, sb3, sb4, sb5, ↓reduceIte, Nat.reduceAdd, Nat.reduceMul, Nat.reduceDiv, Nat.reduceEqDiff, Nat.reduceLT, Nat.reduceLeDiff, reduceCtorEq, Int.reduceEq, Int.reduceNe, Int.reduceLT, Int.reduceLE, Int.reduceAdd, Int.reduceSub, Int.reduceMul, Int.reduceNeg, Int.reduceToNat, Int.cast_ofNat_Int, Int.natCast_zero, Int.natCast_one, Int.toNat_natCast, Nat.reduceBEq, inK, lo, hi, d8, win_lo t h8]
      refine ⟨fun h6 => ⟨fun h7 => ?_, fun h7 => ⟨by omega, ?_⟩⟩, fun h6 => ?_⟩
      · rw [← h5, fe_stop (by omega)]
      · refine CallK.pure ⟨rfl, rfl⟩ rfl (rprint 65581 (win t e) M (by omega) (by omega) hwl) ?_
        simp only [shs, zts, sos, sls, zss, sx, sb1, sb2, sb3, sb4, sb5, ↓reduceIte, Nat.reduceAdd, Nat.reduceMul, Nat.reduceDiv, Nat.reduceEqDiff, Nat.reduceLT, Nat.reduceLeDiff, reduceCtorEq, Int.reduceEq, Int.reduceNe, Int.reduceLT, Int.reduceLE, Int.reduceAdd, Int.reduceSub, Int.reduceMul, Int.reduceNeg, Int.reduceToNat, Int.cast_ofNat_Int, Int.natCast_zero, Int.natCast_one, Int.toNat_natCast, Nat.reduceBEq, inK, lo, hi, ho]
        refine ⟨by omega, fun h9 => ?_, fun h9 => ⟨by omega, (f - 1, e + 1), ⟨⟨⟨by simp only; omega, by simp only; omega⟩, ?_⟩, by simp only; omega⟩, Ent.of ?_⟩⟩
        · rw [← h5, fe_stop (fun h => h.2.2 h9)]
        · obtain ⟨f, rfl⟩ : ∃ g, f = g + 1 := ⟨f - 1, by omega⟩
          simp only [fe] at h5
          rw [if_pos ⟨by omega, by omega, h9⟩] at h5
          exact h5
        · simp only [sx, sb1, sb2, sb3, sb4, sb5, ↓reduceIte, Nat.reduceAdd, Nat.reduceMul, Nat.reduceDiv, Nat.reduceEqDiff, Nat.reduceLT, Nat.reduceLeDiff, reduceCtorEq, Int.reduceEq, Int.reduceNe, Int.reduceLT, Int.reduceLE, Int.reduceAdd, Int.reduceSub, Int.reduceMul, Int.reduceNeg, Int.reduceToNat, Int.cast_ofNat_Int, Int.natCast_zero, Int.natCast_one, Int.toNat_natCast, Nat.reduceBEq, Int.natCast_add]
      · rw [← h5, fe_stop (by omega), show t.length = e by omega]
  · have hcl : c = t.length := by
      rw [← hc, endN, show min t.length least = t.length by omega, Nat.sub_self]
      rfl
    refine LoopK.go (X := Unit) (fun _ => ([(0, true, .v (.string ⟨t.toArray⟩)), (2, true, .v (.int .i64 most)), (3, true, .v (.int .i64 mask)), (9, true, .v (.int .i64 least))], [], M)) (fun _ => True) (fun _ => 0) () trivial (Ent.of ?_) ?_
    · simp only [sx, sb1, sb2, sb3, sb4, sb5, ↓reduceIte, Nat.reduceAdd, Nat.reduceMul, Nat.reduceDiv, Nat.reduceEqDiff, Nat.reduceLT, Nat.reduceLeDiff, reduceCtorEq, Int.reduceEq, Int.reduceNe, Int.reduceLT, Int.reduceLE, Int.reduceAdd, Int.reduceSub, Int.reduceMul, Int.reduceNeg, Int.reduceToNat, Int.cast_ofNat_Int, Int.natCast_zero, Int.natCast_one, Int.toNat_natCast, Nat.reduceBEq]
    intro _ _
    have dl : ((least : Int) < (t.length : Nat)) = False := eq_false (by omega)
    simp only [shs, zts, sos, sls, zss, sx, sb1, sb2, sb3, sb4, sb5, ↓reduceIte, Nat.reduceAdd, Nat.reduceMul, Nat.reduceDiv, Nat.reduceEqDiff, Nat.reduceLT, Nat.reduceLeDiff, reduceCtorEq, Int.reduceEq, Int.reduceNe, Int.reduceLT, Int.reduceLE, Int.reduceAdd, Int.reduceSub, Int.reduceMul, Int.reduceNeg, Int.reduceToNat, Int.cast_ofNat_Int, Int.natCast_zero, Int.natCast_one, Int.toNat_natCast, Nat.reduceBEq, dl, hcl]

theorem endN_ge {least most mask : Nat} {t : List UInt8} (h1 : 1 ≤ least) (ht : t ≠ []) : 1 ≤ endN least most mask t := by
  have := fe_ge most mask t (t.length - min t.length least) (min t.length least)
  have := List.length_pos_iff.2 ht
  unfold endN
  omega
theorem endN_le {least most mask : Nat} {t : List UInt8} : endN least most mask t ≤ t.length := by
  have := fe_le most mask t (t.length - min t.length least) (min t.length least)
  unfold endN
  omega

theorem ends_len (least most mask : Nat) : ∀ (f : Nat) (t : List UInt8), (ends least most mask f t).length ≤ f
  | 0, t => Nat.le_refl _
  | f + 1, t => by
    simp only [ends]
    split
    · simp
    · have := ends_len least most mask f (t.drop (endN least most mask t))
      simp only [List.length_cons, List.length_map]
      omega
theorem ends_le (least most mask : Nat) : ∀ (f : Nat) (t : List UInt8), ∀ x ∈ ends least most mask f t, x ≤ t.length
  | 0, t, x, hx => by simp [ends] at hx
  | f + 1, t, x, hx => by
    simp only [ends] at hx
    split at hx
    · simp at hx
    · have hl := endN_le (least := least) (most := most) (mask := mask) (t := t)
      rcases List.mem_cons.1 hx with rfl | hx
      · exact hl
      · obtain ⟨y, hy, rfl⟩ := List.mem_map.1 hx
        have := ends_le least most mask f _ y hy
        rw [List.length_drop] at this
        omega
theorem rends : ∀ (f : Nat) (t : List UInt8) (least most mask : Nat) (M : Mem), t.length ≤ f → f ≤ 600 → 1 ≤ least → least ≤ most → most ≤ 600 → mask ≤ 65535 →
    Meets Proofs.Try.prog 32 [.v (.string ⟨t.toArray⟩), .v (.int .i64 (least : Int)), .v (.int .i64 (most : Int)), .v (.int .i64 (mask : Int))] M (RowR (fun s => s) 1 ((ends least most mask f t).map encN))
  | f, t, least, most, mask, M, hf, hf6, h1, hlm, hm, hk => by
    have ht : t.length ≤ 600 := by omega
    refine Meets.of_body [0,1,2,3,8,9,11,13,28,29,30,31] Proofs.Try.func32 rfl (by kernel_rfl) rfl fun w => ?_
    generalize hc : (ends least most mask f t).map encN = c
    simp only [Proofs.Try.f32, shs, zts, sos, sls, zss, sx, sb1, sb2, sb3, sb4, sb5, ↓reduceIte, Nat.reduceAdd, Nat.reduceMul, Nat.reduceDiv, Nat.reduceEqDiff, Nat.reduceLT, Nat.reduceLeDiff, reduceCtorEq, Int.reduceEq, Int.reduceNe, Int.reduceLT, Int.reduceLE, Int.reduceAdd, Int.reduceSub, Int.reduceMul, Int.reduceNeg, Int.reduceToNat, Int.cast_ofNat_Int, Int.natCast_zero, Int.natCast_one, Int.toNat_natCast, Nat.reduceBEq]
    refine ⟨fun h => ?_, fun h => ?_⟩
    · subst h
      rw [ends_nil] at hc
      subst hc
      exact ⟨.v (.slice none 0 0), rfl, RowM.nil _ _⟩
    · have hg := endN_ge (least := least) (most := most) (mask := mask) h1 h
      have hl := endN_le (least := least) (most := most) (mask := mask) (t := t)
      have htl := List.length_pos_iff.2 h
      obtain ⟨f, rfl⟩ : ∃ g, f = g + 1 := ⟨f - 1, by omega⟩
      simp only [ends, if_neg h] at hc
      refine CallK.pure ⟨rfl, rfl⟩ rfl (rend t least most mask M ht h1 hlm hm hk) ?_
      have hle := ends_le least most mask f (t.drop (endN least most mask t))
      have hll := ends_len least most mask f (t.drop (endN least most mask t))
      rw [List.length_drop] at hle
      generalize endN least most mask t = k at *
      have e1 : List.take (t.length - k) (List.drop k t) = List.drop k t := List.take_of_length_le (by rw [List.length_drop]; omega)
      simp only [shs, zts, sos, sls, zss, sx, sb1, sb2, sb3, sb4, sb5, ↓reduceIte, Nat.reduceAdd, Nat.reduceMul, Nat.reduceDiv, Nat.reduceEqDiff, Nat.reduceLT, Nat.reduceLeDiff, reduceCtorEq, Int.reduceEq, Int.reduceNe, Int.reduceLT, Int.reduceLE, Int.reduceAdd, Int.reduceSub, Int.reduceMul, Int.reduceNeg, Int.reduceToNat, Int.cast_ofNat_Int, Int.natCast_zero, Int.natCast_one, Int.toNat_natCast, Nat.reduceBEq, e1]
      refine ⟨by omega, CallK.row Ctx.id rfl rfl (rends f (t.drop k) least most mask M (by rw [List.length_drop]; omega) (by omega) h1 hlm hm hk) fun v1 M1 hM1 hv1 => ?_⟩
      generalize hL : ends least most mask f (List.drop k t) = L at *
      have hvl := hv1.len_le
      simp only [shs, zts, sos, sls, zss, sx, sb1, sb2, sb3, sb4, sb5, ↓reduceIte, Nat.reduceAdd, Nat.reduceMul, Nat.reduceDiv, Nat.reduceEqDiff, Nat.reduceLT, Nat.reduceLeDiff, reduceCtorEq, Int.reduceEq, Int.reduceNe, Int.reduceLT, Int.reduceLE, Int.reduceAdd, Int.reduceSub, Int.reduceMul, Int.reduceNeg, Int.reduceToNat, Int.cast_ofNat_Int, Int.natCast_zero, Int.natCast_one, Int.toNat_natCast, Nat.reduceBEq, hv1.len, hv1.sl, List.length_map]
      refine LoopK.go (X := Nat) (fun j => ([(9, true, .own 152), (28, true, .v v1), (29, true, .v (.int .i64 L.length)), (30, true, .v (.int .i64 j))], [(152, .row 1 ([.int .i64 (k : Int)] :: ((L.take j).map fun x => encN (x + k))))], M1))
        (fun j => j ≤ L.length) (fun j => L.length - j) 0 (Nat.zero_le _) (Ent.of ?_) ?_
      · simp only [sx, sb1, sb2, sb3, sb4, sb5, ↓reduceIte, Nat.reduceAdd, Nat.reduceMul, Nat.reduceDiv, Nat.reduceEqDiff, Nat.reduceLT, Nat.reduceLeDiff, reduceCtorEq, Int.reduceEq, Int.reduceNe, Int.reduceLT, Int.reduceLE, Int.reduceAdd, Int.reduceSub, Int.reduceMul, Int.reduceNeg, Int.reduceToNat, Int.cast_ofNat_Int, Int.natCast_zero, Int.natCast_one, Int.toNat_natCast, Nat.reduceBEq, List.take_zero, List.map_nil]
      intro j hj
      simp only [shs, zts, sos, sls, zss, sx, sb1, sb2, sb3, sb4, sb5, ↓reduceIte, Nat.reduceAdd, Nat.reduceMul, Nat.reduceDiv, Nat.reduceEqDiff, Nat.reduceLT, Nat.reduceLeDiff, reduceCtorEq, Int.reduceEq, Int.reduceNe, Int.reduceLT, Int.reduceLE, Int.reduceAdd, Int.reduceSub, Int.reduceMul, Int.reduceNeg, Int.reduceToNat, Int.cast_ofNat_Int, Int.natCast_zero, Int.natCast_one, Int.toNat_natCast, Nat.reduceBEq]
      refine ⟨fun h3 => ?_, fun h3 => ?_⟩
      · obtain ⟨x, hx, hd⟩ := drop_at (l := L) (i := j) (by omega)
        have g1 := hv1.el1 hx rfl
        have i1 := hv1.ix (i := (j : Int)) (by omega) (by rw [List.length_map]; omega)
        have hxl := hle x (List.mem_of_getElem? hx)
        have htk : L.take (j + 1) = L.take j ++ [x] := by rw [List.take_add_one, hx]; rfl
        simp only [shs, zts, sos, sls, zss, sx, sb1, sb2, sb3, sb4, sb5, ↓reduceIte, Nat.reduceAdd, Nat.reduceMul, Nat.reduceDiv, Nat.reduceEqDiff, Nat.reduceLT, Nat.reduceLeDiff, reduceCtorEq, Int.reduceEq, Int.reduceNe, Int.reduceLT, Int.reduceLE, Int.reduceAdd, Int.reduceSub, Int.reduceMul, Int.reduceNeg, Int.reduceToNat, Int.cast_ofNat_Int, Int.natCast_zero, Int.natCast_one, Int.toNat_natCast, Nat.reduceBEq, g1.1, inK, lo, hi, List.length_map, List.length_take]
        refine ⟨i1, g1.2, by omega, by omega, by omega, ⟨by omega, by omega⟩, by omega, j + 1, ⟨by omega, by omega⟩, Ent.rekey 9 19 328 1 _ rfl rfl rfl rfl (Ent.of ?_)⟩
        simp only [sx, sb1, sb2, sb3, sb4, sb5, ↓reduceIte, Nat.reduceAdd, Nat.reduceMul, Nat.reduceDiv, Nat.reduceEqDiff, Nat.reduceLT, Nat.reduceLeDiff, reduceCtorEq, Int.reduceEq, Int.reduceNe, Int.reduceLT, Int.reduceLE, Int.reduceAdd, Int.reduceSub, Int.reduceMul, Int.reduceNeg, Int.reduceToNat, Int.cast_ofNat_Int, Int.natCast_zero, Int.natCast_one, Int.toNat_natCast, Nat.reduceBEq, htk, List.map_append, encN, Int.natCast_add]
      · have : j = L.length := by omega
        subst this
        rw [List.take_length]
        refine ⟨.own 152, rfl, ?_⟩
        simp only [sx, sb1, sb2, sb3, sb4, sb5, ↓reduceIte, Nat.reduceAdd, Nat.reduceMul, Nat.reduceDiv, Nat.reduceEqDiff, Nat.reduceLT, Nat.reduceLeDiff, reduceCtorEq, Int.reduceEq, Int.reduceNe, Int.reduceLT, Int.reduceLE, Int.reduceAdd, Int.reduceSub, Int.reduceMul, Int.reduceNeg, Int.reduceToNat, Int.cast_ofNat_Int, Int.natCast_zero, Int.natCast_one, Int.toNat_natCast, Nat.reduceBEq, IsRow]
        rw [← hc, List.map_cons, List.map_map]
        rfl

def cutB (s : List UInt8) (least most mask : Int) : Int := if 600 < (s.length : Int) then 2 else if (((least < 1 ∨ most < least) ∨ 600 < most) ∨ mask < 0) ∨ 65535 < mask then 1 else 0
theorem ends_bad (s : List UInt8) (least most mask : Int) (M : Mem) (h : cutB s least most mask ≠ 0) :
    Meets Proofs.Try.prog 30 [.v (.string ⟨s.toArray⟩), .v (.int .i64 least), .v (.int .i64 most), .v (.int .i64 mask)] M fun r _ _ => r = .tup [.v (.slice none 0 0), .v (.int .i64 (cutB s least most mask))] := by
  refine Meets.of_body [0,1,2,3,8,9,10,11,12,15,34,38,69] Proofs.Try.func30 rfl (by kernel_rfl) rfl fun w => ?_
  generalize hc : cutB s least most mask = c at h
  simp only [Proofs.Try.f30, shs, zts, sos, sls, zss, sx, sb1, sb2, sb3, sb4, sb5, ↓reduceIte, Nat.reduceAdd, Nat.reduceMul, Nat.reduceDiv, Nat.reduceEqDiff, Nat.reduceLT, Nat.reduceLeDiff, reduceCtorEq, Int.reduceEq, Int.reduceNe, Int.reduceLT, Int.reduceLE, Int.reduceAdd, Int.reduceSub, Int.reduceMul, Int.reduceNeg, Int.reduceToNat, Int.cast_ofNat_Int, Int.natCast_zero, Int.natCast_one, Int.toNat_natCast, Nat.reduceBEq]
  by_cases h1 : 600 < (s.length : Int)
  · rw [cutB, if_pos h1] at hc
    subst hc
    exact ⟨fun _ => rfl, fun h2 => by omega⟩
  · rw [cutB, if_neg h1] at hc
    by_cases h2 : (((least < 1 ∨ most < least) ∨ 600 < most) ∨ mask < 0) ∨ 65535 < mask
    · rw [if_pos h2] at hc
      subst hc
      exact ⟨fun h3 => by omega, fun _ => ⟨fun _ => rfl, fun h4 => by omega⟩⟩
    · rw [if_neg h2] at hc
      exact (h hc.symm).elim

theorem drop_dr (s : List UInt8) (b k : Nat) : (s.drop b).drop k = s.drop (b + k) := List.drop_drop ..
/-- the program's window is the document's -/
theorem win_of (s : List UInt8) {b e : Nat} (h : b ≤ e) : List.take (e - max b (e - 8)) (List.drop (max b (e - 8)) s) = win (s.drop b) (e - b) := by
  unfold win
  split
  · rw [drop_dr, show max b (e - 8) = e - 8 by omega, show b + (e - b - 8) = e - 8 by omega, show e - (e - 8) = 8 by omega]
  · rw [show max b (e - 8) = b by omega]

theorem ends_ok (s : List UInt8) (least most mask : Nat) (M : Mem) (hs : s.length ≤ 600) (h1 : 1 ≤ least) (hlm : least ≤ most) (hm : most ≤ 600) (hk : mask ≤ 65535) :
    Meets Proofs.Try.prog 30 [.v (.string ⟨s.toArray⟩), .v (.int .i64 (least : Int)), .v (.int .i64 (most : Int)), .v (.int .i64 (mask : Int))] M (RowR (fun t => .tup [t, .v (.int .i64 0)]) 1 ((ends least most mask 600 s).map encN)) := by
  refine Meets.of_body [0,1,2,3,8,9,10,11,12,15,34,38,69] Proofs.Try.func30 rfl (by kernel_rfl) rfl fun w => ?_
  generalize hc : (ends least most mask 600 s) = c
  have d1 : (600 < (s.length : Int)) = False := eq_false (by omega)
  have d2 : ((least : Int) < 1) = False := eq_false (by omega)
  have d3 : ((most : Int) < (least : Int)) = False := eq_false (by omega)
  have d4 : (600 < (most : Int)) = False := eq_false (by omega)
  have d5 : ((mask : Int) < 0) = False := eq_false (by omega)
  have d6 : (65535 < (mask : Int)) = False := eq_false (by omega)
  simp only [Proofs.Try.f30, shs, zts, sos, sls, zss, sx, sb1, sb2, sb3, sb4, sb5, ↓reduceIte, Nat.reduceAdd, Nat.reduceMul, Nat.reduceDiv, Nat.reduceEqDiff, Nat.reduceLT, Nat.reduceLeDiff, reduceCtorEq, Int.reduceEq, Int.reduceNe, Int.reduceLT, Int.reduceLE, Int.reduceAdd, Int.reduceSub, Int.reduceMul, Int.reduceNeg, Int.reduceToNat, Int.cast_ofNat_Int, Int.natCast_zero, Int.natCast_one, Int.toNat_natCast, Nat.reduceBEq, d1, d2, d3, d4, d5, d6]
  refine LoopK.nilRow 10 75 1 rfl rfl rfl ?_
  simp only [sx, sb1, sb2, sb3, sb4, sb5, ↓reduceIte, Nat.reduceAdd, Nat.reduceMul, Nat.reduceDiv, Nat.reduceEqDiff, Nat.reduceLT, Nat.reduceLeDiff, reduceCtorEq, Int.reduceEq, Int.reduceNe, Int.reduceLT, Int.reduceLE, Int.reduceAdd, Int.reduceSub, Int.reduceMul, Int.reduceNeg, Int.reduceToNat, Int.cast_ofNat_Int, Int.natCast_zero, Int.natCast_one, Int.toNat_natCast, Nat.reduceBEq]
  refine LoopK.go (X := Nat × Nat × List Nat) (fun x => ([(0, true, .v (.string ⟨s.toArray⟩)), (1, true, .v (.int .i64 least)), (2, true, .v (.int .i64 most)), (3, true, .v (.int .i64 mask)), (10, true, .own 600), (11, true, .v (.int .i64 x.2.1))], [(600, .row 1 (x.2.2.map encN))], M))
    (fun x => (((s.length ≤ x.1 + x.2.1 ∧ x.2.1 ≤ s.length) ∧ x.1 ≤ 600) ∧ x.2.2.length + x.1 ≤ 600) ∧ x.2.2 ++ (ends least most mask x.1 (s.drop x.2.1)).map (· + x.2.1) = c) (fun x => x.1) (600, 0, [])
    ⟨⟨⟨⟨by simp only; omega, Nat.zero_le _⟩, Nat.le_refl _⟩, by simp⟩, by simpa using hc⟩ (Ent.of ?_) ?_
  · simp only [sx, sb1, sb2, sb3, sb4, sb5, ↓reduceIte, Nat.reduceAdd, Nat.reduceMul, Nat.reduceDiv, Nat.reduceEqDiff, Nat.reduceLT, Nat.reduceLeDiff, reduceCtorEq, Int.reduceEq, Int.reduceNe, Int.reduceLT, Int.reduceLE, Int.reduceAdd, Int.reduceSub, Int.reduceMul, Int.reduceNeg, Int.reduceToNat, Int.cast_ofNat_Int, Int.natCast_zero, Int.natCast_one, Int.toNat_natCast, Nat.reduceBEq, List.map_nil]
  rintro ⟨f, b, out⟩ ⟨⟨⟨⟨h3, h4⟩, h5⟩, h6⟩, h7⟩
  simp only at h3 h4 h5 h6 h7
  simp only [shs, zts, sos, sls, zss, sx, sb1, sb2, sb3, sb4, sb5, ↓reduceIte, Nat.reduceAdd, Nat.reduceMul, Nat.reduceDiv, Nat.reduceEqDiff, Nat.reduceLT, Nat.reduceLeDiff, reduceCtorEq, Int.reduceEq, Int.reduceNe, Int.reduceLT, Int.reduceLE, Int.reduceAdd, Int.reduceSub, Int.reduceMul, Int.reduceNeg, Int.reduceToNat, Int.cast_ofNat_Int, Int.natCast_zero, Int.natCast_one, Int.toNat_natCast, Nat.reduceBEq, inK, lo, hi]
  refine ⟨fun h8 => ?_, fun h8 => ?_⟩
  · refine ⟨by omega, ?_⟩
    have hne : s.drop b ≠ [] := fun e => by
      have := congrArg List.length e
      rw [List.length_drop, List.length_nil] at this
      omega
    obtain ⟨f, rfl⟩ : ∃ g, f = g + 1 := ⟨f - 1, by omega⟩
    have hk1 := endN_ge (least := least) (most := most) (mask := mask) h1 hne
    have hk2 := endN_le (least := least) (most := most) (mask := mask) (t := s.drop b)
    simp only [ends, if_neg hne] at h7
    generalize hkk : endN least most mask (s.drop b) = k at *
    rw [List.map_cons, List.map_map, drop_dr] at h7
    rw [List.length_drop] at hk2
    have hmn : min (s.length : Int) ((b : Int) + (least : Int)) = ((b + min (s.drop b).length least : Nat) : Int) := by rw [List.length_drop]; omega
    have hfin : (out ++ [b + k]) ++ (ends least most mask f (s.drop (b + k))).map (· + (b + k)) = c := by
      rw [← h7, List.append_assoc, Nat.add_comm b k]
      congr 1
      show (k + b) :: _ = _
      congr 1
      apply List.map_congr_left
      intro x _
      simp only [Function.comp]
      omega
    simp only [hmn]
    refine LoopK.go (X := Nat × Nat) (fun x => ([(0, true, .v (.string ⟨s.toArray⟩)), (1, true, .v (.int .i64 least)), (2, true, .v (.int .i64 most)), (3, true, .v (.int .i64 mask)), (10, true, .own 600), (11, true, .v (.int .i64 b)), (12, true, .v (.int .i64 ((b + x.2 : Nat) : Int)))], [(600, .row 1 (out.map encN))], M))
      (fun x => (x.1 + x.2 = s.length - b ∧ x.2 ≤ most) ∧ fe most mask (s.drop b) x.1 x.2 = k) (fun x => x.1) (s.length - b - min (s.drop b).length least, min (s.drop b).length least)
      ⟨⟨by simp only [List.length_drop]; omega, by simp only; omega⟩, by rw [← hkk, endN, List.length_drop]⟩ (Ent.of ?_) ?_
    · simp only [sx, sb1, sb2, sb3, sb4, sb5, ↓reduceIte, Nat.reduceAdd, Nat.reduceMul, Nat.reduceDiv, Nat.reduceEqDiff, Nat.reduceLT, Nat.reduceLeDiff, reduceCtorEq, Int.reduceEq, Int.reduceNe, Int.reduceLT, Int.reduceLE, Int.reduceAdd, Int.reduceSub, Int.reduceMul, Int.reduceNeg, Int.reduceToNat, Int.cast_ofNat_Int, Int.natCast_zero, Int.natCast_one, Int.toNat_natCast, Nat.reduceBEq]
    rintro ⟨g, x⟩ ⟨⟨h9, h10⟩, h11⟩
    simp only at h9 h10 h11
    by_cases hA : x < s.length - b
    · have c1 : (((b + x : Nat) : Int) < (s.length : Int)) = True := eq_true (by omega)
      by_cases hB : x = most
      · have c2 : (((b + x : Nat) : Int) - (b : Int) < (most : Int)) = False := eq_false (by omega)
        rw [fe_stop (fun h => h.2.1 hB)] at h11
        subst h11
        simp only [shs, zts, sos, sls, zss, sx, sb1, sb2, sb3, sb4, sb5, ↓reduceIte, Nat.reduceAdd, Nat.reduceMul, Nat.reduceDiv, Nat.reduceEqDiff, Nat.reduceLT, Nat.reduceLeDiff, reduceCtorEq, Int.reduceEq, Int.reduceNe, Int.reduceLT, Int.reduceLE, Int.reduceAdd, Int.reduceSub, Int.reduceMul, Int.reduceNeg, Int.reduceToNat, Int.cast_ofNat_Int, Int.natCast_zero, Int.natCast_one, Int.toNat_natCast, Nat.reduceBEq, inK, lo, hi, c1, c2]
        refine ⟨by omega, ⟨by rw [List.length_map]; omega, by rw [List.length_map]; omega⟩, (f, b + x, out ++ [b + x]), ⟨⟨⟨⟨⟨by simp only; omega, by simp only; omega⟩, by simp only; omega⟩, by simp only [List.length_append, List.length_singleton]; omega⟩, hfin⟩, by simp only; omega⟩, Ent.of ?_⟩
        simp only [sx, sb1, sb2, sb3, sb4, sb5, ↓reduceIte, Nat.reduceAdd, Nat.reduceMul, Nat.reduceDiv, Nat.reduceEqDiff, Nat.reduceLT, Nat.reduceLeDiff, reduceCtorEq, Int.reduceEq, Int.reduceNe, Int.reduceLT, Int.reduceLE, Int.reduceAdd, Int.reduceSub, Int.reduceMul, Int.reduceNeg, Int.reduceToNat, Int.cast_ofNat_Int, Int.natCast_zero, Int.natCast_one, Int.toNat_natCast, Nat.reduceBEq, List.map_append, encN]
      · have c2 : (((b + x : Nat) : Int) - (b : Int) < (most : Int)) = True := eq_true (by omega)
        have e3 : max (b : Int) (((b + x : Nat) : Int) - 8) = ((max b (b + x - 8) : Nat) : Int) := by omega
        have hw := win_of s (show b ≤ b + x by omega)
        rw [Nat.add_sub_cancel_left] at hw
        simp only [shs, zts, sos, sls, zss, sx, sb1, sb2, sb3, sb4, sb5, ↓reduceIte, Nat.reduceAdd, Nat.reduceMul, Nat.reduceDiv, Nat.reduceEqDiff, Nat.reduceLT, Nat.reduceLeDiff, reduceCtorEq, Int.reduceEq, Int.reduceNe, Int.reduceLT, Int.reduceLE, Int.reduceAdd, Int.reduceSub, Int.reduceMul, Int.reduceNeg, Int.reduceToNat, Int.cast_ofNat_Int, Int.natCast_zero, Int.natCast_one, Int.toNat_natCast, Nat.reduceBEq, inK, lo, hi, c1, c2, e3, hw]
        have hwl := win_len (s.drop b) x (by omega)
        have hP := prf_le 65581 (by omega) (by omega) (win (s.drop b) x) 1 (by omega)
        refine ⟨by omega, by omega, by omega, CallK.pure ⟨rfl, rfl⟩ rfl (plain 65581 (win (s.drop b) x) M (by omega) (by omega) hwl) ?_⟩
        by_cases hh : hit mask (s.drop b) x
        · have hh' : prf 65581 (win (s.drop b) x) 1 &&& mask = mask := hh
          rw [fe_stop (fun h => h.2.2 hh)] at h11
          subst h11
          simp only [shs, zts, sos, sls, zss, sx, sb1, sb2, sb3, sb4, sb5, ↓reduceIte, Nat.reduceAdd, Nat.reduceMul, Nat.reduceDiv, Nat.reduceEqDiff, Nat.reduceLT, Nat.reduceLeDiff, reduceCtorEq, Int.reduceEq, Int.reduceNe, Int.reduceLT, Int.reduceLE, Int.reduceAdd, Int.reduceSub, Int.reduceMul, Int.reduceNeg, Int.reduceToNat, Int.cast_ofNat_Int, Int.natCast_zero, Int.natCast_one, Int.toNat_natCast, Nat.reduceBEq, inK, lo, hi, hh']
          refine ⟨by omega, ⟨by rw [List.length_map]; omega, by rw [List.length_map]; omega⟩, (f, b + x, out ++ [b + x]), ⟨⟨⟨⟨⟨by simp only; omega, by simp only; omega⟩, by simp only; omega⟩, by simp only [List.length_append, List.length_singleton]; omega⟩, hfin⟩, by simp only; omega⟩, Ent.of ?_⟩
          simp only [sx, sb1, sb2, sb3, sb4, sb5, ↓reduceIte, Nat.reduceAdd, Nat.reduceMul, Nat.reduceDiv, Nat.reduceEqDiff, Nat.reduceLT, Nat.reduceLeDiff, reduceCtorEq, Int.reduceEq, Int.reduceNe, Int.reduceLT, Int.reduceLE, Int.reduceAdd, Int.reduceSub, Int.reduceMul, Int.reduceNeg, Int.reduceToNat, Int.cast_ofNat_Int, Int.natCast_zero, Int.natCast_one, Int.toNat_natCast, Nat.reduceBEq, List.map_append, encN]
        · have hh' : (((prf 65581 (win (s.drop b) x) 1 &&& mask : Nat) : Int) = (mask : Int)) = False := eq_false (fun h => hh (Int.ofNat.inj h))
          obtain ⟨g, rfl⟩ : ∃ j, g = j + 1 := ⟨g - 1, by omega⟩
          simp only [fe] at h11
          rw [if_pos ⟨by rw [List.length_drop]; omega, hB, hh⟩] at h11
          simp only [shs, zts, sos, sls, zss, sx, sb1, sb2, sb3, sb4, sb5, ↓reduceIte, Nat.reduceAdd, Nat.reduceMul, Nat.reduceDiv, Nat.reduceEqDiff, Nat.reduceLT, Nat.reduceLeDiff, reduceCtorEq, Int.reduceEq, Int.reduceNe, Int.reduceLT, Int.reduceLE, Int.reduceAdd, Int.reduceSub, Int.reduceMul, Int.reduceNeg, Int.reduceToNat, Int.cast_ofNat_Int, Int.natCast_zero, Int.natCast_one, Int.toNat_natCast, Nat.reduceBEq, inK, lo, hi, hh']
          have e4 : ((b + (x + 1) : Nat) : Int) = ((b + x : Nat) : Int) + 1 := by omega
          refine ⟨by omega, by omega, (g, x + 1), ⟨⟨⟨by simp only; omega, by simp only; omega⟩, h11⟩, by simp only; omega⟩, Ent.of ?_⟩
          simp only [sx, sb1, sb2, sb3, sb4, sb5, ↓reduceIte, Nat.reduceAdd, Nat.reduceMul, Nat.reduceDiv, Nat.reduceEqDiff, Nat.reduceLT, Nat.reduceLeDiff, reduceCtorEq, Int.reduceEq, Int.reduceNe, Int.reduceLT, Int.reduceLE, Int.reduceAdd, Int.reduceSub, Int.reduceMul, Int.reduceNeg, Int.reduceToNat, Int.cast_ofNat_Int, Int.natCast_zero, Int.natCast_one, Int.toNat_natCast, Nat.reduceBEq, e4]
    · have c1 : (((b + x : Nat) : Int) < (s.length : Int)) = False := eq_false (by omega)
      rw [fe_stop (fun h => by rw [List.length_drop] at h; omega)] at h11
      subst h11
      simp only [shs, zts, sos, sls, zss, sx, sb1, sb2, sb3, sb4, sb5, ↓reduceIte, Nat.reduceAdd, Nat.reduceMul, Nat.reduceDiv, Nat.reduceEqDiff, Nat.reduceLT, Nat.reduceLeDiff, reduceCtorEq, Int.reduceEq, Int.reduceNe, Int.reduceLT, Int.reduceLE, Int.reduceAdd, Int.reduceSub, Int.reduceMul, Int.reduceNeg, Int.reduceToNat, Int.cast_ofNat_Int, Int.natCast_zero, Int.natCast_one, Int.toNat_natCast, Nat.reduceBEq, inK, lo, hi, c1]
      refine ⟨⟨by rw [List.length_map]; omega, by rw [List.length_map]; omega⟩, (f, b + x, out ++ [b + x]), ⟨⟨⟨⟨⟨by simp only; omega, by simp only; omega⟩, by simp only; omega⟩, by simp only [List.length_append, List.length_singleton]; omega⟩, hfin⟩, by simp only; omega⟩, Ent.of ?_⟩
      simp only [sx, sb1, sb2, sb3, sb4, sb5, ↓reduceIte, Nat.reduceAdd, Nat.reduceMul, Nat.reduceDiv, Nat.reduceEqDiff, Nat.reduceLT, Nat.reduceLeDiff, reduceCtorEq, Int.reduceEq, Int.reduceNe, Int.reduceLT, Int.reduceLE, Int.reduceAdd, Int.reduceSub, Int.reduceMul, Int.reduceNeg, Int.reduceToNat, Int.cast_ofNat_Int, Int.natCast_zero, Int.natCast_one, Int.toNat_natCast, Nat.reduceBEq, List.map_append, encN]
  · have hd : s.drop b = [] := List.drop_eq_nil_of_le (by omega)
    rw [hd, ends_nil, List.map_nil, List.append_nil] at h7
    subst h7
    exact ⟨.own 600, rfl, rfl⟩
end Go.X.Cu
