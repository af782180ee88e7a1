/- Boxes: what box.Shut, box.Open, woolref.Shut, woolref.Open return. Conditions: texts no longer than 1048576. -/
import Derived.Test.YtbnbimncladflaaDoorLzL
import Derived.Test.YtbnbimncladflaaDoorLzQ
import Derived.Test.YtbnbimncladflaaDoorPkV
set_option linter.unusedSimpArgs false
set_option linter.unusedVariables false
set_option maxHeartbeats 4000000
set_option maxRecDepth 20000
namespace Go.X.Bx
open Go Go.X Go.RowKit Go.X.Lz Go.X.Pk Go.X.Pb Go.X.Gm

def par (s : List UInt8) : List Tk := parse s 256 s.length 0
def bx (s : List UInt8) : List UInt8 := bytesS (packT (par s))
def shutS (s : List UInt8) : List UInt8 := if (bx s).length < s.length then 1 :: bx s else 0 :: s
theorem par_exp {s : List UInt8} (hs : s.length ≤ 600) : exp (par s) [] = (s, 0) := by
  have := exp_parse s 256 hs (by decide) (by decide) s.length 0 (Nat.zero_le _) (by omega)
  simpa [par] using this
theorem par_ok {s : List UInt8} (hs : s.length ≤ 600) : (∀ t ∈ par s, tkB t = true) ∧ (par s).length ≤ 600 := by
  have := exp_ok (l := par s) (o := []) (by simp) (by rw [par_exp hs])
  exact ⟨this.1, by simpa using this.2⟩
theorem plainS_bits (n : Nat) : ∀ b ∈ plainS n, b = 48 ∨ b = 49 := fun b hb => by
  unfold plainS at hb
  rcases List.mem_append.1 hb with h | h
  · exact .inl (List.eq_of_mem_replicate h)
  · exact low_bits _ _ b h
theorem tokB_bits (t : Tk) : ∀ b ∈ tokB t, b = 48 ∨ b = 49 := fun b hb => by
  unfold tokB at hb
  split at hb
  · rcases List.mem_cons.1 hb with rfl | h
    · exact .inl rfl
    · exact low_bits _ _ b h
  · rcases List.mem_cons.1 hb with rfl | h
    · exact .inr rfl
    · rcases List.mem_append.1 h with h | h
      · exact plainS_bits _ b h
      · exact plainS_bits _ b h
theorem packT_bits (l : List Tk) : ((packT l).all fun b => b == 48 || b == 49) = true := by
  rw [List.all_eq_true]
  intro b hb
  obtain ⟨t, _, ht⟩ := List.mem_flatMap.1 hb
  rcases tokB_bits t b ht with rfl | rfl <;> rfl
theorem bx_len {s : List UInt8} (hs : s.length ≤ 600) : (packT (par s)).length ≤ 30000 := by
  obtain ⟨h1, h2⟩ := par_ok hs
  have := packT_len h1
  omega
theorem small (s : List UInt8) (M : Mem) (hs : s.length ≤ 600) :
    Meets Proofs.Tryd.prog 8 [.v (.string ⟨s.toArray⟩)] M fun r _ _ => r = .tup [.v (.string ⟨(bx s).toArray⟩), .v (.int .i64 0)] := by
  refine Meets.of_body [0,2,3,4,5,6,13,21] Proofs.Tryd.func8 rfl (by kernel_rfl) rfl fun w => ?_
  simp only [Proofs.Tryd.f8, shs, zts, sos, sls, zss, eqs, sx, sb1, sb2, sb3, sb4, sb5, sb6, sb7, ↓reduceIte, Nat.reduceAdd, Nat.reduceMul, Nat.reduceDiv, Nat.reduceEqDiff, Nat.reduceLT, Nat.reduceLeDiff, reduceCtorEq, Int.reduceEq, Int.reduceNe, Int.reduceLT, Int.reduceLE, Int.reduceAdd, Int.reduceSub, Int.reduceMul, Int.reduceNeg, Int.reduceToNat, Int.cast_ofNat_Int, Int.natCast_zero, Int.natCast_one, Int.toNat_natCast, Nat.reduceBEq, nzs]
  refine CallK.row (T := fun t => .tup [t, .v (.int .i64 0)]) (Ctx.fst _) rfl rfl (Meets.rows (lzparse s 256 M hs (by decide) (by decide))) fun u M1 hM1 hu => ?_
  simp only [shs, zts, sos, sls, zss, eqs, sx, sb1, sb2, sb3, sb4, sb5, sb6, sb7, ↓reduceIte, Nat.reduceAdd, Nat.reduceMul, Nat.reduceDiv, Nat.reduceEqDiff, Nat.reduceLT, Nat.reduceLeDiff, reduceCtorEq, Int.reduceEq, Int.reduceNe, Int.reduceLT, Int.reduceLE, Int.reduceAdd, Int.reduceSub, Int.reduceMul, Int.reduceNeg, Int.reduceToNat, Int.cast_ofNat_Int, Int.natCast_zero, Int.natCast_one, Int.toNat_natCast, Nat.reduceBEq, nzs]
  have hB := Pb.bits u (par s) M1 hu
  rw [par_exp hs, if_pos rfl] at hB
  refine CallK.pure ⟨rfl, rfl⟩ rfl hB ?_
  simp only [shs, zts, sos, sls, zss, eqs, sx, sb1, sb2, sb3, sb4, sb5, sb6, sb7, ↓reduceIte, Nat.reduceAdd, Nat.reduceMul, Nat.reduceDiv, Nat.reduceEqDiff, Nat.reduceLT, Nat.reduceLeDiff, reduceCtorEq, Int.reduceEq, Int.reduceNe, Int.reduceLT, Int.reduceLE, Int.reduceAdd, Int.reduceSub, Int.reduceMul, Int.reduceNeg, Int.reduceToNat, Int.cast_ofNat_Int, Int.natCast_zero, Int.natCast_one, Int.toNat_natCast, Nat.reduceBEq, nzs]
  have hY := bytesW (packT (par s)) M1 (by have := bx_len hs; omega)
  rw [packT_bits, if_pos rfl, if_pos rfl] at hY
  refine CallK.pure ⟨rfl, rfl⟩ rfl hY ?_
  simp only [shs, zts, sos, sls, zss, eqs, sx, sb1, sb2, sb3, sb4, sb5, sb6, sb7, ↓reduceIte, Nat.reduceAdd, Nat.reduceMul, Nat.reduceDiv, Nat.reduceEqDiff, Nat.reduceLT, Nat.reduceLeDiff, reduceCtorEq, Int.reduceEq, Int.reduceNe, Int.reduceLT, Int.reduceLE, Int.reduceAdd, Int.reduceSub, Int.reduceMul, Int.reduceNeg, Int.reduceToNat, Int.cast_ofNat_Int, Int.natCast_zero, Int.natCast_one, Int.toNat_natCast, Nat.reduceBEq, nzs, bx]
theorem small_large (s : List UInt8) (M : Mem) (hs : 600 < s.length) :
    Meets Proofs.Tryd.prog 8 [.v (.string ⟨s.toArray⟩)] M fun r _ _ => r = .tup [.v (.string ⟨([] : List UInt8).toArray⟩), .v (.int .i64 2)] := by
  refine Meets.of_body [0,2,3,4,5,6,13,21] Proofs.Tryd.func8 rfl (by kernel_rfl) rfl fun w => ?_
  simp only [Proofs.Tryd.f8, shs, zts, sos, sls, zss, eqs, sx, sb1, sb2, sb3, sb4, sb5, sb6, sb7, ↓reduceIte, Nat.reduceAdd, Nat.reduceMul, Nat.reduceDiv, Nat.reduceEqDiff, Nat.reduceLT, Nat.reduceLeDiff, reduceCtorEq, Int.reduceEq, Int.reduceNe, Int.reduceLT, Int.reduceLE, Int.reduceAdd, Int.reduceSub, Int.reduceMul, Int.reduceNeg, Int.reduceToNat, Int.cast_ofNat_Int, Int.natCast_zero, Int.natCast_one, Int.toNat_natCast, Nat.reduceBEq, nzs]
  refine CallK.pure ⟨rfl, rfl⟩ rfl (parse_large s 256 M hs) ?_
  simp only [shs, zts, sos, sls, zss, eqs, sx, sb1, sb2, sb3, sb4, sb5, sb6, sb7, ↓reduceIte, Nat.reduceAdd, Nat.reduceMul, Nat.reduceDiv, Nat.reduceEqDiff, Nat.reduceLT, Nat.reduceLeDiff, reduceCtorEq, Int.reduceEq, Int.reduceNe, Int.reduceLT, Int.reduceLE, Int.reduceAdd, Int.reduceSub, Int.reduceMul, Int.reduceNeg, Int.reduceToNat, Int.cast_ofNat_Int, Int.natCast_zero, Int.natCast_one, Int.toNat_natCast, Nat.reduceBEq, nzs]
theorem shut (s : List UInt8) (M : Mem) (hs : s.length ≤ 600) :
    Meets Proofs.Tryd.prog 4 [.v (.string ⟨s.toArray⟩)] M fun r _ _ => r = .tup [.v (.string ⟨(shutS s).toArray⟩), .v (.int .i64 0)] := by
  refine Meets.of_body [0,2,3,4,5,12,18] Proofs.Tryd.func4 rfl (by kernel_rfl) rfl fun w => ?_
  simp only [Proofs.Tryd.f4, shs, zts, sos, sls, zss, eqs, sx, sb1, sb2, sb3, sb4, sb5, sb6, sb7, ↓reduceIte, Nat.reduceAdd, Nat.reduceMul, Nat.reduceDiv, Nat.reduceEqDiff, Nat.reduceLT, Nat.reduceLeDiff, reduceCtorEq, Int.reduceEq, Int.reduceNe, Int.reduceLT, Int.reduceLE, Int.reduceAdd, Int.reduceSub, Int.reduceMul, Int.reduceNeg, Int.reduceToNat, Int.cast_ofNat_Int, Int.natCast_zero, Int.natCast_one, Int.toNat_natCast, Nat.reduceBEq, nzs]
  refine CallK.pure ⟨rfl, rfl⟩ rfl (small s M hs) ?_
  have hbl : (bx s).length ≤ 70368744177000 := by
    unfold bx bytesS
    rw [packB_len]
    have := bx_len hs
    have := (padS_len (packT (par s))).2.1
    omega
  unfold shutS
  by_cases h : (bx s).length < s.length
  · have c1 : (((bx s).length : Int) < (s.length : Int)) = True := eq_true (by omega)
    have c1b : ((s.length : Int) ≤ ((bx s).length : Int)) = False := eq_false (by omega)
    rw [if_pos h]
    simp only [shs, zts, sos, sls, zss, eqs, sx, sb1, sb2, sb3, sb4, sb5, sb6, sb7, ↓reduceIte, Nat.reduceAdd, Nat.reduceMul, Nat.reduceDiv, Nat.reduceEqDiff, Nat.reduceLT, Nat.reduceLeDiff, reduceCtorEq, Int.reduceEq, Int.reduceNe, Int.reduceLT, Int.reduceLE, Int.reduceAdd, Int.reduceSub, Int.reduceMul, Int.reduceNeg, Int.reduceToNat, Int.cast_ofNat_Int, Int.natCast_zero, Int.natCast_one, Int.toNat_natCast, Nat.reduceBEq, nzs, c1, c1b]
    omega
  · have c1 : (((bx s).length : Int) < (s.length : Int)) = False := eq_false (by omega)
    have c1b : ((s.length : Int) ≤ ((bx s).length : Int)) = True := eq_true (by omega)
    rw [if_neg h]
    simp only [shs, zts, sos, sls, zss, eqs, sx, sb1, sb2, sb3, sb4, sb5, sb6, sb7, ↓reduceIte, Nat.reduceAdd, Nat.reduceMul, Nat.reduceDiv, Nat.reduceEqDiff, Nat.reduceLT, Nat.reduceLeDiff, reduceCtorEq, Int.reduceEq, Int.reduceNe, Int.reduceLT, Int.reduceLE, Int.reduceAdd, Int.reduceSub, Int.reduceMul, Int.reduceNeg, Int.reduceToNat, Int.cast_ofNat_Int, Int.natCast_zero, Int.natCast_one, Int.toNat_natCast, Nat.reduceBEq, nzs, c1, c1b]
    omega
theorem shut_large (s : List UInt8) (M : Mem) (hs : 600 < s.length) :
    Meets Proofs.Tryd.prog 4 [.v (.string ⟨s.toArray⟩)] M fun r _ _ => r = .tup [.v (.string ⟨([] : List UInt8).toArray⟩), .v (.int .i64 2)] := by
  refine Meets.of_body [0,2,3,4,5,12,18] Proofs.Tryd.func4 rfl (by kernel_rfl) rfl fun w => ?_
  simp only [Proofs.Tryd.f4, shs, zts, sos, sls, zss, eqs, sx, sb1, sb2, sb3, sb4, sb5, sb6, sb7, ↓reduceIte, Nat.reduceAdd, Nat.reduceMul, Nat.reduceDiv, Nat.reduceEqDiff, Nat.reduceLT, Nat.reduceLeDiff, reduceCtorEq, Int.reduceEq, Int.reduceNe, Int.reduceLT, Int.reduceLE, Int.reduceAdd, Int.reduceSub, Int.reduceMul, Int.reduceNeg, Int.reduceToNat, Int.cast_ofNat_Int, Int.natCast_zero, Int.natCast_one, Int.toNat_natCast, Nat.reduceBEq, nzs]
  refine CallK.pure ⟨rfl, rfl⟩ rfl (small_large s M hs) ?_
  simp only [shs, zts, sos, sls, zss, eqs, sx, sb1, sb2, sb3, sb4, sb5, sb6, sb7, ↓reduceIte, Nat.reduceAdd, Nat.reduceMul, Nat.reduceDiv, Nat.reduceEqDiff, Nat.reduceLT, Nat.reduceLeDiff, reduceCtorEq, Int.reduceEq, Int.reduceNe, Int.reduceLT, Int.reduceLE, Int.reduceAdd, Int.reduceSub, Int.reduceMul, Int.reduceNeg, Int.reduceToNat, Int.cast_ofNat_Int, Int.natCast_zero, Int.natCast_one, Int.toNat_natCast, Nat.reduceBEq, nzs]
theorem rshut (s : List UInt8) (M : Mem) (hs : s.length ≤ 600) :
    Meets Proofs.Tryd.prog 5 [.v (.string ⟨s.toArray⟩)] M fun r _ _ => r = .v (.string ⟨(shutS s).toArray⟩) := by
  refine Meets.of_body [0,2,3,12] Proofs.Tryd.func5 rfl (by kernel_rfl) rfl fun w => ?_
  simp only [Proofs.Tryd.f5, shs, zts, sos, sls, zss, eqs, sx, sb1, sb2, sb3, sb4, sb5, sb6, sb7, ↓reduceIte, Nat.reduceAdd, Nat.reduceMul, Nat.reduceDiv, Nat.reduceEqDiff, Nat.reduceLT, Nat.reduceLeDiff, reduceCtorEq, Int.reduceEq, Int.reduceNe, Int.reduceLT, Int.reduceLE, Int.reduceAdd, Int.reduceSub, Int.reduceMul, Int.reduceNeg, Int.reduceToNat, Int.cast_ofNat_Int, Int.natCast_zero, Int.natCast_one, Int.toNat_natCast, Nat.reduceBEq, nzs]
  refine CallK.row (T := fun t => t) Ctx.id rfl rfl (Meets.rows (rparse s 256 M hs (by decide) (by decide))) fun u M1 hM1 hu => ?_
  simp only [shs, zts, sos, sls, zss, eqs, sx, sb1, sb2, sb3, sb4, sb5, sb6, sb7, ↓reduceIte, Nat.reduceAdd, Nat.reduceMul, Nat.reduceDiv, Nat.reduceEqDiff, Nat.reduceLT, Nat.reduceLeDiff, reduceCtorEq, Int.reduceEq, Int.reduceNe, Int.reduceLT, Int.reduceLE, Int.reduceAdd, Int.reduceSub, Int.reduceMul, Int.reduceNeg, Int.reduceToNat, Int.cast_ofNat_Int, Int.natCast_zero, Int.natCast_one, Int.toNat_natCast, Nat.reduceBEq, nzs]
  obtain ⟨p1, p2⟩ := par_ok hs
  refine CallK.pure ⟨rfl, rfl⟩ rfl (rpack u (par s) M1 hu p1 p2) ?_
  simp only [shs, zts, sos, sls, zss, eqs, sx, sb1, sb2, sb3, sb4, sb5, sb6, sb7, ↓reduceIte, Nat.reduceAdd, Nat.reduceMul, Nat.reduceDiv, Nat.reduceEqDiff, Nat.reduceLT, Nat.reduceLeDiff, reduceCtorEq, Int.reduceEq, Int.reduceNe, Int.reduceLT, Int.reduceLE, Int.reduceAdd, Int.reduceSub, Int.reduceMul, Int.reduceNeg, Int.reduceToNat, Int.cast_ofNat_Int, Int.natCast_zero, Int.natCast_one, Int.toNat_natCast, Nat.reduceBEq, nzs]
  have hbl : (bx s).length ≤ 70368744177000 := by
    unfold bx bytesS
    rw [packB_len]
    have := bx_len hs
    have := (padS_len (packT (par s))).2.1
    omega
  refine CallK.pure ⟨rfl, rfl⟩ rfl (rbytesW (packT (par s)) M1 (by have := bx_len hs; omega) (packT_bits _)) ?_
  have hb : bytesS (packT (par s)) = bx s := rfl
  rw [hb]
  unfold shutS
  by_cases h : (bx s).length < s.length
  · have c1 : (((bx s).length : Int) < (s.length : Int)) = True := eq_true (by omega)
    have c1b : ((s.length : Int) ≤ ((bx s).length : Int)) = False := eq_false (by omega)
    rw [if_pos h]
    simp only [shs, zts, sos, sls, zss, eqs, sx, sb1, sb2, sb3, sb4, sb5, sb6, sb7, ↓reduceIte, Nat.reduceAdd, Nat.reduceMul, Nat.reduceDiv, Nat.reduceEqDiff, Nat.reduceLT, Nat.reduceLeDiff, reduceCtorEq, Int.reduceEq, Int.reduceNe, Int.reduceLT, Int.reduceLE, Int.reduceAdd, Int.reduceSub, Int.reduceMul, Int.reduceNeg, Int.reduceToNat, Int.cast_ofNat_Int, Int.natCast_zero, Int.natCast_one, Int.toNat_natCast, Nat.reduceBEq, nzs, c1, c1b]
    omega
  · have c1 : (((bx s).length : Int) < (s.length : Int)) = False := eq_false (by omega)
    have c1b : ((s.length : Int) ≤ ((bx s).length : Int)) = True := eq_true (by omega)
    rw [if_neg h]
    simp only [shs, zts, sos, sls, zss, eqs, sx, sb1, sb2, sb3, sb4, sb5, sb6, sb7, ↓reduceIte, Nat.reduceAdd, Nat.reduceMul, Nat.reduceDiv, Nat.reduceEqDiff, Nat.reduceLT, Nat.reduceLeDiff, reduceCtorEq, Int.reduceEq, Int.reduceNe, Int.reduceLT, Int.reduceLE, Int.reduceAdd, Int.reduceSub, Int.reduceMul, Int.reduceNeg, Int.reduceToNat, Int.cast_ofNat_Int, Int.natCast_zero, Int.natCast_one, Int.toNat_natCast, Nat.reduceBEq, nzs, c1, c1b]
    omega
/-- what may be meant by what stands behind the first byte -/
def unb (r : List UInt8) : List UInt8 := if unbE r = true then [] else (rtr (bitsOf r)).dropLast
theorem unb_len (r : List UInt8) : (unb r).length ≤ 8 * r.length := by
  unfold unb
  split
  · simp
  · have h1 := rtr_le (bitsOf r)
    rw [bitsOf_len] at h1
    rw [List.length_dropLast]
    omega
def chn (r : List UInt8) : List UInt8 := (exp (toks (unb r)).1 []).1
def chE (r : List UInt8) : Bool := !unbE r && (decide ((toks (unb r)).2 = 0) && decide ((exp (toks (unb r)).1 []).2 = 0))
def opS (b : List UInt8) : List UInt8 × Bool := match b with
  | [] => ([], false)
  | c :: r => if 1 < c.toNat then ([], false) else if c.toNat = 0 then (r, true) else if chE r = true then (chn r, true) else ([], false)
theorem exp_fail : ∀ (l : List Tk) (o : List UInt8), (exp l o).2 ≠ 0 → (exp l o).1 = []
  | [], o, h => absurd rfl h
  | t :: l, o, h => by
    rw [exp] at h ⊢
    split
    · rfl
    · rename_i h1
      rw [if_neg h1] at h
      split
      · rfl
      · rename_i h2
        rw [if_neg h2] at h
        split
        · rfl
        · rename_i h3
          rw [if_neg h3] at h
          exact exp_fail l _ h
theorem op (b : List UInt8) (M : Mem) (hb : b.length ≤ 1048576) :
    Meets Proofs.Tryd.prog 12 [.v (.string ⟨b.toArray⟩)] M fun r _ _ => r = .tup [.v (.string ⟨(opS b).1.toArray⟩), .v (.bool (opS b).2)] := by
  refine Meets.of_body [0,2,3,4,5,6,7,14,17,27,34] Proofs.Tryd.func12 rfl (by kernel_rfl) rfl fun w => ?_
  generalize hc : opS b = q
  cases b with
  | nil =>
    simp only [opS] at hc
    subst hc
    simp only [Proofs.Tryd.f12, shs, zts, sos, sls, zss, eqs, sx, sb1, sb2, sb3, sb4, sb5, sb6, sb7, ↓reduceIte, Nat.reduceAdd, Nat.reduceMul, Nat.reduceDiv, Nat.reduceEqDiff, Nat.reduceLT, Nat.reduceLeDiff, reduceCtorEq, Int.reduceEq, Int.reduceNe, Int.reduceLT, Int.reduceLE, Int.reduceAdd, Int.reduceSub, Int.reduceMul, Int.reduceNeg, Int.reduceToNat, Int.cast_ofNat_Int, Int.natCast_zero, Int.natCast_one, Int.toNat_natCast, Nat.reduceBEq, nzs]
  | cons c r =>
    have hix : strIx (c :: r) 0 = (c.toNat : Int) := Lm.strIx_at (c :: r) 0 0 rfl
    have htk : List.take (r.length + 1 - 1) r = r := List.take_of_length_le (by omega)
    rw [List.length_cons] at hb
    simp only [opS] at hc
    simp only [Proofs.Tryd.f12, shs, zts, sos, sls, zss, eqs, sx, sb1, sb2, sb3, sb4, sb5, sb6, sb7, ↓reduceIte, Nat.reduceAdd, Nat.reduceMul, Nat.reduceDiv, Nat.reduceEqDiff, Nat.reduceLT, Nat.reduceLeDiff, reduceCtorEq, Int.reduceEq, Int.reduceNe, Int.reduceLT, Int.reduceLE, Int.reduceAdd, Int.reduceSub, Int.reduceMul, Int.reduceNeg, Int.reduceToNat, Int.cast_ofNat_Int, Int.natCast_zero, Int.natCast_one, Int.toNat_natCast, Nat.reduceBEq, nzs, hix, htk]
    refine ⟨by omega, fun h1 => ?_, fun h1 => ⟨by omega, fun h2 => ?_, fun h2 => ?_⟩⟩
    · rw [if_pos (by omega)] at hc
      subst hc
      rfl
    · rw [if_neg (by omega), if_pos (by omega)] at hc
      subst hc
      exact ⟨⟨by omega, by omega⟩, rfl⟩
    rw [if_neg (by omega), if_neg (by omega)] at hc
    refine ⟨⟨by omega, by omega⟩, ?_⟩
    refine CallK.pure ⟨rfl, rfl⟩ rfl (unbytesW r M (by omega)) ?_
    rw [show (if unbE r = true then [] else (rtr (bitsOf r)).dropLast) = unb r from rfl]
    have hul := unb_len r
    unfold chE chn at hc
    cases hu : unbE r with
    | true =>
      rw [hu] at hc
      simp only [Bool.not_true, Bool.false_and, Bool.false_eq_true, if_false] at hc
      subst hc
      simp only [shs, zts, sos, sls, zss, eqs, sx, sb1, sb2, sb3, sb4, sb5, sb6, sb7, ↓reduceIte, Nat.reduceAdd, Nat.reduceMul, Nat.reduceDiv, Nat.reduceEqDiff, Nat.reduceLT, Nat.reduceLeDiff, reduceCtorEq, Int.reduceEq, Int.reduceNe, Int.reduceLT, Int.reduceLE, Int.reduceAdd, Int.reduceSub, Int.reduceMul, Int.reduceNeg, Int.reduceToNat, Int.cast_ofNat_Int, Int.natCast_zero, Int.natCast_one, Int.toNat_natCast, Nat.reduceBEq, nzs]
    | false =>
      rw [hu] at hc
      simp only [shs, zts, sos, sls, zss, eqs, sx, sb1, sb2, sb3, sb4, sb5, sb6, sb7, ↓reduceIte, Nat.reduceAdd, Nat.reduceMul, Nat.reduceDiv, Nat.reduceEqDiff, Nat.reduceLT, Nat.reduceLeDiff, reduceCtorEq, Int.reduceEq, Int.reduceNe, Int.reduceLT, Int.reduceLE, Int.reduceAdd, Int.reduceSub, Int.reduceMul, Int.reduceNeg, Int.reduceToNat, Int.cast_ofNat_Int, Int.natCast_zero, Int.natCast_one, Int.toNat_natCast, Nat.reduceBEq, nzs]
      refine CallK.row (T := tokT (toks (unb r)).2) (Ctx.fst _) rfl rfl (Meets.rows (tokens (unb r) M (by omega))) fun u M1 hM1 hu1 => ?_
      simp only [shs, zts, sos, sls, zss, eqs, sx, sb1, sb2, sb3, sb4, sb5, sb6, sb7, ↓reduceIte, Nat.reduceAdd, Nat.reduceMul, Nat.reduceDiv, Nat.reduceEqDiff, Nat.reduceLT, Nat.reduceLeDiff, reduceCtorEq, Int.reduceEq, Int.reduceNe, Int.reduceLT, Int.reduceLE, Int.reduceAdd, Int.reduceSub, Int.reduceMul, Int.reduceNeg, Int.reduceToNat, Int.cast_ofNat_Int, Int.natCast_zero, Int.natCast_one, Int.toNat_natCast, Nat.reduceBEq, nzs, tokT]
      by_cases h3 : (toks (unb r)).2 = 0
      rotate_left
      · have c3 := eq_false h3
        rw [decide_eq_false h3] at hc
        simp only [Bool.not_false, Bool.false_and, Bool.and_false, Bool.false_eq_true, if_false] at hc
        subst hc
        simp only [shs, zts, sos, sls, zss, eqs, sx, sb1, sb2, sb3, sb4, sb5, sb6, sb7, ↓reduceIte, Nat.reduceAdd, Nat.reduceMul, Nat.reduceDiv, Nat.reduceEqDiff, Nat.reduceLT, Nat.reduceLeDiff, reduceCtorEq, Int.reduceEq, Int.reduceNe, Int.reduceLT, Int.reduceLE, Int.reduceAdd, Int.reduceSub, Int.reduceMul, Int.reduceNeg, Int.reduceToNat, Int.cast_ofNat_Int, Int.natCast_zero, Int.natCast_one, Int.toNat_natCast, Nat.reduceBEq, nzs, c3]
      rw [decide_eq_true h3] at hc
      simp only [shs, zts, sos, sls, zss, eqs, sx, sb1, sb2, sb3, sb4, sb5, sb6, sb7, ↓reduceIte, Nat.reduceAdd, Nat.reduceMul, Nat.reduceDiv, Nat.reduceEqDiff, Nat.reduceLT, Nat.reduceLeDiff, reduceCtorEq, Int.reduceEq, Int.reduceNe, Int.reduceLT, Int.reduceLE, Int.reduceAdd, Int.reduceSub, Int.reduceMul, Int.reduceNeg, Int.reduceToNat, Int.cast_ofNat_Int, Int.natCast_zero, Int.natCast_one, Int.toNat_natCast, Nat.reduceBEq, nzs, h3]
      refine CallK.pure ⟨rfl, rfl⟩ rfl (expand u (toks (unb r)).1 M1 hu1) ?_
      by_cases h4 : (exp (toks (unb r)).1 []).2 = 0
      · rw [decide_eq_true h4] at hc
        simp only [Bool.not_false, Bool.true_and, Bool.and_true, if_true] at hc
        subst hc
        simp only [shs, zts, sos, sls, zss, eqs, sx, sb1, sb2, sb3, sb4, sb5, sb6, sb7, ↓reduceIte, Nat.reduceAdd, Nat.reduceMul, Nat.reduceDiv, Nat.reduceEqDiff, Nat.reduceLT, Nat.reduceLeDiff, reduceCtorEq, Int.reduceEq, Int.reduceNe, Int.reduceLT, Int.reduceLE, Int.reduceAdd, Int.reduceSub, Int.reduceMul, Int.reduceNeg, Int.reduceToNat, Int.cast_ofNat_Int, Int.natCast_zero, Int.natCast_one, Int.toNat_natCast, Nat.reduceBEq, nzs, h4]
      · have c4 := eq_false h4
        rw [decide_eq_false h4] at hc
        simp only [Bool.not_false, Bool.true_and, Bool.and_false, Bool.false_eq_true, if_false] at hc
        subst hc
        rw [exp_fail _ _ h4]
        simp only [shs, zts, sos, sls, zss, eqs, sx, sb1, sb2, sb3, sb4, sb5, sb6, sb7, ↓reduceIte, Nat.reduceAdd, Nat.reduceMul, Nat.reduceDiv, Nat.reduceEqDiff, Nat.reduceLT, Nat.reduceLeDiff, reduceCtorEq, Int.reduceEq, Int.reduceNe, Int.reduceLT, Int.reduceLE, Int.reduceAdd, Int.reduceSub, Int.reduceMul, Int.reduceNeg, Int.reduceToNat, Int.cast_ofNat_Int, Int.natCast_zero, Int.natCast_one, Int.toNat_natCast, Nat.reduceBEq, nzs, c4]
/-- what box.Open answers -/
def opnS (b : List UInt8) : List UInt8 × Int := if (opS b).2 = true ∧ (opS b).1.length ≤ 600 ∧ shutS (opS b).1 = b then ((opS b).1, 0) else ([], 3)
theorem openB (b : List UInt8) (M : Mem) (hb : b.length ≤ 1048576) :
    Meets Proofs.Tryd.prog 6 [.v (.string ⟨b.toArray⟩)] M fun r _ _ => r = .tup [.v (.string ⟨(opnS b).1.toArray⟩), .v (.int .i64 (opnS b).2)] := by
  refine Meets.of_body [0,2,3,4,5,6,7,14,26] Proofs.Tryd.func6 rfl (by kernel_rfl) rfl fun w => ?_
  generalize hc : opnS b = q
  unfold opnS at hc
  simp only [Proofs.Tryd.f6, shs, zts, sos, sls, zss, eqs, sx, sb1, sb2, sb3, sb4, sb5, sb6, sb7, ↓reduceIte, Nat.reduceAdd, Nat.reduceMul, Nat.reduceDiv, Nat.reduceEqDiff, Nat.reduceLT, Nat.reduceLeDiff, reduceCtorEq, Int.reduceEq, Int.reduceNe, Int.reduceLT, Int.reduceLE, Int.reduceAdd, Int.reduceSub, Int.reduceMul, Int.reduceNeg, Int.reduceToNat, Int.cast_ofNat_Int, Int.natCast_zero, Int.natCast_one, Int.toNat_natCast, Nat.reduceBEq, nzs]
  refine CallK.pure ⟨rfl, rfl⟩ rfl (op b M hb) ?_
  obtain ⟨⟨s, ok⟩, hs⟩ : ∃ q, opS b = q := ⟨_, rfl⟩
  rw [hs] at hc ⊢
  simp only at hc ⊢
  cases ok with
  | false =>
    rw [if_neg (by simp)] at hc
    subst hc
    simp only [shs, zts, sos, sls, zss, eqs, sx, sb1, sb2, sb3, sb4, sb5, sb6, sb7, ↓reduceIte, Nat.reduceAdd, Nat.reduceMul, Nat.reduceDiv, Nat.reduceEqDiff, Nat.reduceLT, Nat.reduceLeDiff, reduceCtorEq, Int.reduceEq, Int.reduceNe, Int.reduceLT, Int.reduceLE, Int.reduceAdd, Int.reduceSub, Int.reduceMul, Int.reduceNeg, Int.reduceToNat, Int.cast_ofNat_Int, Int.natCast_zero, Int.natCast_one, Int.toNat_natCast, Nat.reduceBEq, nzs]
  | true =>
    simp only [shs, zts, sos, sls, zss, eqs, sx, sb1, sb2, sb3, sb4, sb5, sb6, sb7, ↓reduceIte, Nat.reduceAdd, Nat.reduceMul, Nat.reduceDiv, Nat.reduceEqDiff, Nat.reduceLT, Nat.reduceLeDiff, reduceCtorEq, Int.reduceEq, Int.reduceNe, Int.reduceLT, Int.reduceLE, Int.reduceAdd, Int.reduceSub, Int.reduceMul, Int.reduceNeg, Int.reduceToNat, Int.cast_ofNat_Int, Int.natCast_zero, Int.natCast_one, Int.toNat_natCast, Nat.reduceBEq, nzs]
    by_cases h1 : 600 < s.length
    · rw [if_neg (fun h => absurd h.2.1 (by omega))] at hc
      subst hc
      refine CallK.pure ⟨rfl, rfl⟩ rfl (shut_large s M h1) ?_
      simp only [shs, zts, sos, sls, zss, eqs, sx, sb1, sb2, sb3, sb4, sb5, sb6, sb7, ↓reduceIte, Nat.reduceAdd, Nat.reduceMul, Nat.reduceDiv, Nat.reduceEqDiff, Nat.reduceLT, Nat.reduceLeDiff, reduceCtorEq, Int.reduceEq, Int.reduceNe, Int.reduceLT, Int.reduceLE, Int.reduceAdd, Int.reduceSub, Int.reduceMul, Int.reduceNeg, Int.reduceToNat, Int.cast_ofNat_Int, Int.natCast_zero, Int.natCast_one, Int.toNat_natCast, Nat.reduceBEq, nzs]
    · refine CallK.pure ⟨rfl, rfl⟩ rfl (shut s M (by omega)) ?_
      by_cases h2 : shutS s = b
      · rw [if_pos ⟨rfl, by omega, h2⟩] at hc
        subst hc
        rw [h2]
        simp only [shs, zts, sos, sls, zss, eqs, sx, sb1, sb2, sb3, sb4, sb5, sb6, sb7, ↓reduceIte, Nat.reduceAdd, Nat.reduceMul, Nat.reduceDiv, Nat.reduceEqDiff, Nat.reduceLT, Nat.reduceLeDiff, reduceCtorEq, Int.reduceEq, Int.reduceNe, Int.reduceLT, Int.reduceLE, Int.reduceAdd, Int.reduceSub, Int.reduceMul, Int.reduceNeg, Int.reduceToNat, Int.cast_ofNat_Int, Int.natCast_zero, Int.natCast_one, Int.toNat_natCast, Nat.reduceBEq, nzs]
      · have c2 := eq_false h2
        rw [if_neg (fun h => h2 h.2.2)] at hc
        subst hc
        simp only [shs, zts, sos, sls, zss, eqs, sx, sb1, sb2, sb3, sb4, sb5, sb6, sb7, ↓reduceIte, Nat.reduceAdd, Nat.reduceMul, Nat.reduceDiv, Nat.reduceEqDiff, Nat.reduceLT, Nat.reduceLeDiff, reduceCtorEq, Int.reduceEq, Int.reduceNe, Int.reduceLT, Int.reduceLE, Int.reduceAdd, Int.reduceSub, Int.reduceMul, Int.reduceNeg, Int.reduceToNat, Int.cast_ofNat_Int, Int.natCast_zero, Int.natCast_one, Int.toNat_natCast, Nat.reduceBEq, nzs, c2]
/-- what woolref.Open may mean -/
def ropS (b : List UInt8) : List UInt8 := match b with
  | [] => []
  | c :: r => if c.toNat = 1 then chn r else r
theorem ropenB (b : List UInt8) (M : Mem) (hb : b.length ≤ 1048576) :
    Meets Proofs.Tryd.prog 7 [.v (.string ⟨b.toArray⟩)] M fun r _ _ => r = .tup [.v (.string ⟨(if (ropS b).length ≤ 600 ∧ shutS (ropS b) = b then ropS b else []).toArray⟩), .v (.int .i64 (if (ropS b).length ≤ 600 ∧ shutS (ropS b) = b then 0 else 3))] := by
  refine Meets.of_body [0,2,3,4,5,7,10,19,43] Proofs.Tryd.func7 rfl (by kernel_rfl) rfl fun w => ?_
  cases b with
  | nil =>
    simp only [Proofs.Tryd.f7, shs, zts, sos, sls, zss, eqs, sx, sb1, sb2, sb3, sb4, sb5, sb6, sb7, ↓reduceIte, Nat.reduceAdd, Nat.reduceMul, Nat.reduceDiv, Nat.reduceEqDiff, Nat.reduceLT, Nat.reduceLeDiff, reduceCtorEq, Int.reduceEq, Int.reduceNe, Int.reduceLT, Int.reduceLE, Int.reduceAdd, Int.reduceSub, Int.reduceMul, Int.reduceNeg, Int.reduceToNat, Int.cast_ofNat_Int, Int.natCast_zero, Int.natCast_one, Int.toNat_natCast, Nat.reduceBEq, nzs, ropS]
    refine CallK.pure ⟨rfl, rfl⟩ rfl (rshut [] M (by decide)) ?_
    have g2 : ¬ shutS [] = [] := by unfold shutS; split <;> simp
    have d2 := eq_false g2
    simp only [shs, zts, sos, sls, zss, eqs, sx, sb1, sb2, sb3, sb4, sb5, sb6, sb7, ↓reduceIte, Nat.reduceAdd, Nat.reduceMul, Nat.reduceDiv, Nat.reduceEqDiff, Nat.reduceLT, Nat.reduceLeDiff, reduceCtorEq, Int.reduceEq, Int.reduceNe, Int.reduceLT, Int.reduceLE, Int.reduceAdd, Int.reduceSub, Int.reduceMul, Int.reduceNeg, Int.reduceToNat, Int.cast_ofNat_Int, Int.natCast_zero, Int.natCast_one, Int.toNat_natCast, Nat.reduceBEq, nzs, d2]
  | cons c r =>
    have hix : strIx (c :: r) 0 = (c.toNat : Int) := Lm.strIx_at (c :: r) 0 0 rfl
    have htk : List.take (r.length + 1 - 1) r = r := List.take_of_length_le (by omega)
    rw [List.length_cons] at hb
    by_cases h1 : c.toNat = 1
    · have hr : ropS (c :: r) = chn r := if_pos h1
      have e1 : ((c.toNat : Int) = 1) = True := eq_true (by omega)
      have hcl : (exp (toks (unb r)).1 []).1 = chn r := rfl
      rw [hr]
      simp only [Proofs.Tryd.f7, shs, zts, sos, sls, zss, eqs, sx, sb1, sb2, sb3, sb4, sb5, sb6, sb7, ↓reduceIte, Nat.reduceAdd, Nat.reduceMul, Nat.reduceDiv, Nat.reduceEqDiff, Nat.reduceLT, Nat.reduceLeDiff, reduceCtorEq, Int.reduceEq, Int.reduceNe, Int.reduceLT, Int.reduceLE, Int.reduceAdd, Int.reduceSub, Int.reduceMul, Int.reduceNeg, Int.reduceToNat, Int.cast_ofNat_Int, Int.natCast_zero, Int.natCast_one, Int.toNat_natCast, Nat.reduceBEq, nzs, hix, htk, e1]
      refine ⟨⟨by omega, by omega⟩, by omega, ?_⟩
      refine CallK.pure ⟨rfl, rfl⟩ rfl (runbytesW r M (by omega)) ?_
      rw [show (if unbE r = true then [] else (rtr (bitsOf r)).dropLast) = unb r from rfl]
      have hul := unb_len r
      simp only [shs, zts, sos, sls, zss, eqs, sx, sb1, sb2, sb3, sb4, sb5, sb6, sb7, ↓reduceIte, Nat.reduceAdd, Nat.reduceMul, Nat.reduceDiv, Nat.reduceEqDiff, Nat.reduceLT, Nat.reduceLeDiff, reduceCtorEq, Int.reduceEq, Int.reduceNe, Int.reduceLT, Int.reduceLE, Int.reduceAdd, Int.reduceSub, Int.reduceMul, Int.reduceNeg, Int.reduceToNat, Int.cast_ofNat_Int, Int.natCast_zero, Int.natCast_one, Int.toNat_natCast, Nat.reduceBEq, nzs]
      refine CallK.row (T := tokT (toks (unb r)).2) (Ctx.fst _) rfl rfl (Meets.rows (rtokens (unb r) M (by omega))) fun u M1 hM1 hu1 => ?_
      simp only [shs, zts, sos, sls, zss, eqs, sx, sb1, sb2, sb3, sb4, sb5, sb6, sb7, ↓reduceIte, Nat.reduceAdd, Nat.reduceMul, Nat.reduceDiv, Nat.reduceEqDiff, Nat.reduceLT, Nat.reduceLeDiff, reduceCtorEq, Int.reduceEq, Int.reduceNe, Int.reduceLT, Int.reduceLE, Int.reduceAdd, Int.reduceSub, Int.reduceMul, Int.reduceNeg, Int.reduceToNat, Int.cast_ofNat_Int, Int.natCast_zero, Int.natCast_one, Int.toNat_natCast, Nat.reduceBEq, nzs, tokT]
      refine CallK.pure ⟨rfl, rfl⟩ rfl (rexpand u (toks (unb r)).1 M1 hu1) ?_
      rw [hcl]
      simp only [shs, zts, sos, sls, zss, eqs, sx, sb1, sb2, sb3, sb4, sb5, sb6, sb7, ↓reduceIte, Nat.reduceAdd, Nat.reduceMul, Nat.reduceDiv, Nat.reduceEqDiff, Nat.reduceLT, Nat.reduceLeDiff, reduceCtorEq, Int.reduceEq, Int.reduceNe, Int.reduceLT, Int.reduceLE, Int.reduceAdd, Int.reduceSub, Int.reduceMul, Int.reduceNeg, Int.reduceToNat, Int.cast_ofNat_Int, Int.natCast_zero, Int.natCast_one, Int.toNat_natCast, Nat.reduceBEq, nzs]
      by_cases g1 : 600 < (chn r).length
      · have d1 : ((600 : Int) < ((chn r).length : Int)) = True := eq_true (by omega)
        have d1b : (((chn r).length : Int) ≤ 600) = False := eq_false (by omega)
        rw [if_neg (fun h => absurd h.1 (by omega)), if_neg (fun h => absurd h.1 (by omega))]
        simp only [shs, zts, sos, sls, zss, eqs, sx, sb1, sb2, sb3, sb4, sb5, sb6, sb7, ↓reduceIte, Nat.reduceAdd, Nat.reduceMul, Nat.reduceDiv, Nat.reduceEqDiff, Nat.reduceLT, Nat.reduceLeDiff, reduceCtorEq, Int.reduceEq, Int.reduceNe, Int.reduceLT, Int.reduceLE, Int.reduceAdd, Int.reduceSub, Int.reduceMul, Int.reduceNeg, Int.reduceToNat, Int.cast_ofNat_Int, Int.natCast_zero, Int.natCast_one, Int.toNat_natCast, Nat.reduceBEq, nzs, d1, d1b]
      · have d1 : ((600 : Int) < ((chn r).length : Int)) = False := eq_false (by omega)
        have d1b : (((chn r).length : Int) ≤ 600) = True := eq_true (by omega)
        simp only [shs, zts, sos, sls, zss, eqs, sx, sb1, sb2, sb3, sb4, sb5, sb6, sb7, ↓reduceIte, Nat.reduceAdd, Nat.reduceMul, Nat.reduceDiv, Nat.reduceEqDiff, Nat.reduceLT, Nat.reduceLeDiff, reduceCtorEq, Int.reduceEq, Int.reduceNe, Int.reduceLT, Int.reduceLE, Int.reduceAdd, Int.reduceSub, Int.reduceMul, Int.reduceNeg, Int.reduceToNat, Int.cast_ofNat_Int, Int.natCast_zero, Int.natCast_one, Int.toNat_natCast, Nat.reduceBEq, nzs, d1, d1b]
        refine CallK.pure ⟨rfl, rfl⟩ rfl (rshut (chn r) M1 (by omega)) ?_
        by_cases g2 : shutS (chn r) = c :: r
        · rw [if_pos ⟨by omega, g2⟩, if_pos ⟨by omega, g2⟩, g2]
          simp only [shs, zts, sos, sls, zss, eqs, sx, sb1, sb2, sb3, sb4, sb5, sb6, sb7, ↓reduceIte, Nat.reduceAdd, Nat.reduceMul, Nat.reduceDiv, Nat.reduceEqDiff, Nat.reduceLT, Nat.reduceLeDiff, reduceCtorEq, Int.reduceEq, Int.reduceNe, Int.reduceLT, Int.reduceLE, Int.reduceAdd, Int.reduceSub, Int.reduceMul, Int.reduceNeg, Int.reduceToNat, Int.cast_ofNat_Int, Int.natCast_zero, Int.natCast_one, Int.toNat_natCast, Nat.reduceBEq, nzs]
        · have d2 := eq_false g2
          rw [if_neg (fun h => g2 h.2), if_neg (fun h => g2 h.2)]
          simp only [shs, zts, sos, sls, zss, eqs, sx, sb1, sb2, sb3, sb4, sb5, sb6, sb7, ↓reduceIte, Nat.reduceAdd, Nat.reduceMul, Nat.reduceDiv, Nat.reduceEqDiff, Nat.reduceLT, Nat.reduceLeDiff, reduceCtorEq, Int.reduceEq, Int.reduceNe, Int.reduceLT, Int.reduceLE, Int.reduceAdd, Int.reduceSub, Int.reduceMul, Int.reduceNeg, Int.reduceToNat, Int.cast_ofNat_Int, Int.natCast_zero, Int.natCast_one, Int.toNat_natCast, Nat.reduceBEq, nzs, d2]
    · have hr : ropS (c :: r) = r := if_neg h1
      have e1 : ((c.toNat : Int) = 1) = False := eq_false (by omega)
      rw [hr]
      simp only [Proofs.Tryd.f7, shs, zts, sos, sls, zss, eqs, sx, sb1, sb2, sb3, sb4, sb5, sb6, sb7, ↓reduceIte, Nat.reduceAdd, Nat.reduceMul, Nat.reduceDiv, Nat.reduceEqDiff, Nat.reduceLT, Nat.reduceLeDiff, reduceCtorEq, Int.reduceEq, Int.reduceNe, Int.reduceLT, Int.reduceLE, Int.reduceAdd, Int.reduceSub, Int.reduceMul, Int.reduceNeg, Int.reduceToNat, Int.cast_ofNat_Int, Int.natCast_zero, Int.natCast_one, Int.toNat_natCast, Nat.reduceBEq, nzs, hix, htk, e1]
      refine ⟨⟨by omega, by omega⟩, by omega, ?_⟩
      by_cases g1 : 600 < (r).length
      · have d1 : ((600 : Int) < ((r).length : Int)) = True := eq_true (by omega)
        have d1b : (((r).length : Int) ≤ 600) = False := eq_false (by omega)
        rw [if_neg (fun h => absurd h.1 (by omega)), if_neg (fun h => absurd h.1 (by omega))]
        simp only [shs, zts, sos, sls, zss, eqs, sx, sb1, sb2, sb3, sb4, sb5, sb6, sb7, ↓reduceIte, Nat.reduceAdd, Nat.reduceMul, Nat.reduceDiv, Nat.reduceEqDiff, Nat.reduceLT, Nat.reduceLeDiff, reduceCtorEq, Int.reduceEq, Int.reduceNe, Int.reduceLT, Int.reduceLE, Int.reduceAdd, Int.reduceSub, Int.reduceMul, Int.reduceNeg, Int.reduceToNat, Int.cast_ofNat_Int, Int.natCast_zero, Int.natCast_one, Int.toNat_natCast, Nat.reduceBEq, nzs, d1, d1b]
      · have d1 : ((600 : Int) < ((r).length : Int)) = False := eq_false (by omega)
        have d1b : (((r).length : Int) ≤ 600) = True := eq_true (by omega)
        simp only [shs, zts, sos, sls, zss, eqs, sx, sb1, sb2, sb3, sb4, sb5, sb6, sb7, ↓reduceIte, Nat.reduceAdd, Nat.reduceMul, Nat.reduceDiv, Nat.reduceEqDiff, Nat.reduceLT, Nat.reduceLeDiff, reduceCtorEq, Int.reduceEq, Int.reduceNe, Int.reduceLT, Int.reduceLE, Int.reduceAdd, Int.reduceSub, Int.reduceMul, Int.reduceNeg, Int.reduceToNat, Int.cast_ofNat_Int, Int.natCast_zero, Int.natCast_one, Int.toNat_natCast, Nat.reduceBEq, nzs, d1, d1b]
        refine CallK.pure ⟨rfl, rfl⟩ rfl (rshut (r) M (by omega)) ?_
        by_cases g2 : shutS (r) = c :: r
        · rw [if_pos ⟨by omega, g2⟩, if_pos ⟨by omega, g2⟩, g2]
          simp only [shs, zts, sos, sls, zss, eqs, sx, sb1, sb2, sb3, sb4, sb5, sb6, sb7, ↓reduceIte, Nat.reduceAdd, Nat.reduceMul, Nat.reduceDiv, Nat.reduceEqDiff, Nat.reduceLT, Nat.reduceLeDiff, reduceCtorEq, Int.reduceEq, Int.reduceNe, Int.reduceLT, Int.reduceLE, Int.reduceAdd, Int.reduceSub, Int.reduceMul, Int.reduceNeg, Int.reduceToNat, Int.cast_ofNat_Int, Int.natCast_zero, Int.natCast_one, Int.toNat_natCast, Nat.reduceBEq, nzs]
        · have d2 := eq_false g2
          rw [if_neg (fun h => g2 h.2), if_neg (fun h => g2 h.2)]
          simp only [shs, zts, sos, sls, zss, eqs, sx, sb1, sb2, sb3, sb4, sb5, sb6, sb7, ↓reduceIte, Nat.reduceAdd, Nat.reduceMul, Nat.reduceDiv, Nat.reduceEqDiff, Nat.reduceLT, Nat.reduceLeDiff, reduceCtorEq, Int.reduceEq, Int.reduceNe, Int.reduceLT, Int.reduceLE, Int.reduceAdd, Int.reduceSub, Int.reduceMul, Int.reduceNeg, Int.reduceToNat, Int.cast_ofNat_Int, Int.natCast_zero, Int.natCast_one, Int.toNat_natCast, Nat.reduceBEq, nzs, d2]
theorem shut_head (s : List UInt8) : (∃ t, shutS s = 1 :: t) ∨ ∃ t, shutS s = 0 :: t := by
  unfold shutS
  split
  · exact .inl ⟨_, rfl⟩
  · exact .inr ⟨_, rfl⟩
theorem shut_nil : shutS [] = [0] := by
  unfold shutS
  rw [if_neg (by simp)]
theorem toks_fail {s : List UInt8} (h : (toks s).2 ≠ 0) : (toks s).1 = [] := by
  unfold toks at h ⊢
  split
  · rfl
  · rename_i h1
    rw [if_neg h1] at h
    split
    · rfl
    · rename_i h2
      rw [if_neg h2] at h
      split
      · rfl
      · rename_i h3
        rw [if_neg h3] at h
        exact absurd rfl h
theorem opn_eq (b : List UInt8) : opnS b = ((if (ropS b).length ≤ 600 ∧ shutS (ropS b) = b then ropS b else []), (if (ropS b).length ≤ 600 ∧ shutS (ropS b) = b then 0 else 3)) := by
  unfold opnS
  have two : ∀ (p : Prop) [Decidable p] (s : List UInt8), (if p then (s, (0 : Int)) else ([], 3)) = ((if p then s else []), (if p then 0 else 3)) := fun p _ s => by split <;> rfl
  cases b with
  | nil =>
    rw [if_neg (by simp [opS]), if_neg (fun h => by have := h.2; rw [show ropS [] = [] from rfl, shut_nil] at this; cases this), if_neg (fun h => by have := h.2; rw [show ropS [] = [] from rfl, shut_nil] at this; cases this)]
  | cons c r =>
    by_cases h1 : 1 < c.toNat
    · have e1 : opS (c :: r) = ([], false) := if_pos h1
      have e2 : ¬ shutS (ropS (c :: r)) = c :: r := fun h => by
        rcases shut_head (ropS (c :: r)) with ⟨t, ht⟩ | ⟨t, ht⟩
        · rw [h] at ht
          cases ht
          exact absurd h1 (by decide)
        · rw [h] at ht
          cases ht
          exact absurd h1 (by decide)
      rw [e1, if_neg (by simp), if_neg (fun h => e2 h.2), if_neg (fun h => e2 h.2)]
    by_cases h0 : c.toNat = 0
    · have e1 : opS (c :: r) = (r, true) := by
        show (if 1 < c.toNat then _ else _) = _
        rw [if_neg h1, if_pos h0]
      have e2 : ropS (c :: r) = r := if_neg (by omega)
      rw [e1, e2]
      simp only [true_and]
      exact two _ r
    · have e2 : ropS (c :: r) = chn r := if_pos (by omega)
      have e1 : opS (c :: r) = if chE r = true then (chn r, true) else ([], false) := by
        show (if 1 < c.toNat then _ else _) = _
        rw [if_neg h1, if_neg h0]
      rw [e1, e2]
      cases hE : chE r with
      | true =>
        simp only [if_true, true_and]
        exact two _ _
      | false =>
        have hn : chn r = [] := by
          unfold chn
          by_cases h3 : (toks (unb r)).2 = 0
          · by_cases h4 : (exp (toks (unb r)).1 []).2 = 0
            · unfold chE at hE
              rw [decide_eq_true h3, decide_eq_true h4] at hE
              have hu : unbE r = true := by simpa using hE
              have : unb r = [] := if_pos hu
              rw [this]
              rfl
            · exact exp_fail _ _ h4
          · rw [toks_fail h3]
            rfl
        have e3 : ¬ shutS (chn r) = c :: r := fun h => by
          rw [hn, shut_nil] at h
          cases h
          exact h0 rfl
        simp only [Bool.false_eq_true, if_false]
        rw [if_neg (by simp), if_neg (fun h => e3 h.2), if_neg (fun h => e3 h.2)]
theorem boxW (s b : List UInt8) (M : Mem) (hs : s.length ≤ 1048576) (hb : b.length ≤ 1048576) :
    Meets Proofs.Tryd.prog 3 [.v (.string ⟨s.toArray⟩), .v (.string ⟨b.toArray⟩)] M fun r _ _ => r = .v (.bool true) := by
  refine Meets.of_body [0,1,4,5,6,7,8,9,10,18,24,32] Proofs.Tryd.func3 rfl (by kernel_rfl) rfl fun w => ?_
  have hR := ropenB b M hb
  have hO := openB b M hb
  have he := opn_eq b
  rw [he] at hO
  simp only at hO
  simp only [Proofs.Tryd.f3, shs, zts, sos, sls, zss, eqs, sx, sb1, sb2, sb3, sb4, sb5, sb6, sb7, ↓reduceIte, Nat.reduceAdd, Nat.reduceMul, Nat.reduceDiv, Nat.reduceEqDiff, Nat.reduceLT, Nat.reduceLeDiff, reduceCtorEq, Int.reduceEq, Int.reduceNe, Int.reduceLT, Int.reduceLE, Int.reduceAdd, Int.reduceSub, Int.reduceMul, Int.reduceNeg, Int.reduceToNat, Int.cast_ofNat_Int, Int.natCast_zero, Int.natCast_one, Int.toNat_natCast, Nat.reduceBEq, nzs]
  by_cases h1 : 600 < s.length
  · have d1 : ((600 : Int) < (s.length : Int)) = True := eq_true (by omega)
    have d1b : ((s.length : Int) ≤ 600) = False := eq_false (by omega)
    refine CallK.pure ⟨rfl, rfl⟩ rfl (shut_large s M h1) ?_
    simp only [shs, zts, sos, sls, zss, eqs, sx, sb1, sb2, sb3, sb4, sb5, sb6, sb7, ↓reduceIte, Nat.reduceAdd, Nat.reduceMul, Nat.reduceDiv, Nat.reduceEqDiff, Nat.reduceLT, Nat.reduceLeDiff, reduceCtorEq, Int.reduceEq, Int.reduceNe, Int.reduceLT, Int.reduceLE, Int.reduceAdd, Int.reduceSub, Int.reduceMul, Int.reduceNeg, Int.reduceToNat, Int.cast_ofNat_Int, Int.natCast_zero, Int.natCast_one, Int.toNat_natCast, Nat.reduceBEq, nzs, d1, d1b]
    refine CallK.pure ⟨rfl, rfl⟩ rfl hO ?_
    simp only [shs, zts, sos, sls, zss, eqs, sx, sb1, sb2, sb3, sb4, sb5, sb6, sb7, ↓reduceIte, Nat.reduceAdd, Nat.reduceMul, Nat.reduceDiv, Nat.reduceEqDiff, Nat.reduceLT, Nat.reduceLeDiff, reduceCtorEq, Int.reduceEq, Int.reduceNe, Int.reduceLT, Int.reduceLE, Int.reduceAdd, Int.reduceSub, Int.reduceMul, Int.reduceNeg, Int.reduceToNat, Int.cast_ofNat_Int, Int.natCast_zero, Int.natCast_one, Int.toNat_natCast, Nat.reduceBEq, nzs]
    refine CallK.pure ⟨rfl, rfl⟩ rfl hR ?_
    simp only [shs, zts, sos, sls, zss, eqs, sx, sb1, sb2, sb3, sb4, sb5, sb6, sb7, ↓reduceIte, Nat.reduceAdd, Nat.reduceMul, Nat.reduceDiv, Nat.reduceEqDiff, Nat.reduceLT, Nat.reduceLeDiff, reduceCtorEq, Int.reduceEq, Int.reduceNe, Int.reduceLT, Int.reduceLE, Int.reduceAdd, Int.reduceSub, Int.reduceMul, Int.reduceNeg, Int.reduceToNat, Int.cast_ofNat_Int, Int.natCast_zero, Int.natCast_one, Int.toNat_natCast, Nat.reduceBEq, nzs]
  · have d1 : ((600 : Int) < (s.length : Int)) = False := eq_false (by omega)
    have d1b : ((s.length : Int) ≤ 600) = True := eq_true (by omega)
    refine CallK.pure ⟨rfl, rfl⟩ rfl (shut s M (by omega)) ?_
    simp only [shs, zts, sos, sls, zss, eqs, sx, sb1, sb2, sb3, sb4, sb5, sb6, sb7, ↓reduceIte, Nat.reduceAdd, Nat.reduceMul, Nat.reduceDiv, Nat.reduceEqDiff, Nat.reduceLT, Nat.reduceLeDiff, reduceCtorEq, Int.reduceEq, Int.reduceNe, Int.reduceLT, Int.reduceLE, Int.reduceAdd, Int.reduceSub, Int.reduceMul, Int.reduceNeg, Int.reduceToNat, Int.cast_ofNat_Int, Int.natCast_zero, Int.natCast_one, Int.toNat_natCast, Nat.reduceBEq, nzs, d1, d1b]
    refine CallK.pure ⟨rfl, rfl⟩ rfl (rshut s M (by omega)) ?_
    simp only [shs, zts, sos, sls, zss, eqs, sx, sb1, sb2, sb3, sb4, sb5, sb6, sb7, ↓reduceIte, Nat.reduceAdd, Nat.reduceMul, Nat.reduceDiv, Nat.reduceEqDiff, Nat.reduceLT, Nat.reduceLeDiff, reduceCtorEq, Int.reduceEq, Int.reduceNe, Int.reduceLT, Int.reduceLE, Int.reduceAdd, Int.reduceSub, Int.reduceMul, Int.reduceNeg, Int.reduceToNat, Int.cast_ofNat_Int, Int.natCast_zero, Int.natCast_one, Int.toNat_natCast, Nat.reduceBEq, nzs]
    refine CallK.pure ⟨rfl, rfl⟩ rfl hO ?_
    simp only [shs, zts, sos, sls, zss, eqs, sx, sb1, sb2, sb3, sb4, sb5, sb6, sb7, ↓reduceIte, Nat.reduceAdd, Nat.reduceMul, Nat.reduceDiv, Nat.reduceEqDiff, Nat.reduceLT, Nat.reduceLeDiff, reduceCtorEq, Int.reduceEq, Int.reduceNe, Int.reduceLT, Int.reduceLE, Int.reduceAdd, Int.reduceSub, Int.reduceMul, Int.reduceNeg, Int.reduceToNat, Int.cast_ofNat_Int, Int.natCast_zero, Int.natCast_one, Int.toNat_natCast, Nat.reduceBEq, nzs]
    refine CallK.pure ⟨rfl, rfl⟩ rfl hR ?_
    simp only [shs, zts, sos, sls, zss, eqs, sx, sb1, sb2, sb3, sb4, sb5, sb6, sb7, ↓reduceIte, Nat.reduceAdd, Nat.reduceMul, Nat.reduceDiv, Nat.reduceEqDiff, Nat.reduceLT, Nat.reduceLeDiff, reduceCtorEq, Int.reduceEq, Int.reduceNe, Int.reduceLT, Int.reduceLE, Int.reduceAdd, Int.reduceSub, Int.reduceMul, Int.reduceNeg, Int.reduceToNat, Int.cast_ofNat_Int, Int.natCast_zero, Int.natCast_one, Int.toNat_natCast, Nat.reduceBEq, nzs]
theorem boxL (s t : List UInt8) (M : Mem) (hs : s.length ≤ 1048576) (ht : t.length ≤ 1048576) :
    Meets Proofs.Tryd.prog 3 [.v (.string ⟨s.toArray⟩), .v (.string ⟨t.toArray⟩)] M fun r _ _ => r = .v (.bool true) := boxW s t M hs ht
end Go.X.Bx
