/- tree.Clash, sync.Compare and what woolref says of them. Conditions: none. -/
import Derived.Test.YtkmbglbjpbdldaaClashP
import Derived.Test.YtkmbglbjpbdldaaFwI
set_option linter.unusedSimpArgs false
set_option linter.unusedVariables false
set_option maxHeartbeats 4000000
set_option maxRecDepth 20000
namespace Go.X.Ts
open Go Go.X Go.X.Pol Go.X.Pl Go.X.Rp Go.X.Pd Go.X.Md Go.X.Mv Go.X.Pt Go.X.Tv

theorem eqI (x y : Value) (l m : List (Int)) (M : Mem) (hx : RowM M x 1 (l.map encI)) (hy : RowM M y 1 (m.map encI)) :
    Meets Proofs.Try.prog 21 [.v x, .v y] M fun r _ _ => r = .v (.bool (decide (l = m))) := by
  refine Meets.of_body [0,1,4,5,10,12,13,14,24] Proofs.Try.func21 rfl (by kernel_rfl) rfl fun w => ?_
  simp only [Proofs.Try.f21, shs, zts, sos, sls, zss, eqs, sx, sb1, sb2, sb3, sb4, sb5, ↓reduceIte, Nat.reduceAdd, Nat.reduceMul, Nat.reduceDiv, Nat.reduceEqDiff, Nat.reduceLT, Nat.reduceLeDiff, reduceCtorEq, Int.reduceEq, Int.reduceNe, Int.reduceLT, Int.reduceLE, Int.reduceAdd, Int.reduceSub, Int.reduceMul, Int.reduceNeg, Int.reduceToNat, Int.cast_ofNat_Int, Int.natCast_zero, Int.natCast_one, Int.toNat_natCast, Nat.reduceBEq, hx.len, hy.len, hx.sl, hy.sl, List.length_map]
  refine ⟨fun h => ?_, fun h => ?_⟩
  · rw [decide_eq_false (fun e => h (by rw [e]))]
  have hlen : l.length = m.length := by omega
  have hle := hx.len_le
  rw [List.length_map] at hle
  refine LoopK.go (X := Nat × Nat) (fun p => ([(0, true, .v x), (1, true, .v y), (4, true, .v (.bool false)), (12, true, .v (.int .i64 l.length)), (13, true, .v (.int .i64 p.2))], [], M))
    (fun p => p.1 + p.2 = l.length ∧ (l = m ↔ l.drop p.2 = m.drop p.2)) (fun p => p.1) (l.length, 0) ⟨rfl, Iff.rfl⟩ (Ent.of ?_) ?_
  · simp only [sx, sb1, sb2, sb3, sb4, sb5, ↓reduceIte, Nat.reduceAdd, Nat.reduceMul, Nat.reduceDiv, Nat.reduceEqDiff, Nat.reduceLT, Nat.reduceLeDiff, reduceCtorEq, Int.reduceEq, Int.reduceNe, Int.reduceLT, Int.reduceLE, Int.reduceAdd, Int.reduceSub, Int.reduceMul, Int.reduceNeg, Int.reduceToNat, Int.cast_ofNat_Int, Int.natCast_zero, Int.natCast_one, Int.toNat_natCast, Nat.reduceBEq]
  rintro ⟨f, i⟩ ⟨h1, h2⟩
  simp only at h1 h2
  simp only [shs, zts, sos, sls, zss, eqs, sx, sb1, sb2, sb3, sb4, sb5, ↓reduceIte, Nat.reduceAdd, Nat.reduceMul, Nat.reduceDiv, Nat.reduceEqDiff, Nat.reduceLT, Nat.reduceLeDiff, reduceCtorEq, Int.reduceEq, Int.reduceNe, Int.reduceLT, Int.reduceLE, Int.reduceAdd, Int.reduceSub, Int.reduceMul, Int.reduceNeg, Int.reduceToNat, Int.cast_ofNat_Int, Int.natCast_zero, Int.natCast_one, Int.toNat_natCast, Nat.reduceBEq]
  refine ⟨fun h3 => ?_, fun h3 => ?_⟩
  · obtain ⟨a0, hl, hd⟩ := l_drop_at (l := l) (i := i) (by omega)
    obtain ⟨b0, hm, hd2⟩ := l_drop_at (l := m) (i := i) (by omega)
    have g0 := hx.cell (i := i) (e := [.int .i64 a0]) (by rw [List.getElem?_map, hl]; rfl) (off := 0) (by omega)
    have k0 := hy.cell (i := i) (e := [.int .i64 b0]) (by rw [List.getElem?_map, hm]; rfl) (off := 0) (by omega)
    have i1 := hx.ix (i := (i : Int)) (by omega) (by rw [List.length_map]; omega)
    have i2 := hy.ix (i := (i : Int)) (by omega) (by rw [List.length_map]; omega)
    simp only [List.getD_cons_zero, List.getD_cons_succ] at g0 k0
    refine DrawK.quiet (by kernel_rfl) (by kernel_rfl) ?_
    simp only [shs, zts, sos, sls, zss, eqs, sx, sb1, sb2, sb3, sb4, sb5, ↓reduceIte, Nat.reduceAdd, Nat.reduceMul, Nat.reduceDiv, Nat.reduceEqDiff, Nat.reduceLT, Nat.reduceLeDiff, reduceCtorEq, Int.reduceEq, Int.reduceNe, Int.reduceLT, Int.reduceLE, Int.reduceAdd, Int.reduceSub, Int.reduceMul, Int.reduceNeg, Int.reduceToNat, Int.cast_ofNat_Int, Int.natCast_zero, Int.natCast_one, Int.toNat_natCast, Nat.reduceBEq, nzs, g0.1, g0.2.1, k0.1, k0.2.1, i1, i2, i1.2, i2.2, hx.len, hy.len, hx.sl, hy.sl, inK, lo, hi, List.toArray_eq_iff]
    refine ⟨fun hne => ?_, fun he => ⟨by omega, (f - 1, i + 1), ⟨⟨by simp only; omega, ?_⟩, by simp only; omega⟩, Ent.of ?_⟩⟩
    · rw [decide_eq_false (fun e => ?_)]
      have := h2.1 e
      rw [hd, hd2] at this
      have := (List.cons.inj this).1
      simp_all
    · have e12 : a0 = b0 := by omega
      simp only
      rw [h2, hd, hd2, e12]
      exact ⟨fun e => (List.cons.inj e).2, fun e => by rw [e]⟩
    · simp only [sx, sb1, sb2, sb3, sb4, sb5, ↓reduceIte, Nat.reduceAdd, Nat.reduceMul, Nat.reduceDiv, Nat.reduceEqDiff, Nat.reduceLT, Nat.reduceLeDiff, reduceCtorEq, Int.reduceEq, Int.reduceNe, Int.reduceLT, Int.reduceLE, Int.reduceAdd, Int.reduceSub, Int.reduceMul, Int.reduceNeg, Int.reduceToNat, Int.cast_ofNat_Int, Int.natCast_zero, Int.natCast_one, Int.toNat_natCast, Nat.reduceBEq, Int.natCast_add]
  · have : i = l.length := by omega
    rw [decide_eq_true (h2.2 (by rw [List.drop_eq_nil_of_le (by omega), List.drop_eq_nil_of_le (by omega)]))]

theorem encN_map (l : List Nat) : l.map encN = (l.map fun n : Nat => (n : Int)).map encI := by rw [List.map_map]; rfl
theorem eqSt' (x y : Value) (l m : List (List UInt8)) (M : Mem) (hx : RowM M x 1 (l.map encS)) (hy : RowM M y 1 (m.map encS)) :
    Meets Proofs.Try.prog 31 [.v x, .v y] M fun r _ _ => r = .v (.bool (decide (l = m))) := by
  refine Meets.of_body [0,1,4,5,10,12,13,14,24] Proofs.Try.func31 rfl (by kernel_rfl) rfl fun w => ?_
  simp only [Proofs.Try.f31, shs, zts, sos, sls, zss, eqs, sx, sb1, sb2, sb3, sb4, sb5, ↓reduceIte, Nat.reduceAdd, Nat.reduceMul, Nat.reduceDiv, Nat.reduceEqDiff, Nat.reduceLT, Nat.reduceLeDiff, reduceCtorEq, Int.reduceEq, Int.reduceNe, Int.reduceLT, Int.reduceLE, Int.reduceAdd, Int.reduceSub, Int.reduceMul, Int.reduceNeg, Int.reduceToNat, Int.cast_ofNat_Int, Int.natCast_zero, Int.natCast_one, Int.toNat_natCast, Nat.reduceBEq, hx.len, hy.len, hx.sl, hy.sl, List.length_map]
  refine ⟨fun h => ?_, fun h => ?_⟩
  · rw [decide_eq_false (fun e => h (by rw [e]))]
  have hlen : l.length = m.length := by omega
  have hle := hx.len_le
  rw [List.length_map] at hle
  refine LoopK.go (X := Nat × Nat) (fun p => ([(0, true, .v x), (1, true, .v y), (4, true, .v (.bool false)), (12, true, .v (.int .i64 l.length)), (13, true, .v (.int .i64 p.2))], [], M))
    (fun p => p.1 + p.2 = l.length ∧ (l = m ↔ l.drop p.2 = m.drop p.2)) (fun p => p.1) (l.length, 0) ⟨rfl, Iff.rfl⟩ (Ent.of ?_) ?_
  · simp only [sx, sb1, sb2, sb3, sb4, sb5, ↓reduceIte, Nat.reduceAdd, Nat.reduceMul, Nat.reduceDiv, Nat.reduceEqDiff, Nat.reduceLT, Nat.reduceLeDiff, reduceCtorEq, Int.reduceEq, Int.reduceNe, Int.reduceLT, Int.reduceLE, Int.reduceAdd, Int.reduceSub, Int.reduceMul, Int.reduceNeg, Int.reduceToNat, Int.cast_ofNat_Int, Int.natCast_zero, Int.natCast_one, Int.toNat_natCast, Nat.reduceBEq]
  rintro ⟨f, i⟩ ⟨h1, h2⟩
  simp only at h1 h2
  simp only [shs, zts, sos, sls, zss, eqs, sx, sb1, sb2, sb3, sb4, sb5, ↓reduceIte, Nat.reduceAdd, Nat.reduceMul, Nat.reduceDiv, Nat.reduceEqDiff, Nat.reduceLT, Nat.reduceLeDiff, reduceCtorEq, Int.reduceEq, Int.reduceNe, Int.reduceLT, Int.reduceLE, Int.reduceAdd, Int.reduceSub, Int.reduceMul, Int.reduceNeg, Int.reduceToNat, Int.cast_ofNat_Int, Int.natCast_zero, Int.natCast_one, Int.toNat_natCast, Nat.reduceBEq]
  refine ⟨fun h3 => ?_, fun h3 => ?_⟩
  · obtain ⟨a0, hl, hd⟩ := l_drop_at (l := l) (i := i) (by omega)
    obtain ⟨b0, hm, hd2⟩ := l_drop_at (l := m) (i := i) (by omega)
    have g0 := hx.cell (i := i) (e := [.string ⟨a0.toArray⟩]) (by rw [List.getElem?_map, hl]; rfl) (off := 0) (by omega)
    have k0 := hy.cell (i := i) (e := [.string ⟨b0.toArray⟩]) (by rw [List.getElem?_map, hm]; rfl) (off := 0) (by omega)
    have i1 := hx.ix (i := (i : Int)) (by omega) (by rw [List.length_map]; omega)
    have i2 := hy.ix (i := (i : Int)) (by omega) (by rw [List.length_map]; omega)
    simp only [List.getD_cons_zero, List.getD_cons_succ] at g0 k0
    refine DrawK.quiet (by kernel_rfl) (by kernel_rfl) ?_
    simp only [shs, zts, sos, sls, zss, eqs, sx, sb1, sb2, sb3, sb4, sb5, ↓reduceIte, Nat.reduceAdd, Nat.reduceMul, Nat.reduceDiv, Nat.reduceEqDiff, Nat.reduceLT, Nat.reduceLeDiff, reduceCtorEq, Int.reduceEq, Int.reduceNe, Int.reduceLT, Int.reduceLE, Int.reduceAdd, Int.reduceSub, Int.reduceMul, Int.reduceNeg, Int.reduceToNat, Int.cast_ofNat_Int, Int.natCast_zero, Int.natCast_one, Int.toNat_natCast, Nat.reduceBEq, nzs, g0.1, g0.2.1, k0.1, k0.2.1, i1, i2, i1.2, i2.2, hx.len, hy.len, hx.sl, hy.sl, inK, lo, hi, List.toArray_eq_iff]
    refine ⟨fun hne => ?_, fun he => ⟨by omega, (f - 1, i + 1), ⟨⟨by simp only; omega, ?_⟩, by simp only; omega⟩, Ent.of ?_⟩⟩
    · rw [decide_eq_false (fun e => ?_)]
      have := h2.1 e
      rw [hd, hd2] at this
      have := (List.cons.inj this).1
      simp_all
    · have e12 : a0 = b0 := by simp_all
      simp only
      rw [h2, hd, hd2, e12]
      exact ⟨fun e => (List.cons.inj e).2, fun e => by rw [e]⟩
    · simp only [sx, sb1, sb2, sb3, sb4, sb5, ↓reduceIte, Nat.reduceAdd, Nat.reduceMul, Nat.reduceDiv, Nat.reduceEqDiff, Nat.reduceLT, Nat.reduceLeDiff, reduceCtorEq, Int.reduceEq, Int.reduceNe, Int.reduceLT, Int.reduceLE, Int.reduceAdd, Int.reduceSub, Int.reduceMul, Int.reduceNeg, Int.reduceToNat, Int.cast_ofNat_Int, Int.natCast_zero, Int.natCast_one, Int.toNat_natCast, Nat.reduceBEq, Int.natCast_add]
  · have : i = l.length := by omega
    rw [decide_eq_true (h2.2 (by rw [List.drop_eq_nil_of_le (by omega), List.drop_eq_nil_of_le (by omega)]))]


theorem Meets.nilOwnT {P : Program} {f : FuncId} {args : List SV} {sz : Nat} {M : Mem} {T : SV → SV} (hT : Ctx T) (h : Meets P f args M (fun r _ _ => r = T (.v (.slice none 0 0)))) : Meets P f args M (OwnR T sz []) := by
  refine ⟨h.1, fun w hw => (h.2 w hw).mono ?_⟩
  rintro e w' ⟨s, H', M', ν, rfl, hh, rfl⟩
  refine ⟨T (.own 0), [(0, .row sz [])], M', fun _ => .slice none 0 0, ?_, ⟨fun p hp => ?_, by simp [fp, blk?], by simp [fp, blk?], hh.mem, hh.below, hh.le0, hh.fresh, fun _ => rfl⟩, 0, rfl, rfl⟩
  · rw [hT (.v (.slice none 0 0)) (.own 0) ν (fun _ => .slice none 0 0) rfl]
  · simp only [List.mem_singleton] at hp
    subst hp
    exact ⟨fun e he => by simp at he, .inl ⟨rfl, rfl⟩⟩
theorem rcompare_same (ya yb : Value) (a b : List (List UInt8)) (M : Mem) (ha : RowM M ya 1 (a.map encS)) (hb : RowM M yb 1 (b.map encS)) (h0 : 1 ≤ a.length) (hab : a.length = b.length) (h32 : a.length ≤ 32) (ha64 : ∀ s ∈ a, s.length ≤ 64) (hb64 : ∀ s ∈ b, s.length ≤ 64) (he : topV (lv0 a) = topV (lv0 b)) :
    Meets Proofs.Try.prog 30 [.v ya, .v yb] M (fun r _ _ => r = .tup [.v (.slice none 0 0), .v (.int .i64 1)]) := by
  refine Meets.of_body [0,1,4,5,6,7,8,9,10,11,16,19,45,46,47] Proofs.Try.func30 rfl (by kernel_rfl) rfl fun w => ?_
  simp only [Proofs.Try.f30, shs, zts, sos, sls, zss, eqs, sx, sb1, sb2, sb3, sb4, sb5, ↓reduceIte, Nat.reduceAdd, Nat.reduceMul, Nat.reduceDiv, Nat.reduceEqDiff, Nat.reduceLT, Nat.reduceLeDiff, reduceCtorEq, Int.reduceEq, Int.reduceNe, Int.reduceLT, Int.reduceLE, Int.reduceAdd, Int.reduceSub, Int.reduceMul, Int.reduceNeg, Int.reduceToNat, Int.cast_ofNat_Int, Int.natCast_zero, Int.natCast_one, Int.toNat_natCast, Nat.reduceBEq]
  refine CallK.pure ⟨rfl, rfl⟩ rfl (rroot 32 ya a M ha (List.length_pos_iff.1 h0) h32 h32 ha64) ?_
  simp only [shs, zts, sos, sls, zss, eqs, sx, sb1, sb2, sb3, sb4, sb5, ↓reduceIte, Nat.reduceAdd, Nat.reduceMul, Nat.reduceDiv, Nat.reduceEqDiff, Nat.reduceLT, Nat.reduceLeDiff, reduceCtorEq, Int.reduceEq, Int.reduceNe, Int.reduceLT, Int.reduceLE, Int.reduceAdd, Int.reduceSub, Int.reduceMul, Int.reduceNeg, Int.reduceToNat, Int.cast_ofNat_Int, Int.natCast_zero, Int.natCast_one, Int.toNat_natCast, Nat.reduceBEq]
  refine CallK.pure ⟨rfl, rfl⟩ rfl (rroot 32 yb b M hb (List.length_pos_iff.1 (by omega)) (by omega) (by omega) hb64) ?_
  simp only [shs, zts, sos, sls, zss, eqs, sx, sb1, sb2, sb3, sb4, sb5, ↓reduceIte, Nat.reduceAdd, Nat.reduceMul, Nat.reduceDiv, Nat.reduceEqDiff, Nat.reduceLT, Nat.reduceLeDiff, reduceCtorEq, Int.reduceEq, Int.reduceNe, Int.reduceLT, Int.reduceLE, Int.reduceAdd, Int.reduceSub, Int.reduceMul, Int.reduceNeg, Int.reduceToNat, Int.cast_ofNat_Int, Int.natCast_zero, Int.natCast_one, Int.toNat_natCast, Nat.reduceBEq, he]
theorem rcompare : ∀ (n : Nat) (ya yb : Value) (a b : List (List UInt8)) (M : Mem), RowM M ya 1 (a.map encS) → RowM M yb 1 (b.map encS) → 1 ≤ a.length → a.length = b.length → a.length ≤ n → a.length ≤ 32 → (∀ s ∈ a, s.length ≤ 64) → (∀ s ∈ b, s.length ≤ 64) →
    Meets Proofs.Try.prog 30 [.v ya, .v yb] M (OwnR (fun t => .tup [t, .v (.int .i64 ((rc n (lv0 a) (lv0 b)).2 : Int))]) 1 ((rc n (lv0 a) (lv0 b)).1.map encN))
  | 0, _, _, _, _, _, _, _, h0, _, hn, _, _, _ => by omega
  | n + 1, ya, yb, a, b, M, ha, hb, h0, hab, hn, h32, ha64, hb64 => by
    by_cases he : topV (lv0 a) = topV (lv0 b)
    · rw [rc_same he]
      exact Meets.nilOwnT (T := fun t => .tup [t, .v (.int .i64 1)]) (Ctx.fst _) (rcompare_same ya yb a b M ha hb h0 hab h32 ha64 hb64 he)
    refine Meets.of_body [0,1,4,5,6,7,8,9,10,11,16,19,45,46,47] Proofs.Try.func30 rfl (by kernel_rfl) rfl fun w => ?_
    have d0 : ((topV (lv0 a) : Int) = (topV (lv0 b) : Int)) = False := eq_false (by omega)
    have hla := lv0_len a
    have hlb := lv0_len b
    generalize hrc : rc (n + 1) (lv0 a) (lv0 b) = R
    rw [rc, if_neg he, hla] at hrc
    simp only [Proofs.Try.f30, shs, zts, sos, sls, zss, eqs, sx, sb1, sb2, sb3, sb4, sb5, ↓reduceIte, Nat.reduceAdd, Nat.reduceMul, Nat.reduceDiv, Nat.reduceEqDiff, Nat.reduceLT, Nat.reduceLeDiff, reduceCtorEq, Int.reduceEq, Int.reduceNe, Int.reduceLT, Int.reduceLE, Int.reduceAdd, Int.reduceSub, Int.reduceMul, Int.reduceNeg, Int.reduceToNat, Int.cast_ofNat_Int, Int.natCast_zero, Int.natCast_one, Int.toNat_natCast, Nat.reduceBEq]
    refine CallK.pure ⟨rfl, rfl⟩ rfl (rroot 32 ya a M ha (List.length_pos_iff.1 h0) h32 h32 ha64) ?_
    simp only [shs, zts, sos, sls, zss, eqs, sx, sb1, sb2, sb3, sb4, sb5, ↓reduceIte, Nat.reduceAdd, Nat.reduceMul, Nat.reduceDiv, Nat.reduceEqDiff, Nat.reduceLT, Nat.reduceLeDiff, reduceCtorEq, Int.reduceEq, Int.reduceNe, Int.reduceLT, Int.reduceLE, Int.reduceAdd, Int.reduceSub, Int.reduceMul, Int.reduceNeg, Int.reduceToNat, Int.cast_ofNat_Int, Int.natCast_zero, Int.natCast_one, Int.toNat_natCast, Nat.reduceBEq]
    refine CallK.pure ⟨rfl, rfl⟩ rfl (rroot 32 yb b M hb (List.length_pos_iff.1 (by omega)) (by omega) (by omega) hb64) ?_
    by_cases h1 : a.length = 1
    · have d1 : ((a.length : Int) = 1) = True := eq_true (by omega)
      rw [if_pos h1] at hrc
      subst hrc
      simp only [shs, zts, sos, sls, zss, eqs, sx, sb1, sb2, sb3, sb4, sb5, ↓reduceIte, Nat.reduceAdd, Nat.reduceMul, Nat.reduceDiv, Nat.reduceEqDiff, Nat.reduceLT, Nat.reduceLeDiff, reduceCtorEq, Int.reduceEq, Int.reduceNe, Int.reduceLT, Int.reduceLE, Int.reduceAdd, Int.reduceSub, Int.reduceMul, Int.reduceNeg, Int.reduceToNat, Int.cast_ofNat_Int, Int.natCast_zero, Int.natCast_one, Int.toNat_natCast, Nat.reduceBEq, d0, d1, ha.len, ha.sl, List.length_map]
      exact ⟨160, rfl, rfl⟩
    · have d1 : ((a.length : Int) = 1) = False := eq_false (by omega)
      rw [if_neg h1] at hrc
      obtain ⟨d, hd, hk, hk1, hk2⟩ := sp_pow a.length (by omega) (by omega)
      rw [hk] at hrc
      simp only [shs, zts, sos, sls, zss, eqs, sx, sb1, sb2, sb3, sb4, sb5, ↓reduceIte, Nat.reduceAdd, Nat.reduceMul, Nat.reduceDiv, Nat.reduceEqDiff, Nat.reduceLT, Nat.reduceLeDiff, reduceCtorEq, Int.reduceEq, Int.reduceNe, Int.reduceLT, Int.reduceLE, Int.reduceAdd, Int.reduceSub, Int.reduceMul, Int.reduceNeg, Int.reduceToNat, Int.cast_ofNat_Int, Int.natCast_zero, Int.natCast_one, Int.toNat_natCast, Nat.reduceBEq, d0, d1, ha.len, ha.sl, List.length_map]
      refine CallK.pure ⟨rfl, rfl⟩ rfl (span a.length M h32) ?_
      rw [hk]
      have hp := Nat.two_pow_pos d
      have s1 := ha.sub (lo := 0) (hi := 2 ^ d) (by omega) (by rw [List.length_map]; omega)
      have s2 := ha.sub (lo := 2 ^ d) (hi := a.length) (by omega) (by rw [List.length_map]; omega)
      rw [List.drop_zero, Nat.sub_zero, ← List.map_take] at s1
      rw [← List.map_drop, ← List.map_take, List.take_of_length_le (by rw [List.length_drop]; omega)] at s2
      have t1 := hb.sub (lo := 0) (hi := 2 ^ d) (by omega) (by rw [List.length_map]; omega)
      have t2 := hb.sub (lo := 2 ^ d) (hi := b.length) (by omega) (by rw [List.length_map]; omega)
      rw [List.drop_zero, Nat.sub_zero, ← List.map_take] at t1
      rw [← List.map_drop, ← List.map_take, List.take_of_length_le (by rw [List.length_drop]; omega)] at t2
      have hcap := ha.1.2.2.1
      rw [ha.len, List.length_map] at hcap
      have hcap' := hb.1.2.2.1
      rw [hb.len, List.length_map] at hcap'
      have lt1 : (a.take (2 ^ d)).length = 2 ^ d := by rw [List.length_take]; omega
      have lt2 : (b.take (2 ^ d)).length = 2 ^ d := by rw [List.length_take]; omega
      have r1 := rcompare n (subV ya 1 0 (2 ^ d)) (subV yb 1 0 (2 ^ d)) (a.take (2 ^ d)) (b.take (2 ^ d)) M s1 t1 (by omega) (by omega) (by omega) (by omega) (fun s hs => ha64 s (List.mem_of_mem_take hs)) (fun s hs => hb64 s (List.mem_of_mem_take hs))
      have r2 := fun M' (hM : M.le M') => rcompare n (subV ya 1 (2 ^ d) a.length) (subV yb 1 (2 ^ d) b.length) (a.drop (2 ^ d)) (b.drop (2 ^ d)) M' (s2.le hM) (t2.le hM) (by rw [List.length_drop]; omega) (by rw [List.length_drop, List.length_drop]; omega) (by rw [List.length_drop]; omega) (by rw [List.length_drop]; omega) (fun s hs => ha64 s (List.mem_of_mem_drop hs)) (fun s hs => hb64 s (List.mem_of_mem_drop hs))
      have e1 : lv0 (a.take (2 ^ d)) = (lv0 a).take (2 ^ d) := List.map_take
      have e2 : lv0 (b.take (2 ^ d)) = (lv0 b).take (2 ^ d) := List.map_take
      have e3 : lv0 (a.drop (2 ^ d)) = (lv0 a).drop (2 ^ d) := List.map_drop
      have e4 : lv0 (b.drop (2 ^ d)) = (lv0 b).drop (2 ^ d) := List.map_drop
      rw [e1, e2] at r1
      rw [e3, e4] at r2
      obtain ⟨p1, p2, p3⟩ := rc_bound n ((lv0 a).take (2 ^ d)) ((lv0 b).take (2 ^ d)) (by rw [List.length_take]; omega) (by rw [List.length_take]; omega)
      obtain ⟨q1, q2, q3⟩ := rc_bound n ((lv0 a).drop (2 ^ d)) ((lv0 b).drop (2 ^ d)) (by rw [List.length_drop]; omega) (by rw [List.length_drop]; omega)
      rw [List.length_take, hla] at p1 p2 p3
      rw [List.length_drop, hla] at q1 q2 q3
      generalize rc n ((lv0 a).take (2 ^ d)) ((lv0 b).take (2 ^ d)) = X1 at *
      generalize rc n ((lv0 a).drop (2 ^ d)) ((lv0 b).drop (2 ^ d)) = X2 at *
      obtain ⟨xs, m1⟩ := X1
      obtain ⟨ys, m2⟩ := X2
      simp only at p1 p2 p3 q1 q2 q3 hrc
      subst hrc
      generalize 2 ^ d = k at *
      simp only [shs, zts, sos, sls, zss, eqs, sx, sb1, sb2, sb3, sb4, sb5, ↓reduceIte, Nat.reduceAdd, Nat.reduceMul, Nat.reduceDiv, Nat.reduceEqDiff, Nat.reduceLT, Nat.reduceLeDiff, reduceCtorEq, Int.reduceEq, Int.reduceNe, Int.reduceLT, Int.reduceLE, Int.reduceAdd, Int.reduceSub, Int.reduceMul, Int.reduceNeg, Int.reduceToNat, Int.cast_ofNat_Int, Int.natCast_zero, Int.natCast_one, Int.toNat_natCast, Nat.reduceBEq, nzs, ha.len, ha.sl, hb.sl, List.length_map]
      refine DrawK.plan (tk [0, 1, 2, 3, 4, 5] (ones' [6] (tk [7, 8, 9] (ones' [10, 11] .done)))) (by kernel_rfl) (by kernel_rfl) ?_
      simp only [shs, zts, sos, sls, zss, eqs, sx, sb1, sb2, sb3, sb4, sb5, ↓reduceIte, Nat.reduceAdd, Nat.reduceMul, Nat.reduceDiv, Nat.reduceEqDiff, Nat.reduceLT, Nat.reduceLeDiff, reduceCtorEq, Int.reduceEq, Int.reduceNe, Int.reduceLT, Int.reduceLE, Int.reduceAdd, Int.reduceSub, Int.reduceMul, Int.reduceNeg, Int.reduceToNat, Int.cast_ofNat_Int, Int.natCast_zero, Int.natCast_one, Int.toNat_natCast, Nat.reduceBEq, nzs, se1, se2, tks, ha.len, ha.sl, hb.len, hb.sl, List.length_map]
      refine ⟨by omega, by omega, CallK.own (Ctx.fst _) rfl rfl r1 rfl fun M2 hM2 => ?_⟩
      simp only [shs, zts, sos, sls, zss, eqs, sx, sb1, sb2, sb3, sb4, sb5, ↓reduceIte, Nat.reduceAdd, Nat.reduceMul, Nat.reduceDiv, Nat.reduceEqDiff, Nat.reduceLT, Nat.reduceLeDiff, reduceCtorEq, Int.reduceEq, Int.reduceNe, Int.reduceLT, Int.reduceLE, Int.reduceAdd, Int.reduceSub, Int.reduceMul, Int.reduceNeg, Int.reduceToNat, Int.cast_ofNat_Int, Int.natCast_zero, Int.natCast_one, Int.toNat_natCast, Nat.reduceBEq, nzs, se1, se2, tks, hM2]
      refine DrawK.plan (tk [0, 1, 2, 3, 4, 5] (ones' [6] (tk [7, 8, 9] (ones' [10, 11] .done)))) (by kernel_rfl) (by kernel_rfl) ?_
      simp only [shs, zts, sos, sls, zss, eqs, sx, sb1, sb2, sb3, sb4, sb5, ↓reduceIte, Nat.reduceAdd, Nat.reduceMul, Nat.reduceDiv, Nat.reduceEqDiff, Nat.reduceLT, Nat.reduceLeDiff, reduceCtorEq, Int.reduceEq, Int.reduceNe, Int.reduceLT, Int.reduceLE, Int.reduceAdd, Int.reduceSub, Int.reduceMul, Int.reduceNeg, Int.reduceToNat, Int.cast_ofNat_Int, Int.natCast_zero, Int.natCast_one, Int.toNat_natCast, Nat.reduceBEq, nzs, se1, se2, tks, ha.len, ha.sl, hb.len, hb.sl, List.length_map]
      refine ⟨by omega, by omega, CallK.own (Ctx.fst _) rfl rfl (r2 M2 hM2) rfl fun M3 hM3 => ?_⟩
      simp only [shs, zts, sos, sls, zss, eqs, sx, sb1, sb2, sb3, sb4, sb5, ↓reduceIte, Nat.reduceAdd, Nat.reduceMul, Nat.reduceDiv, Nat.reduceEqDiff, Nat.reduceLT, Nat.reduceLeDiff, reduceCtorEq, Int.reduceEq, Int.reduceNe, Int.reduceLT, Int.reduceLE, Int.reduceAdd, Int.reduceSub, Int.reduceMul, Int.reduceNeg, Int.reduceToNat, Int.cast_ofNat_Int, Int.natCast_zero, Int.natCast_one, Int.toNat_natCast, Nat.reduceBEq, nzs, se1, se2, tks, List.length_map, hM3]
      refine LoopK.go (X := Nat × Nat × List Nat) (fun x => ([(6, true, .v (.int .i64 k)), (7, true, .own 248), (8, true, .v (.int .i64 m1)), (9, true, .own 328), (10, true, .v (.int .i64 m2)), (45, true, .v (.int .i64 ys.length)), (46, true, .v (.int .i64 x.2.1))], [(248, .row 1 (xs.map encN)), (328, .row 1 (x.2.2.map encN))], M3))
        (fun x => x.1 + x.2.1 = ys.length ∧ x.2.2 = (ys.take x.2.1).map (· + k) ++ ys.drop x.2.1) (fun x => x.1) (ys.length, 0, ys) ⟨rfl, by simp⟩ (Ent.of ?_) ?_
      · simp only [sx, sb1, sb2, sb3, sb4, sb5, ↓reduceIte, Nat.reduceAdd, Nat.reduceMul, Nat.reduceDiv, Nat.reduceEqDiff, Nat.reduceLT, Nat.reduceLeDiff, reduceCtorEq, Int.reduceEq, Int.reduceNe, Int.reduceLT, Int.reduceLE, Int.reduceAdd, Int.reduceSub, Int.reduceMul, Int.reduceNeg, Int.reduceToNat, Int.cast_ofNat_Int, Int.natCast_zero, Int.natCast_one, Int.toNat_natCast, Nat.reduceBEq]
      rintro ⟨f, i, zs⟩ ⟨h2, h3⟩
      simp only at h2 h3
      have hzl : zs.length = ys.length := by rw [h3, List.length_append, List.length_map, List.length_take, List.length_drop]; omega
      by_cases hi : i < ys.length
      · have c1 : ((i : Int) < (ys.length : Int)) = True := eq_true (by omega)
        obtain ⟨z, hz, hd⟩ := l_drop_at (l := ys) (i := i) hi
        have hz2 : zs[i]? = some z := by rw [h3, List.getElem?_append_right (by rw [List.length_map, List.length_take]; omega), List.length_map, List.length_take, hd, Nat.min_eq_left (by omega), Nat.sub_self]; rfl
        have hgz : (zs.map encN).getD i [] = encN z := by rw [List.getD_eq_getElem?_getD, List.getElem?_map, hz2]; rfl
        have hset : (zs.map encN).set i (encN (z + k)) = (zs.set i (z + k)).map encN := by rw [List.map_set]
        have hzb := q3 z (List.mem_of_getElem? hz)
        simp only [shs, zts, sos, sls, zss, eqs, sx, sb1, sb2, sb3, sb4, sb5, ↓reduceIte, Nat.reduceAdd, Nat.reduceMul, Nat.reduceDiv, Nat.reduceEqDiff, Nat.reduceLT, Nat.reduceLeDiff, reduceCtorEq, Int.reduceEq, Int.reduceNe, Int.reduceLT, Int.reduceLE, Int.reduceAdd, Int.reduceSub, Int.reduceMul, Int.reduceNeg, Int.reduceToNat, Int.cast_ofNat_Int, Int.natCast_zero, Int.natCast_one, Int.toNat_natCast, Nat.reduceBEq, nzs, c1, List.length_map, hgz, hzl, encN, List.getD_cons_zero]
        refine ⟨by omega, hi, i64J (by omega), by omega, hi, i64J (by omega), (f - 1, i + 1, zs.set i (z + k)), ⟨⟨by simp only; omega, ?_⟩, by simp only; omega⟩, Ent.of ?_⟩
        · simp only
          rw [h3, hd, List.set_append_right _ _ (by rw [List.length_map, List.length_take]; omega), List.length_map, List.length_take, Nat.min_eq_left (by omega), Nat.sub_self, List.set_cons_zero, List.take_add_one, hz]
          simp
        · rw [show [Value.int IntKind.i64 ((z : Int) + (k : Int))] = encN (z + k) by simp only [encN, Int.natCast_add], hset]
          simp only [sx, sb1, sb2, sb3, sb4, sb5, ↓reduceIte, Nat.reduceAdd, Nat.reduceMul, Nat.reduceDiv, Nat.reduceEqDiff, Nat.reduceLT, Nat.reduceLeDiff, reduceCtorEq, Int.reduceEq, Int.reduceNe, Int.reduceLT, Int.reduceLE, Int.reduceAdd, Int.reduceSub, Int.reduceMul, Int.reduceNeg, Int.reduceToNat, Int.cast_ofNat_Int, Int.natCast_zero, Int.natCast_one, Int.toNat_natCast, Nat.reduceBEq, Int.natCast_add]
      · have c1 : ((i : Int) < (ys.length : Int)) = False := eq_false (by omega)
        have ed : ys.drop i = [] := List.drop_eq_nil_of_le (by omega)
        rw [ed, List.append_nil, List.take_of_length_le (by omega)] at h3
        subst h3
        simp only [shs, zts, sos, sls, zss, eqs, sx, sb1, sb2, sb3, sb4, sb5, ↓reduceIte, Nat.reduceAdd, Nat.reduceMul, Nat.reduceDiv, Nat.reduceEqDiff, Nat.reduceLT, Nat.reduceLeDiff, reduceCtorEq, Int.reduceEq, Int.reduceNe, Int.reduceLT, Int.reduceLE, Int.reduceAdd, Int.reduceSub, Int.reduceMul, Int.reduceNeg, Int.reduceToNat, Int.cast_ofNat_Int, Int.natCast_zero, Int.natCast_one, Int.toNat_natCast, Nat.reduceBEq, nzs, c1, List.length_map]
        refine ⟨by omega, i64J (by omega), i64J (by omega), 472, by simp only [Int.natCast_add]; rfl, ?_⟩
        rw [List.map_append]
        rfl
end Go.X.Ts
