/- Bags: what bag.Put returns. Conditions: none. -/
import Derived.Test.YtbnbimncladflaaSlB
import Derived.Test.YtbnbimncladflaaKy
set_option linter.unusedSimpArgs false
set_option linter.unusedVariables false
set_option maxHeartbeats 4000000
set_option maxRecDepth 20000
namespace Go.X.Bp
open Go Go.X Go.RowKit Go.X.Bg Go.X.Sb

def zIt : It := (0, 0, [], 0)
def z3 : Id3 := (false, 0, 0)
def txtIx (l : List It) (s : List UInt8) : Int := fidx (fun x : It => decide (x.2.2.1 = s)) l 0
def atI (l : List It) (i : Int) : It := (l[i.toNat]?).getD zIt
/-- an item with another count -/
def setR (l : List It) (i : Nat) (r : Int) : List It := l.set i ((atI l i).1, (atI l i).2.1, (atI l i).2.2.1, r)
def has (l : List It) (s : Int) (n : Nat) : Bool := decide (0 ≤ fidx (isId (true, s, (n : Int))) l 0)
/-- the least number that is free among those of a print -/
def freeN (l : List It) (s : Int) : Nat := ((List.range 65).find? fun n => !has l s n).getD 0
def insI (l : List It) (x : It) : List It := l.take (bk (fun y => cmpT y x) l) ++ x :: l.drop (bk (fun y => cmpT y x) l)
/-- what is put into a right bag -/
def putG (l : List It) (s : List UInt8) : List It × Id3 × Int :=
  if 64 < s.length then ([], z3, 2) else
  if 0 ≤ txtIx l s then (if (atI l (txtIx l s)).2.2.2 = 1000000 then ([], z3, 8) else (setR l (txtIx l s).toNat ((atI l (txtIx l s)).2.2.2 + 1), (true, (atI l (txtIx l s)).1, (atI l (txtIx l s)).2.1), 0)) else
  if l.length = 64 then ([], z3, 8) else (insI l (sumT s, (freeN l (sumT s) : Int), s, 1), (true, sumT s, (freeN l (sumT s) : Int)), 0)
def putS (l : List It) (s : List UInt8) : List It × Id3 × Int := if bagE l ≠ 0 then ([], z3, bagE l) else putG l s
theorem has_iff (l : List It) (s : Int) (n : Nat) : has l s n = true ↔ ∃ x ∈ l, x.1 = s ∧ x.2.1 = (n : Int) := by
  unfold has
  rw [decide_eq_true_eq, fidx_iff, List.any_eq_true]
  refine exists_congr fun x => and_congr_right fun _ => ?_
  unfold isId
  simp
theorem pig (s : Int) : ∀ (n : Nat) (l : List It), (∀ m, m < n → has l s m = true) → n ≤ l.length
  | 0, _, _ => Nat.zero_le _
  | n + 1, l, h => by
    obtain ⟨x, hx, hx1, hx2⟩ := (has_iff l s n).1 (h n (by omega))
    have ih := pig s n (l.erase x) (fun m hm => (has_iff _ s m).2 (by
      obtain ⟨y, hy, hy1, hy2⟩ := (has_iff l s m).1 (h m (by omega))
      refine ⟨y, (List.mem_erase_of_ne (fun e => ?_)).2 hy, hy1, hy2⟩
      rw [e, hx2] at hy2
      omega))
    rw [List.length_erase_of_mem hx] at ih
    have := List.length_pos_of_mem hx
    omega
theorem freeN_of {l : List It} {s : Int} {n : Nat} (h : ∀ m, m < n → has l s m = true) (h2 : has l s n = false) (hl : n < 65) : freeN l s = n := by
  unfold freeN
  have : (List.range 65).find? (fun n => !has l s n) = some n := by
    rw [List.find?_eq_some_iff_getElem]
    refine ⟨by rw [h2]; rfl, n, by simpa using hl, by simp, fun j hj => ?_⟩
    simp only [List.getElem_range]
    rw [h j hj]; rfl
  rw [this]
  rfl
theorem oneCell_it (x : It) : ∀ c ∈ Bg.encT x, c.oneCell' = true := fun c hc => by
  simp only [Bg.encT, List.mem_cons, List.not_mem_nil, or_false] at hc
  rcases hc with rfl | rfl | rfl | rfl <;> rfl
theorem getD_it {l : List It} {i : Nat} {x : It} (h : l[i]? = some x) : (l.map Bg.encT).getD i [] = [.int .i64 x.1, .int .i64 x.2.1, .string ⟨x.2.2.1.toArray⟩, .int .i64 x.2.2.2] := by
  rw [List.getD_eq_getElem?_getD, List.getElem?_map, h]
  rfl
theorem atI_at {l : List It} {i : Nat} {x : It} (h : l[i]? = some x) : atI l (i : Int) = x := by
  unfold atI
  rw [Int.toNat_natCast, h]
  rfl
theorem setR_map {l : List It} {j : Nat} {x : It} (h : l[j]? = some x) (r : Int) : (l.map Bg.encT).set j (putV [.int .i64 x.1, .int .i64 x.2.1, .string ⟨x.2.2.1.toArray⟩, .int .i64 x.2.2.2] 3 [.int .i64 r]) = (setR l j r).map Bg.encT := by
  unfold setR
  rw [atI_at h, List.map_set]
  rfl
theorem setR_at {l : List It} {j : Nat} {x : It} (h : l[j]? = some x) (r : Int) : (setR l j r)[j]? = some (x.1, x.2.1, x.2.2.1, r) := by
  unfold setR
  rw [atI_at h, List.getElem?_set_self (List.getElem?_eq_some_iff.1 h).1]
theorem setR_len (l : List It) (j : Nat) (r : Int) : (setR l j r).length = l.length := by
  unfold setR
  rw [List.length_set]
theorem bag_ok {l : List It} (h : bagE l = 0) : ∀ x ∈ l, oneE x = 0 := by
  have : ∀ {l : List It} {pre : List It}, goB pre l = 0 → ∀ x ∈ l, oneE x = 0 := fun {l} => by
    induction l with
    | nil => intro _ _ x hx; cases hx
    | cons y r ih =>
      intro pre h x hx
      rw [goB] at h
      split at h
      · rename_i h1; exact absurd h h1
      rename_i h1
      split at h
      · cases h
      split at h
      · cases h
      rcases List.mem_cons.1 hx with rfl | hx
      · exact Decidable.of_not_not h1
      · exact ih h x hx
  unfold bagE at h
  split at h
  · cases h
  · exact this h
theorem putC (bb : Nat) (s : List UInt8) (x : It) (M : Mem) (h : BoxM M bb [.string ⟨s.toArray⟩]) : Meets Proofs.Try.prog 59 [itV x, .v (ptrV bb)] M fun r _ _ => r = .v (.bool (decide (x.2.2.1 = s))) := by
  refine Meets.of_body [0,1,2,3] Proofs.Try.func59 rfl (by kernel_rfl) rfl fun w => ?_
  have g0 := h.at (j := 0) rfl
  simp only [Proofs.Try.f59, itV, shs, zts, sos, sls, zss, eqs, sx, sb1, sb2, sb3, sb4, sb5, sb6, sb7, ↓reduceIte, Nat.reduceAdd, Nat.reduceMul, Nat.reduceDiv, Nat.reduceEqDiff, Nat.reduceLT, Nat.reduceLeDiff, reduceCtorEq, Int.reduceEq, Int.reduceNe, Int.reduceLT, Int.reduceLE, Int.reduceAdd, Int.reduceSub, Int.reduceMul, Int.reduceNeg, Int.reduceToNat, Int.cast_ofNat_Int, Int.natCast_zero, Int.natCast_one, Int.toNat_natCast, Nat.reduceBEq, nzs, g0.1, g0.2, List.toArray_eq_iff]
def idS (i : Id3) : SV := .agg [.v (.bool i.1), .v (.int .i64 i.2.1), .v (.int .i64 i.2.2)]
def putT (i : Id3) (e : Int) (s : SV) : SV := .tup [s, idS i, .v (.int .i64 e)]
theorem putT_ctx (i : Id3) (e : Int) : Ctx (putT i e) := fun s s' ν ν' h => by
  simp only [putT, idS, SV.val, SV.vals, h]

theorem cmp_lt {a b : It} : cmpT a b < 0 ↔ a.1 < b.1 ∨ (a.1 = b.1 ∧ a.2.1 < b.2.1) := by
  unfold cmpT
  split <;> omega
theorem cmp_trans {a b c : It} (h1 : cmpT a b < 0) (h2 : cmpT b c < 0) : cmpT a c < 0 := by
  rw [cmp_lt] at *
  omega
theorem goB_srt : ∀ {l pre : List It}, goB pre l = 0 → l.Pairwise (fun a b => cmpT a b < 0) ∧ ∀ p, pre.getLast? = some p → ∀ x ∈ l, cmpT p x < 0
  | [], _, _ => ⟨.nil, fun _ _ x hx => by cases hx⟩
  | y :: r, pre, h => by
    rw [goB] at h
    split at h
    · rename_i h1; exact absurd h h1
    split at h
    · cases h
    rename_i h2
    split at h
    · cases h
    obtain ⟨i1, i2⟩ := goB_srt h
    have hy := i2 y (by simp)
    refine ⟨List.pairwise_cons.2 ⟨hy, i1⟩, fun p hp x hx => ?_⟩
    rw [hp] at h2
    have hpy : cmpT p y < 0 := by
      unfold Bg.bad at h2
      rw [decide_eq_true_eq] at h2
      omega
    rcases List.mem_cons.1 hx with rfl | hx
    · exact hpy
    · exact cmp_trans hpy (hy x hx)
theorem bag_srt {l : List It} (h : bagE l = 0) : l.Pairwise (fun a b => cmpT a b < 0) := by
  unfold bagE at h
  split at h
  · cases h
  · exact (goB_srt h).1
theorem bag_rng {l : List It} (h : bagE l = 0) : ∀ x ∈ l, (0 ≤ x.1 ∧ x.1 ≤ 2147483647) ∧ 0 ≤ x.2.1 ∧ x.2.1 < 64 := fun x hx => by
  obtain ⟨⟨_, h1⟩, h2, _⟩ := oneE_ok (bag_ok h x hx)
  rw [h1]
  exact ⟨sumT_rng _, h2⟩
theorem bag_mono {l : List It} (h : bagE l = 0) (x : It) (i j : Nat) (a b : It) (hij : i ≤ j) (ha : l[i]? = some a) (hb : l[j]? = some b) (hc : cmpT b x < 0) : cmpT a x < 0 := by
  rcases Nat.lt_or_ge i j with hlt | hge
  · have hil := (List.getElem?_eq_some_iff.1 ha).1
    have hjl := (List.getElem?_eq_some_iff.1 hb).1
    have := List.pairwise_iff_getElem.1 (bag_srt h) i j hil hjl hlt
    rw [(List.getElem?_eq_some_iff.1 ha).2, (List.getElem?_eq_some_iff.1 hb).2] at this
    exact cmp_trans this hc
  · have : i = j := by omega
    subst this
    rw [ha] at hb
    cases hb
    exact hc
theorem bag_len {l : List It} (h : bagE l = 0) : l.length ≤ 64 := by
  unfold bagE at h
  split at h
  · cases h
  · omega
theorem freeN_sp {l : List It} (h : l.length ≤ 63) (s : Int) : freeN l s ≤ l.length ∧ has l s (freeN l s) = false ∧ ∀ m, m < freeN l s → has l s m = true := by
  have hex : ∃ n, n ≤ l.length ∧ has l s n = false ∧ ∀ m, m < n → has l s m = true := by
    have : ∀ k, k ≤ l.length + 1 → (∀ m, m < k → has l s m = true) ∨ ∃ n, n < k ∧ has l s n = false ∧ ∀ m, m < n → has l s m = true := fun k => by
      induction k with
      | zero => exact fun _ => .inl (fun m hm => by omega)
      | succ k ih =>
        intro hk
        rcases ih (by omega) with h1 | ⟨n, h1, h2, h3⟩
        · cases hh : has l s k with
          | true =>
            refine .inl (fun m hm => ?_)
            rcases Nat.lt_or_ge m k with hm' | hm'
            · exact h1 m hm'
            · rw [show m = k by omega]; exact hh
          | false => exact .inr ⟨k, by omega, hh, h1⟩
        · exact .inr ⟨n, by omega, h2, h3⟩
    rcases this (l.length + 1) (Nat.le_refl _) with h1 | ⟨n, h1, h2, h3⟩
    · have := pig s (l.length + 1) l h1
      omega
    · exact ⟨n, by omega, h2, h3⟩
  obtain ⟨n, h1, h2, h3⟩ := hex
  rw [freeN_of h3 h2 (by omega)]
  exact ⟨h1, h2, h3⟩
theorem put (y : Value) (l : List It) (s : List UInt8) (M : Mem) (hy : RowM M y 4 (l.map Bg.encT)) :
    Meets Proofs.Try.prog 24 [.v y, .v (.string ⟨s.toArray⟩)] M (OwnR (putT (putS l s).2.1 (putS l s).2.2) 4 ((putS l s).1.map Bg.encT)) := by
  refine Meets.nilOr (putT_ctx _ _) ?_
  refine Meets.of_body [0,1,3,4,5,6,7,8,9,10,11,16,21,29,35,59,72] Proofs.Try.func24 rfl (by kernel_rfl) rfl fun w => ?_
  generalize hc : putS l s = c
  unfold putS at hc
  have hC := check y l M hy
  simp only [Proofs.Try.f24, shs, zts, sos, sls, zss, eqs, sx, sb1, sb2, sb3, sb4, sb5, sb6, sb7, ↓reduceIte, Nat.reduceAdd, Nat.reduceMul, Nat.reduceDiv, Nat.reduceEqDiff, Nat.reduceLT, Nat.reduceLeDiff, reduceCtorEq, Int.reduceEq, Int.reduceNe, Int.reduceLT, Int.reduceLE, Int.reduceAdd, Int.reduceSub, Int.reduceMul, Int.reduceNeg, Int.reduceToNat, Int.cast_ofNat_Int, Int.natCast_zero, Int.natCast_one, Int.toNat_natCast, Nat.reduceBEq, nzs]
  refine CallK.pure ⟨rfl, rfl⟩ rfl hC ?_
  by_cases h1 : bagE l = 0
  rotate_left
  · have c1 := eq_false h1
    rw [if_pos h1] at hc
    subst hc
    simp only [shs, zts, sos, sls, zss, eqs, sx, sb1, sb2, sb3, sb4, sb5, sb6, sb7, ↓reduceIte, Nat.reduceAdd, Nat.reduceMul, Nat.reduceDiv, Nat.reduceEqDiff, Nat.reduceLT, Nat.reduceLeDiff, reduceCtorEq, Int.reduceEq, Int.reduceNe, Int.reduceLT, Int.reduceLE, Int.reduceAdd, Int.reduceSub, Int.reduceMul, Int.reduceNeg, Int.reduceToNat, Int.cast_ofNat_Int, Int.natCast_zero, Int.natCast_one, Int.toNat_natCast, Nat.reduceBEq, nzs, c1, putT, idS, z3]
  rw [if_neg (fun h => h h1)] at hc
  unfold putG at hc
  have hyl := hy.len_le
  rw [List.length_map] at hyl
  have hl64 : l.length ≤ 64 := by
    unfold bagE at h1
    split at h1
    · cases h1
    · omega
  by_cases h2 : 64 < s.length
  · have c2 : ((64 : Int) < (s.length : Int)) = True := eq_true (by omega)
    rw [if_pos h2] at hc
    subst hc
    simp only [shs, zts, sos, sls, zss, eqs, sx, sb1, sb2, sb3, sb4, sb5, sb6, sb7, ↓reduceIte, Nat.reduceAdd, Nat.reduceMul, Nat.reduceDiv, Nat.reduceEqDiff, Nat.reduceLT, Nat.reduceLeDiff, reduceCtorEq, Int.reduceEq, Int.reduceNe, Int.reduceLT, Int.reduceLE, Int.reduceAdd, Int.reduceSub, Int.reduceMul, Int.reduceNeg, Int.reduceToNat, Int.cast_ofNat_Int, Int.natCast_zero, Int.natCast_one, Int.toNat_natCast, Nat.reduceBEq, nzs, h1, c2, putT, idS, z3]
  have c2 : ((64 : Int) < (s.length : Int)) = False := eq_false (by omega)
  have hs : s.length ≤ maxLen := Nat.le_trans (Nat.le_of_not_lt h2) (by decide)
  rw [if_neg h2] at hc
  simp only [shs, zts, sos, sls, zss, eqs, sx, sb1, sb2, sb3, sb4, sb5, sb6, sb7, ↓reduceIte, Nat.reduceAdd, Nat.reduceMul, Nat.reduceDiv, Nat.reduceEqDiff, Nat.reduceLT, Nat.reduceLeDiff, reduceCtorEq, Int.reduceEq, Int.reduceNe, Int.reduceLT, Int.reduceLE, Int.reduceAdd, Int.reduceSub, Int.reduceMul, Int.reduceNeg, Int.reduceToNat, Int.cast_ofNat_Int, Int.natCast_zero, Int.natCast_one, Int.toNat_natCast, Nat.reduceBEq, nzs, h1, c2]
  refine CallK.own Ctx.id rfl rfl (cloneB y l M hy (by omega)) rfl fun M1 hM1 => ?_
  simp only [shs, zts, sos, sls, zss, eqs, sx, sb1, sb2, sb3, sb4, sb5, sb6, sb7, ↓reduceIte, Nat.reduceAdd, Nat.reduceMul, Nat.reduceDiv, Nat.reduceEqDiff, Nat.reduceLT, Nat.reduceLeDiff, reduceCtorEq, Int.reduceEq, Int.reduceNe, Int.reduceLT, Int.reduceLE, Int.reduceAdd, Int.reduceSub, Int.reduceMul, Int.reduceNeg, Int.reduceToNat, Int.cast_ofNat_Int, Int.natCast_zero, Int.natCast_one, Int.toNat_natCast, Nat.reduceBEq, nzs, hdel, sigDrop, sigDropA]
  refine stepK.mkFn rfl rfl ?_
  simp only [shs, zts, sos, sls, zss, eqs, sx, sb1, sb2, sb3, sb4, sb5, sb6, sb7, ↓reduceIte, Nat.reduceAdd, Nat.reduceMul, Nat.reduceDiv, Nat.reduceEqDiff, Nat.reduceLT, Nat.reduceLeDiff, reduceCtorEq, Int.reduceEq, Int.reduceNe, Int.reduceLT, Int.reduceLE, Int.reduceAdd, Int.reduceSub, Int.reduceMul, Int.reduceNeg, Int.reduceToNat, Int.cast_ofNat_Int, Int.natCast_zero, Int.natCast_one, Int.toNat_natCast, Nat.reduceBEq, nzs]
  refine CallK.pubB (k := 24) rfl rfl fun bb M2 hM2 hb2 => ?_
  simp only [shA1, shA2, shs, zts, sos, sls, zss, eqs, sx, sb1, sb2, sb3, sb4, sb5, sb6, sb7, ↓reduceIte, Nat.reduceAdd, Nat.reduceMul, Nat.reduceDiv, Nat.reduceEqDiff, Nat.reduceLT, Nat.reduceLeDiff, reduceCtorEq, Int.reduceEq, Int.reduceNe, Int.reduceLT, Int.reduceLE, Int.reduceAdd, Int.reduceSub, Int.reduceMul, Int.reduceNeg, Int.reduceToNat, Int.cast_ofNat_Int, Int.natCast_zero, Int.natCast_one, Int.toNat_natCast, Nat.reduceBEq]
  refine CallK.lend (k := 192) rfl rfl rfl (fun _ => rfl) (fun v M3 hM3 hv => idxB4 (α := It) (fun x => .int .i64 x.1) (fun x => .int .i64 x.2.1) (fun x => .string ⟨x.2.2.1.toArray⟩) (fun x => .int .i64 x.2.2.2) (fun x => decide (x.2.2.1 = s)) _ [.v (ptrV bb)] rfl v l M3 hv (fun z _ => putC bb s z M3 (hb2.le hM3))) ?_
  have g0 := hb2.at (j := 0) rfl
  have g0' := hb2.at' (j := 0) rfl
  rw [show fidx (fun x : It => decide (x.2.2.1 = s)) l 0 = txtIx l s from rfl]
  rcases fidx_sp (fun x : It => decide (x.2.2.1 = s)) l 0 with ⟨k1, _⟩ | ⟨j, x, k1, k2, k3, _⟩
  rotate_left
  · rw [Nat.zero_add] at k1
    replace k1 : txtIx l s = (j : Int) := k1
    rw [k1, atI_at k2, Int.toNat_natCast, if_pos (by omega)] at hc
    rw [k1]
    have c3 : ((0 : Int) ≤ (j : Int)) = True := eq_true (by omega)
    have hg := getD_it k2
    have hjl := (List.getElem?_eq_some_iff.1 k2).1
    by_cases h3 : x.2.2.2 = 1000000
    · have c4 := eq_true h3
      rw [if_pos h3] at hc
      subst hc
      simp only [shs, zts, sos, sls, zss, eqs, sx, sb1, sb2, sb3, sb4, sb5, sb6, sb7, ↓reduceIte, Nat.reduceAdd, Nat.reduceMul, Nat.reduceDiv, Nat.reduceEqDiff, Nat.reduceLT, Nat.reduceLeDiff, reduceCtorEq, Int.reduceEq, Int.reduceNe, Int.reduceLT, Int.reduceLE, Int.reduceAdd, Int.reduceSub, Int.reduceMul, Int.reduceNeg, Int.reduceToNat, Int.cast_ofNat_Int, Int.natCast_zero, Int.natCast_one, Int.toNat_natCast, Nat.reduceBEq, nzs, c3, hg, List.getD_cons_zero, List.getD_cons_succ, c4, List.length_map, putT, idS, z3]
      exact ⟨by omega, hjl⟩
    have c4 := eq_false h3
    rw [if_neg h3] at hc
    subst hc
    have hset := setR_map k2 (x.2.2.2 + 1)
    have hg2 := getD_it (setR_at k2 (x.2.2.2 + 1))
    have hln := setR_len l j (x.2.2.2 + 1)
    have hrf := (oneE_ok (bag_ok h1 x (List.mem_of_getElem? k2))).2.2
    simp only [shs, zts, sos, sls, zss, eqs, sx, sb1, sb2, sb3, sb4, sb5, sb6, sb7, ↓reduceIte, Nat.reduceAdd, Nat.reduceMul, Nat.reduceDiv, Nat.reduceEqDiff, Nat.reduceLT, Nat.reduceLeDiff, reduceCtorEq, Int.reduceEq, Int.reduceNe, Int.reduceLT, Int.reduceLE, Int.reduceAdd, Int.reduceSub, Int.reduceMul, Int.reduceNeg, Int.reduceToNat, Int.cast_ofNat_Int, Int.natCast_zero, Int.natCast_one, Int.toNat_natCast, Nat.reduceBEq, nzs, c3, hg, List.getD_cons_zero, List.getD_cons_succ, c4, List.length_map, hset]
    refine ⟨by omega, hjl, by omega, hjl, by simp only [inK, lo, hi]; omega, by omega, hjl, DrawK.tail 13 (by kernel_rfl) (by kernel_rfl) ?_⟩
    simp only [shs, zts, sos, sls, zss, eqs, sx, sb1, sb2, sb3, sb4, sb5, sb6, sb7, ↓reduceIte, Nat.reduceAdd, Nat.reduceMul, Nat.reduceDiv, Nat.reduceEqDiff, Nat.reduceLT, Nat.reduceLeDiff, reduceCtorEq, Int.reduceEq, Int.reduceNe, Int.reduceLT, Int.reduceLE, Int.reduceAdd, Int.reduceSub, Int.reduceMul, Int.reduceNeg, Int.reduceToNat, Int.cast_ofNat_Int, Int.natCast_zero, Int.natCast_one, Int.toNat_natCast, Nat.reduceBEq, nzs, hg2, hln, List.getD_cons_zero, List.getD_cons_succ, List.length_map, putT, idS]
    exact ⟨⟨by omega, by omega⟩, hjl, ⟨by omega, by omega⟩, hjl, .inr ⟨192, rfl, rfl⟩⟩
  · replace k1 : txtIx l s = -1 := k1
    rw [k1, if_neg (by decide)] at hc
    rw [k1]
    by_cases h4 : l.length = 64
    · have c5 : ((l.length : Int) = 64) = True := eq_true (by omega)
      rw [if_pos h4] at hc
      subst hc
      simp only [shs, zts, sos, sls, zss, eqs, sx, sb1, sb2, sb3, sb4, sb5, sb6, sb7, ↓reduceIte, Nat.reduceAdd, Nat.reduceMul, Nat.reduceDiv, Nat.reduceEqDiff, Nat.reduceLT, Nat.reduceLeDiff, reduceCtorEq, Int.reduceEq, Int.reduceNe, Int.reduceLT, Int.reduceLE, Int.reduceAdd, Int.reduceSub, Int.reduceMul, Int.reduceNeg, Int.reduceToNat, Int.cast_ofNat_Int, Int.natCast_zero, Int.natCast_one, Int.toNat_natCast, Nat.reduceBEq, nzs, hy.len, hy.sl, List.length_map, c5, putT, idS, z3]
    have c5 : ((l.length : Int) = 64) = False := eq_false (by omega)
    rw [if_neg h4] at hc
    subst hc
    simp only [shs, zts, sos, sls, zss, eqs, sx, sb1, sb2, sb3, sb4, sb5, sb6, sb7, ↓reduceIte, Nat.reduceAdd, Nat.reduceMul, Nat.reduceDiv, Nat.reduceEqDiff, Nat.reduceLT, Nat.reduceLeDiff, reduceCtorEq, Int.reduceEq, Int.reduceNe, Int.reduceLT, Int.reduceLE, Int.reduceAdd, Int.reduceSub, Int.reduceMul, Int.reduceNeg, Int.reduceToNat, Int.cast_ofNat_Int, Int.natCast_zero, Int.natCast_one, Int.toNat_natCast, Nat.reduceBEq, nzs, hy.len, hy.sl, List.length_map, c5]
    have hrg := sumT_rng s
    have hl63 : l.length ≤ 63 := by omega
    have hy2 := (hy.le hM1).le hM2
    obtain ⟨f1, f2, f3⟩ := freeN_sp hl63 (sumT s)
    refine DrawK.ent (X := Unit) (fun _ => True) (fun _ => ([(0, true, .v y), (3, true, .v (ptrV bb)), (4, true, .v (.slice none 0 0)), (5, true, .ptr 40 0 0 0), (6, true, .v (.int .i64 0)), (8, true, .own 192), (10, true, .ptr 80 0 0 0)], [(80, .box [.v (.int .i64 (sumT s)), .v (.int .i64 0), .v (.string ⟨s.toArray⟩), .v (.int .i64 1)] none), (192, .row 4 (l.map Bg.encT)), (40, .box [.v (.bool false), .v (.int .i64 0), .v (.int .i64 0)] none)], M2)) ?_ ?_
    · refine DrawK.held [] (tk [0, 2] (.two 1 (tk [3] (.one 4 (.one 5 .done))) 4 (.one 1 (tk [3] (.one 5 .done))))) (by kernel_rfl) (by kernel_rfl) fun xs => ?_
      simp only [shs, zts, sos, sls, zss, eqs, sx, sb1, sb2, sb3, sb4, sb5, sb6, sb7, ↓reduceIte, Nat.reduceAdd, Nat.reduceMul, Nat.reduceDiv, Nat.reduceEqDiff, Nat.reduceLT, Nat.reduceLeDiff, reduceCtorEq, Int.reduceEq, Int.reduceNe, Int.reduceLT, Int.reduceLE, Int.reduceAdd, Int.reduceSub, Int.reduceMul, Int.reduceNeg, Int.reduceToNat, Int.cast_ofNat_Int, Int.natCast_zero, Int.natCast_one, Int.toNat_natCast, Nat.reduceBEq, nzs, se1, se2, tks, g0.1, g0.2, SV.val]
      refine ⟨CallK.pure ⟨rfl, rfl⟩ rfl (plainS s M2 hs) ?_, CallK.pure ⟨rfl, rfl⟩ rfl (plainS s M2 hs) ?_⟩
      · simp only [shs, zts, sos, sls, zss, eqs, sx, sb1, sb2, sb3, sb4, sb5, sb6, sb7, ↓reduceIte, Nat.reduceAdd, Nat.reduceMul, Nat.reduceDiv, Nat.reduceEqDiff, Nat.reduceLT, Nat.reduceLeDiff, reduceCtorEq, Int.reduceEq, Int.reduceNe, Int.reduceLT, Int.reduceLE, Int.reduceAdd, Int.reduceSub, Int.reduceMul, Int.reduceNeg, Int.reduceToNat, Int.cast_ofNat_Int, Int.natCast_zero, Int.natCast_one, Int.toNat_natCast, Nat.reduceBEq, nzs, se1, se2, tks, g0.1, g0.2, SV.val]
        first | exact ⟨(), trivial, Ent.heap (HEnt.untie (k := 40) rfl) (Ent.of (by simp only [sx, sb1, sb2, sb3, sb4, sb5, sb6, sb7, ↓reduceIte, Nat.reduceAdd, Nat.reduceMul, Nat.reduceDiv, Nat.reduceEqDiff, Nat.reduceLT, Nat.reduceLeDiff, reduceCtorEq, Int.reduceEq, Int.reduceNe, Int.reduceLT, Int.reduceLE, Int.reduceAdd, Int.reduceSub, Int.reduceMul, Int.reduceNeg, Int.reduceToNat, Int.cast_ofNat_Int, Int.natCast_zero, Int.natCast_one, Int.toNat_natCast, Nat.reduceBEq, hset]))⟩ | exact ⟨(), Ent.heap (HEnt.untie (k := 40) rfl) (Ent.of (by simp only [sx, sb1, sb2, sb3, sb4, sb5, sb6, sb7, ↓reduceIte, Nat.reduceAdd, Nat.reduceMul, Nat.reduceDiv, Nat.reduceEqDiff, Nat.reduceLT, Nat.reduceLeDiff, reduceCtorEq, Int.reduceEq, Int.reduceNe, Int.reduceLT, Int.reduceLE, Int.reduceAdd, Int.reduceSub, Int.reduceMul, Int.reduceNeg, Int.reduceToNat, Int.cast_ofNat_Int, Int.natCast_zero, Int.natCast_one, Int.toNat_natCast, Nat.reduceBEq, hset]))⟩ | exact Ent.heap (HEnt.untie (k := 40) rfl) (Ent.of (by simp only [sx, sb1, sb2, sb3, sb4, sb5, sb6, sb7, ↓reduceIte, Nat.reduceAdd, Nat.reduceMul, Nat.reduceDiv, Nat.reduceEqDiff, Nat.reduceLT, Nat.reduceLeDiff, reduceCtorEq, Int.reduceEq, Int.reduceNe, Int.reduceLT, Int.reduceLE, Int.reduceAdd, Int.reduceSub, Int.reduceMul, Int.reduceNeg, Int.reduceToNat, Int.cast_ofNat_Int, Int.natCast_zero, Int.natCast_one, Int.toNat_natCast, Nat.reduceBEq, hset]))
      · simp only [shs, zts, sos, sls, zss, eqs, sx, sb1, sb2, sb3, sb4, sb5, sb6, sb7, ↓reduceIte, Nat.reduceAdd, Nat.reduceMul, Nat.reduceDiv, Nat.reduceEqDiff, Nat.reduceLT, Nat.reduceLeDiff, reduceCtorEq, Int.reduceEq, Int.reduceNe, Int.reduceLT, Int.reduceLE, Int.reduceAdd, Int.reduceSub, Int.reduceMul, Int.reduceNeg, Int.reduceToNat, Int.cast_ofNat_Int, Int.natCast_zero, Int.natCast_one, Int.toNat_natCast, Nat.reduceBEq, nzs, se1, se2, tks, g0.1, g0.2, SV.val]
        first | exact ⟨(), trivial, Ent.heap (HEnt.untie (k := 40) rfl) (Ent.of (by simp only [sx, sb1, sb2, sb3, sb4, sb5, sb6, sb7, ↓reduceIte, Nat.reduceAdd, Nat.reduceMul, Nat.reduceDiv, Nat.reduceEqDiff, Nat.reduceLT, Nat.reduceLeDiff, reduceCtorEq, Int.reduceEq, Int.reduceNe, Int.reduceLT, Int.reduceLE, Int.reduceAdd, Int.reduceSub, Int.reduceMul, Int.reduceNeg, Int.reduceToNat, Int.cast_ofNat_Int, Int.natCast_zero, Int.natCast_one, Int.toNat_natCast, Nat.reduceBEq, hset]))⟩ | exact ⟨(), Ent.heap (HEnt.untie (k := 40) rfl) (Ent.of (by simp only [sx, sb1, sb2, sb3, sb4, sb5, sb6, sb7, ↓reduceIte, Nat.reduceAdd, Nat.reduceMul, Nat.reduceDiv, Nat.reduceEqDiff, Nat.reduceLT, Nat.reduceLeDiff, reduceCtorEq, Int.reduceEq, Int.reduceNe, Int.reduceLT, Int.reduceLE, Int.reduceAdd, Int.reduceSub, Int.reduceMul, Int.reduceNeg, Int.reduceToNat, Int.cast_ofNat_Int, Int.natCast_zero, Int.natCast_one, Int.toNat_natCast, Nat.reduceBEq, hset]))⟩ | exact Ent.heap (HEnt.untie (k := 40) rfl) (Ent.of (by simp only [sx, sb1, sb2, sb3, sb4, sb5, sb6, sb7, ↓reduceIte, Nat.reduceAdd, Nat.reduceMul, Nat.reduceDiv, Nat.reduceEqDiff, Nat.reduceLT, Nat.reduceLeDiff, reduceCtorEq, Int.reduceEq, Int.reduceNe, Int.reduceLT, Int.reduceLE, Int.reduceAdd, Int.reduceSub, Int.reduceMul, Int.reduceNeg, Int.reduceToNat, Int.cast_ofNat_Int, Int.natCast_zero, Int.natCast_one, Int.toNat_natCast, Nat.reduceBEq, hset]))
    rintro _ _
    simp only [shs, zts, sos, sls, zss, eqs, sx, sb1, sb2, sb3, sb4, sb5, sb6, sb7, ↓reduceIte, Nat.reduceAdd, Nat.reduceMul, Nat.reduceDiv, Nat.reduceEqDiff, Nat.reduceLT, Nat.reduceLeDiff, reduceCtorEq, Int.reduceEq, Int.reduceNe, Int.reduceLT, Int.reduceLE, Int.reduceAdd, Int.reduceSub, Int.reduceMul, Int.reduceNeg, Int.reduceToNat, Int.cast_ofNat_Int, Int.natCast_zero, Int.natCast_one, Int.toNat_natCast, Nat.reduceBEq, nzs]
    refine LoopK.go (X := Nat) (fun n => ([(0, true, .v y), (3, true, .v (ptrV bb)), (4, true, .v (.slice none 0 0)), (5, true, .ptr 40 0 0 0), (6, true, .v (.int .i64 0)), (8, true, .own 192), (10, true, .ptr 80 0 0 0)], [(80, .box [.v (.int .i64 (sumT s)), .v (.int .i64 (n : Int)), .v (.string ⟨s.toArray⟩), .v (.int .i64 1)] none), (192, .row 4 (l.map Bg.encT)), (40, .box [.v (.bool false), .v (.int .i64 0), .v (.int .i64 0)] none)], M2)) (fun n => ∀ m, m < n → has l (sumT s) m = true) (fun n => 65 - n) 0 (fun m hm => by omega) (Ent.of ?_) ?_
    · simp only [sx, sb1, sb2, sb3, sb4, sb5, sb6, sb7, ↓reduceIte, Nat.reduceAdd, Nat.reduceMul, Nat.reduceDiv, Nat.reduceEqDiff, Nat.reduceLT, Nat.reduceLeDiff, reduceCtorEq, Int.reduceEq, Int.reduceNe, Int.reduceLT, Int.reduceLE, Int.reduceAdd, Int.reduceSub, Int.reduceMul, Int.reduceNeg, Int.reduceToNat, Int.cast_ofNat_Int, Int.natCast_zero, Int.natCast_one, Int.toNat_natCast, Nat.reduceBEq, Int.natCast_zero]
    intro n hn
    have hpn := pig (sumT s) n l hn
    have hF := Bg.find y l (true, sumT s, (n : Int)) M2 hy2
    simp only [idV] at hF
    simp only [shs, zts, sos, sls, zss, eqs, sx, sb1, sb2, sb3, sb4, sb5, sb6, sb7, ↓reduceIte, Nat.reduceAdd, Nat.reduceMul, Nat.reduceDiv, Nat.reduceEqDiff, Nat.reduceLT, Nat.reduceLeDiff, reduceCtorEq, Int.reduceEq, Int.reduceNe, Int.reduceLT, Int.reduceLE, Int.reduceAdd, Int.reduceSub, Int.reduceMul, Int.reduceNeg, Int.reduceToNat, Int.cast_ofNat_Int, Int.natCast_zero, Int.natCast_one, Int.toNat_natCast, Nat.reduceBEq, nzs]
    refine CallK.pure ⟨rfl, rfl⟩ rfl hF ?_
    cases hh : has l (sumT s) n with
    | true =>
      have c6 : ((0 : Int) ≤ fidx (isId (true, sumT s, (n : Int))) l 0) = True := eq_true (of_decide_eq_true hh)
      simp only [shs, zts, sos, sls, zss, eqs, sx, sb1, sb2, sb3, sb4, sb5, sb6, sb7, ↓reduceIte, Nat.reduceAdd, Nat.reduceMul, Nat.reduceDiv, Nat.reduceEqDiff, Nat.reduceLT, Nat.reduceLeDiff, reduceCtorEq, Int.reduceEq, Int.reduceNe, Int.reduceLT, Int.reduceLE, Int.reduceAdd, Int.reduceSub, Int.reduceMul, Int.reduceNeg, Int.reduceToNat, Int.cast_ofNat_Int, Int.natCast_zero, Int.natCast_one, Int.toNat_natCast, Nat.reduceBEq, nzs, c6, inK, lo, hi]
      refine ⟨by omega, n + 1, ⟨fun m hm => ?_, by omega⟩, Ent.of ?_⟩
      · rcases Nat.lt_or_ge m n with hm' | hm'
        · exact hn m hm'
        · rw [show m = n by omega]; exact hh
      · simp only [sx, sb1, sb2, sb3, sb4, sb5, sb6, sb7, ↓reduceIte, Nat.reduceAdd, Nat.reduceMul, Nat.reduceDiv, Nat.reduceEqDiff, Nat.reduceLT, Nat.reduceLeDiff, reduceCtorEq, Int.reduceEq, Int.reduceNe, Int.reduceLT, Int.reduceLE, Int.reduceAdd, Int.reduceSub, Int.reduceMul, Int.reduceNeg, Int.reduceToNat, Int.cast_ofNat_Int, Int.natCast_zero, Int.natCast_one, Int.toNat_natCast, Nat.reduceBEq, Int.natCast_add]
    | false =>
      have c6 : ((0 : Int) ≤ fidx (isId (true, sumT s, (n : Int))) l 0) = False := eq_false (of_decide_eq_false hh)
      have hfn := freeN_of hn hh (by omega)
      rw [hfn]
      simp only [shs, zts, sos, sls, zss, eqs, sx, sb1, sb2, sb3, sb4, sb5, sb6, sb7, ↓reduceIte, Nat.reduceAdd, Nat.reduceMul, Nat.reduceDiv, Nat.reduceEqDiff, Nat.reduceLT, Nat.reduceLeDiff, reduceCtorEq, Int.reduceEq, Int.reduceNe, Int.reduceLT, Int.reduceLE, Int.reduceAdd, Int.reduceSub, Int.reduceMul, Int.reduceNeg, Int.reduceToNat, Int.cast_ofNat_Int, Int.natCast_zero, Int.natCast_one, Int.toNat_natCast, Nat.reduceBEq, nzs, c6]
      have hxr : ∀ M', ∀ x ∈ l, Meets Proofs.Try.prog 62 [itV x, itV (sumT s, (n : Int), s, 1)] M' fun r _ _ => r = .v (.int .i64 (cmpT x (sumT s, (n : Int), s, 1))) := fun M' x hx => by
        obtain ⟨q1, q2⟩ := bag_rng h1 x hx
        exact Bg.cmp x (sumT s, (n : Int), s, 1) M' ⟨q1, hrg, q2, by simp only; omega⟩
      refine CallK.lend (k := 192) rfl rfl rfl (fun _ => rfl) (fun v M3 hM3 hv => bsB (α := It) (fun x => .int .i64 x.1) (fun x => .int .i64 x.2.1) (fun x => .string ⟨x.2.2.1.toArray⟩) (fun x => .int .i64 x.2.2.2) (fun x => cmpT x (sumT s, (n : Int), s, 1)) 62 _ _ _ _ v l M3 hv (by omega) ⟨rfl, rfl, rfl, rfl⟩ (fun x hx => hxr M3 x hx) (fun i j a b hij ha hb hc => bag_mono h1 _ i j a b hij ha hb hc)) ?_
      have hbl := bk_le (fun x => cmpT x (sumT s, (n : Int), s, 1)) l
      have hii : insI l (sumT s, (n : Int), s, 1) = l.take (bk (fun x => cmpT x (sumT s, (n : Int), s, 1)) l) ++ (sumT s, (n : Int), s, 1) :: l.drop (bk (fun x => cmpT x (sumT s, (n : Int), s, 1)) l) := rfl
      rw [hii]
      generalize bk (fun x => cmpT x (sumT s, (n : Int), s, 1)) l = bi at *
      generalize bf (fun x => cmpT x (sumT s, (n : Int), s, 1)) l = bF
      simp only [shs, zts, sos, sls, zss, eqs, sx, sb1, sb2, sb3, sb4, sb5, sb6, sb7, ↓reduceIte, Nat.reduceAdd, Nat.reduceMul, Nat.reduceDiv, Nat.reduceEqDiff, Nat.reduceLT, Nat.reduceLeDiff, reduceCtorEq, Int.reduceEq, Int.reduceNe, Int.reduceLT, Int.reduceLE, Int.reduceAdd, Int.reduceSub, Int.reduceMul, Int.reduceNeg, Int.reduceToNat, Int.cast_ofNat_Int, Int.natCast_zero, Int.natCast_one, Int.toNat_natCast, Nat.reduceBEq, nzs]
      refine DrawK.held [80] (tk [0, 1, 2, 5, 7, 6, 8, 9] (.one 3 (.one 4 (tk [10] (.one 11 (tk [12] .done)))))) (by kernel_rfl) (by kernel_rfl) fun xs => ?_
      simp only [shs, zts, sos, sls, zss, eqs, sx, sb1, sb2, sb3, sb4, sb5, sb6, sb7, ↓reduceIte, Nat.reduceAdd, Nat.reduceMul, Nat.reduceDiv, Nat.reduceEqDiff, Nat.reduceLT, Nat.reduceLeDiff, reduceCtorEq, Int.reduceEq, Int.reduceNe, Int.reduceLT, Int.reduceLE, Int.reduceAdd, Int.reduceSub, Int.reduceMul, Int.reduceNeg, Int.reduceToNat, Int.cast_ofNat_Int, Int.natCast_zero, Int.natCast_one, Int.toNat_natCast, Nat.reduceBEq, nzs, se1, se2, tks]
      refine CallK.lendR2 (A := fun s t => [s, .v (.int .i64 bi), t]) 192 688 (fun s t s' t' ν ν' e1 e2 => by simp only [SV.vals, SV.val, e1, e2]) Ctx.id rfl rfl rfl rfl rfl (fun M6 h6 => insertB (l.map Bg.encT) [.int .i64 (sumT s), .int .i64 (n : Int), .string ⟨s.toArray⟩, .int .i64 1] bi M6 (by rw [List.length_map]; exact hbl) (by rw [List.length_map]; omega) (fun e he => by
        obtain ⟨x, hx, rfl⟩ := List.mem_map.1 he
        exact ⟨rfl, oneCell_it x⟩) ⟨rfl, oneCell_it (sumT s, (n : Int), s, 1)⟩) rfl ?_
      simp only [shs, zts, sos, sls, zss, eqs, sx, sb1, sb2, sb3, sb4, sb5, sb6, sb7, ↓reduceIte, Nat.reduceAdd, Nat.reduceMul, Nat.reduceDiv, Nat.reduceEqDiff, Nat.reduceLT, Nat.reduceLeDiff, reduceCtorEq, Int.reduceEq, Int.reduceNe, Int.reduceLT, Int.reduceLE, Int.reduceAdd, Int.reduceSub, Int.reduceMul, Int.reduceNeg, Int.reduceToNat, Int.cast_ofNat_Int, Int.natCast_zero, Int.natCast_one, Int.toNat_natCast, Nat.reduceBEq, nzs, se1, se2, tks, putT, idS]
      refine .inr ⟨696, rfl, ?_⟩
      simp [hget, List.map_take, List.map_drop, Bg.encT]
end Go.X.Bp
