/- Contracts of functions and the logic that they are proved in (8 texts in one). Conditions: none. -/
import Derived.Test.YtoohifeidifocaaGreatMg23
import Derived.Test.YtoohifeidifocaaGreatMg6
import Derived.Test.YtoohifeidifocaaGreatMg16
import Derived.Test.YtoohifeidifocaaGreatMg21
import Derived.Test.YtoohifeidifocaaGreatMg10
import Derived.Test.YtoohifeidifocaaGreatMg5
open Nat renaming reduceAdd → zqa, reduceMul → zqb, reduceDiv → zqc, reduceEqDiff → zqd, reduceLT → zqe, reduceLeDiff → zqf, reduceBEq → zqg
open Int renaming reduceEq → zra, reduceNe → zrb, reduceLT → zrc, reduceLE → zrd, reduceAdd → zre, reduceSub → zrf, reduceMul → zrg, reduceNeg → zrh, reduceToNat → zri, cast_ofNat_Int → zrj, natCast_zero → zrk, natCast_one → zrl, toNat_natCast → zrm
namespace Go.X.Pol
end Go.X.Pol
namespace Go.X.Pl
end Go.X.Pl
namespace Go.X.Rp
end Go.X.Rp
namespace Go.X.Pd
end Go.X.Pd
namespace Go.X.Md
end Go.X.Md
namespace Go.X.Mv
end Go.X.Mv
namespace Go.X.Pt
end Go.X.Pt
namespace Go.X.Tv
end Go.X.Tv
namespace Go.X.Bg
end Go.X.Bg
namespace Go.X.Nm
end Go.X.Nm
namespace Go.X.Bp
end Go.X.Bp
namespace Go.X.Sb
end Go.X.Sb
set_option linter.unusedSimpArgs false
set_option linter.unusedVariables false
set_option maxHeartbeats 4000000
set_option maxRecDepth 20000
namespace Go.X.Ts
open Go Go.X Go.X.Pol Go.X.Pl Go.X.Rp Go.X.Pd Go.X.Md Go.X.Mv Go.X.Pt Go.X.Tv

def upN : Nat → List Nat → List Nat
  | 0, l => l
  | d + 1, l => upN d (upL l)
theorem upN_one (x : Nat) : ∀ d, upN d [x] = [x]
  | 0 => rfl
  | d + 1 => by simp only [upN, upL]; exact upN_one x d
theorem upL_app : ∀ (l1 l2 : List Nat), l1.length % 2 = 0 → upL (l1 ++ l2) = upL l1 ++ upL l2
  | [], l2, _ => by simp [upL]
  | [x], l2, h => by simp at h
  | x :: y :: r, l2, h => by
    simp only [List.cons_append, upL]
    rw [upL_app r l2 (by simp only [List.length_cons] at h; omega)]
theorem upN_app : ∀ (d : Nat) (l1 l2 : List Nat), l1.length = 2 ^ d → upN d (l1 ++ l2) = upN d l1 ++ upN d l2
  | 0, _, _, _ => rfl
  | d + 1, l1, l2, h => by
    have h2 : l1.length = 2 ^ d * 2 := by rw [h, Nat.pow_succ]
    simp only [upN]
    rw [upL_app l1 l2 (by omega), upN_app d _ _ (by rw [upL_len]; omega)]
theorem upN_add (b : Nat) : ∀ (a : Nat) (l : List Nat), upN (a + b) l = upN b (upN a l)
  | 0, l => by rw [Nat.zero_add]; rfl
  | a + 1, l => by
    rw [show a + 1 + b = (a + b) + 1 by omega]
    simp only [upN]
    exact upN_add b a (upL l)
theorem upN_top : ∀ (d : Nat) (l : List Nat), 1 ≤ l.length → l.length ≤ 2 ^ d → ∃ x, upN d l = [x]
  | 0, [x], _, _ => ⟨x, rfl⟩
  | 0, _ :: _ :: _, _, h => by simp at h
  | d + 1, l, h1, h2 => by
    have h3 := upL_len l
    rw [Nat.pow_succ] at h2
    simp only [upN]
    exact upN_top d (upL l) (by omega) (by omega)
def topV (l : List Nat) : Nat := (upN 5 l).headD 0
theorem upN_topV {d : Nat} {l : List Nat} (h1 : 1 ≤ l.length) (h2 : l.length ≤ 2 ^ d) (hd : d ≤ 5) : upN d l = [topV l] := by
  obtain ⟨x, hx⟩ := upN_top d l h1 h2
  have : upN 5 l = [x] := by
    rw [show 5 = d + (5 - d) by omega, upN_add, hx, upN_one]
  rw [hx, topV, this]
  rfl
end Go.X.Ts

namespace Go.X.Ts
open Go Go.X Go.X.Pol Go.X.Pl Go.X.Rp Go.X.Pd Go.X.Md Go.X.Mv Go.X.Pt Go.X.Tv

theorem Levs.get {v : Value} {ls : List (List Nat)} {M : Mem} (h : Levs v ls M) {i : Nat} {lv : List Nat} (hi : ls[i]? = some lv) : ∃ u, (elE M v 1 i 0 = u ∧ okE M v 1 i 0) ∧ RowM M u 1 (lv.map encN) := by
  obtain ⟨ps, h1, h2, rfl⟩ := h
  rw [List.getElem?_map, Option.map_eq_some_iff] at hi
  obtain ⟨p, hp, rfl⟩ := hi
  exact ⟨p.1, h1.el1 hp rfl, h2 p (List.mem_of_getElem? hp)⟩
theorem Levs.len {v : Value} {ls : List (List Nat)} {M : Mem} (h : Levs v ls M) : lenV v = ls.length ∧ isSl v = true := by
  obtain ⟨ps, h1, h2, rfl⟩ := h
  exact ⟨by rw [h1.len, List.length_map, List.length_map], h1.sl⟩
theorem Levs.ix {v : Value} {ls : List (List Nat)} {M : Mem} (h : Levs v ls M) {i : Int} (h0 : 0 ≤ i) (h1 : i < ls.length) : ixOk v i := by
  obtain ⟨ps, h2, _, rfl⟩ := h
  exact h2.ix h0 (by rw [List.length_map] at h1 ⊢; exact h1)

end Go.X.Ts

namespace Go.X.Ts
open Go Go.X Go.X.Pol Go.X.Pl Go.X.Rp Go.X.Pd Go.X.Md Go.X.Mv Go.X.Pt Go.X.Tv

def blk {α : Type} (l : List α) (d i : Nat) : List α := (l.drop (i * 2 ^ d)).take (2 ^ d)
theorem upN_get {d : Nat} (hd : d ≤ 5) : ∀ (i : Nat) (l : List Nat), i * 2 ^ d < l.length → (upN d l)[i]? = some (topV (blk l d i))
  | i, l, h => by
    have hp := Nat.two_pow_pos d
    by_cases hl : l.length ≤ 2 ^ d
    · have e0 : i = 0 := by
        rcases Nat.eq_zero_or_pos i with h0 | h0
        · exact h0
        · have := Nat.mul_le_mul_right (2 ^ d) h0
          omega
      subst e0
      rw [upN_topV (d := d) (by omega) hl hd]
      simp only [blk, Nat.zero_mul, List.drop_zero]
      rw [List.take_of_length_le hl]
      rfl
    · have e : l = l.take (2 ^ d) ++ l.drop (2 ^ d) := (List.take_append_drop _ _).symm
      have ht : (l.take (2 ^ d)).length = 2 ^ d := by rw [List.length_take]; omega
      have hU : upN d l = topV (l.take (2 ^ d)) :: upN d (l.drop (2 ^ d)) := by
        conv => lhs; rw [e]
        rw [upN_app d _ _ ht, upN_topV (d := d) (l := l.take (2 ^ d)) (by omega) (by omega) hd]
        rfl
      rw [hU]
      cases i with
      | zero => simp only [blk, Nat.zero_mul, List.drop_zero, List.getElem?_cons_zero]
      | succ i =>
        rw [List.getElem?_cons_succ, upN_get hd i _ (by rw [List.length_drop]; rw [Nat.add_mul] at h; omega)]
        simp only [blk, List.drop_drop]
        rw [show 2 ^ d + i * 2 ^ d = (i + 1) * 2 ^ d by rw [Nat.add_mul]; omega]
def tpN : Nat → Nat → Nat
  | 0, _ => 0
  | f + 1, n => if 1 < n then tpN f ((n + 1) / 2) + 1 else 0
theorem levs_len : ∀ (f : Nat) (l : List Nat), (levs f l).length = tpN f l.length + 1
  | 0, l => rfl
  | f + 1, l => by
    simp only [levs, tpN]
    split
    · rw [List.length_cons, levs_len f, upL_len]
    · rfl
theorem levs_get : ∀ (f : Nat) (l : List Nat) (d : Nat), d ≤ tpN f l.length → (levs f l)[d]? = some (upN d l)
  | 0, l, d, h => by
    simp only [tpN, Nat.le_zero_eq] at h
    subst h
    rfl
  | f + 1, l, d, h => by
    simp only [levs, tpN] at h ⊢
    split at h
    · rename_i h1
      rw [if_pos h1]
      cases d with
      | zero => rfl
      | succ d =>
        rw [List.getElem?_cons_succ, levs_get f (upL l) d (by rw [upL_len]; omega)]
        rfl
    · rename_i h1
      have : d = 0 := by omega
      subst this
      rw [if_neg h1]
      rfl
/-! ### Clash -/
end Go.X.Ts

namespace Go.X.Ts
open Go Go.X Go.X.Pol Go.X.Pl Go.X.Rp Go.X.Pd Go.X.Md Go.X.Mv Go.X.Pt Go.X.Tv

/-- a level, and a place in it -/
theorem Levs.at {v : Value} {l : List Nat} {M : Mem} (h : Levs v (levs 32 l) M) {d i : Nat} (hd : d ≤ tpN 32 l.length) (h5 : d ≤ 5) (hi : i * 2 ^ d < l.length) :
    ∃ u, (elE M v 1 d 0 = u ∧ okE M v 1 d 0) ∧ (lenV u = (upN d l).length ∧ isSl u = true) ∧ (∀ d' : Int, d' = d → ixOk v d') ∧ (elE M u 1 i 0 = .int .i64 (topV (blk l d i) : Int) ∧ okE M u 1 i 0) ∧ (∀ i' : Int, i' = i → ixOk u i') := by
  have hL := levs_len 32 l
  obtain ⟨u, h1, h2⟩ := h.get (levs_get 32 l d hd)
  have hg := upN_get h5 i l hi
  refine ⟨u, h1, ⟨by rw [h2.len, List.length_map], h2.sl⟩, fun d' e => h.ix (by omega) (by omega), h2.el1 hg rfl, fun i' e => h2.ix (by omega) (by rw [List.length_map]; have := (List.getElem?_eq_some_iff.1 hg).1; omega)⟩
theorem Levs.le {v : Value} {ls : List (List Nat)} {M M' : Mem} (h : Levs v ls M) (hle : M.le M') : Levs v ls M' := by
  obtain ⟨ps, h1, h2, h3⟩ := h
  exact ⟨ps, h1.le hle, h2.le hle, h3⟩
end Go.X.Ts

namespace Go.X.Vo
open Go Go.X Go.RowKit Go.X.Bg Go.X.Nm Go.X.Bp Go.X.Sb

/-- the places where two lists of ids differ -/
def dfL (x y : List Id3) (n : Nat) : List Nat := (List.range n).filter fun i => !decide (x[i]? = y[i]?)
def diffE (bag : List It) (l : List Vol) (a b : Txt) : Int := if blkE bag l a ≠ 0 then blkE bag l a else if blkE bag l b ≠ 0 then blkE bag l b else if (blks l a).length ≠ (blks l b).length then 11 else 0
def diffL (bag : List It) (l : List Vol) (a b : Txt) : List Nat := if diffE bag l a b = 0 then dfL (blks l a) (blks l b) (blks l a).length else []
/-! ### copies -/
def cpS (x : List Id3) (n m : Txt) : List Int → St → St × Int
  | [], A => (A, 0)
  | i :: r, A =>
    if i < 0 ∨ (x.length : Int) ≤ i then (zSt, 1) else
    if (if ((x[i.toNat]?).getD hole).1 = true then writeA A.1 A.2 m i (rdS A.1 A.2 n i) else trimA A.1 A.2 m i).2 ≠ 0 then (zSt, (if ((x[i.toNat]?).getD hole).1 = true then writeA A.1 A.2 m i (rdS A.1 A.2 n i) else trimA A.1 A.2 m i).2) else
    cpS x n m r (if ((x[i.toNat]?).getD hole).1 = true then writeA A.1 A.2 m i (rdS A.1 A.2 n i) else trimA A.1 A.2 m i).1
def cpA (bag : List It) (l : List Vol) (n m : Txt) (at' : List Int) : St × Int :=
  if blkE bag l n ≠ 0 then (zSt, blkE bag l n) else if blkE bag l m ≠ 0 then (zSt, blkE bag l m) else cpS (blks l n) n m at' (bag, l)
end Go.X.Vo

namespace Go.X.Vo
open Go Go.X Go.RowKit Go.X.Bg Go.X.Nm Go.X.Bp Go.X.Sb

/-! ### how many volumes -/
/-! ### a text that lies in another volume can be written -/
theorem ref_small {A : St} (hA : stE A.1 A.2 = 0) {x : It} (hx : x ∈ A.1) : x.2.2.2 ≤ 192 := by
  have hr := rt_of hA
  have h1 := hr.cnt (kOf x)
  unfold refK at h1
  rw [itK_at (dk_of hr.ok) hx] at h1
  have h2 : (idsOf A.2).count (true, kOf x) ≤ (idsOf A.2).length := List.count_le_length
  have h3 := idsOf_len hr.len (fun v hv => (hr.vol v hv).1)
  have h4 : (((idsOf A.2).count (true, kOf x) : Nat) : Int) = x.2.2.2 := h1
  omega
theorem put_ok {A : St} (hA : stE A.1 A.2 = 0) {s : Txt} (hs : inBag A s) : (putG A.1 s).2.2 = 0 := by
  obtain ⟨z, hz, e⟩ := hs
  have hb := (stE_ok hA).1
  have ho := (oneE_ok (bag_ok hb z hz)).1.1
  rw [e] at ho
  unfold putG
  rw [if_neg (by omega)]
  rcases txtIx_cases A.1 s with ⟨_, k2⟩ | ⟨j, x, k1, k2, k3⟩
  · exact absurd e (k2 z hz)
  · have hr := ref_small hA (List.mem_of_getElem? k2)
    rw [k1, if_pos (by omega), atI_at k2, if_neg (by omega)]
theorem write_ok {A : St} {n m s : Txt} {X Y : List (Option Txt)} {j i : Nat} (hA : stE A.1 A.2 = 0) (hX : lookV A n = some X) (hj : j < X.length) (hY : lookV A m = some Y) (hi : Y[i]? = some (some s)) (hne : m ≠ n) : (writeA A.1 A.2 n (j : Int) s).2 = 0 := by
  have ht := trimA_ok (bag := A.1) (l := A.2) hA hX hj
  have hr := trimA_right A.1 A.2 n (j : Int)
  obtain ⟨X', hX', _, hlk⟩ := look_trimA ht
  have hm := hlk m
  rw [if_neg hne] at hm
  have hin := look_bag hr (hm.trans hY) hi
  have hp := put_ok hr hin
  have hpl := pl_look (bag := A.1) (l := A.2) hA hX hj
  unfold trimA at hp
  rw [if_neg (fun h => h hpl)] at hp
  unfold writeA
  rw [if_neg (fun h => h hpl)]
  unfold writeS
  have e : (trimS A.1 A.2 (volIx A.2 n).toNat (j : Int).toNat).1 = lessId A.1 (idAt A.2 (volIx A.2 n).toNat (j : Int).toNat) := rfl
  rw [e] at hp
  rw [if_neg (fun h => h hp)]
/-! ### copied back -/
def inA : Txt := [97]
def inB : Txt := [98]
def keepP (xs : List Id3) (P : List Txt) : Prop := xs.length = P.length ∧ ∀ (k : Nat) (id : Id3), xs[k]? = some id → id.1 = true
theorem cp_sp (xs : List Id3) (P : List Txt) (hxs : keepP xs P) : ∀ (D : List Nat) (A : St) (Y : List Txt), (∀ k ∈ D, k < P.length) → stE A.1 A.2 = 0 → lookV A inA = some (P.map some) → lookV A inB = some (Y.map some) → Y.length = P.length →
    ∃ (B : St) (Z : List Txt), cpS xs inA inB (D.map fun k : Nat => (k : Int)) A = (B, 0) ∧ stE B.1 B.2 = 0 ∧ lookV B inA = some (P.map some) ∧ lookV B inB = some (Z.map some) ∧ Z.length = P.length ∧ ∀ k, (k ∈ D → Z[k]? = P[k]?) ∧ (k ∉ D → Z[k]? = Y[k]? ∨ Z[k]? = P[k]?)
  | [], A, Y, _, hA, h1, h2, h3 => ⟨A, Y, rfl, hA, h1, h2, h3, fun k => ⟨(fun h => by cases h), fun _ => .inl rfl⟩⟩
  | k :: D, A, Y, hD, hA, h1, h2, h3 => by
    have hk := hD k (by simp)
    obtain ⟨id, hid⟩ : ∃ id, xs[k]? = some id := ⟨_, List.getElem?_eq_getElem (by rw [hxs.1]; exact hk)⟩
    obtain ⟨p, hp⟩ : ∃ p, P[k]? = some p := ⟨_, List.getElem?_eq_getElem hk⟩
    have his := hxs.2 k id hid
    have hPk : (P.map some)[k]? = some (some p) := by rw [List.getElem?_map, hp]; rfl
    have hrd := rd_look (bag := A.1) (l := A.2) hA h1 hPk
    have hw := write_ok (n := inB) (m := inA) (s := p) hA h2 (j := k) (by rw [List.length_map]; omega) h1 hPk (by decide)
    have hwr := writeA_right A.1 A.2 inB (k : Int) p
    obtain ⟨X', hX', _, hlk⟩ := look_writeA hw
    have hX2 : lookV A inB = some X' := hX'
    rw [h2] at hX2
    cases hX2
    have hA1 := hlk inA
    rw [if_neg (by decide)] at hA1
    have hA2 := hlk inB
    rw [if_pos rfl] at hA2
    have hset : (Y.map some).set k (some p) = (Y.set k p).map some := by rw [List.map_set]
    rw [hset] at hA2
    obtain ⟨B, Z, e1, e2, e3, e4, e5, e6⟩ := cp_sp xs P hxs D _ (Y.set k p) (fun q hq => hD q (by simp [hq])) hwr (hA1.trans h1) hA2 (by rw [List.length_set]; exact h3)
    refine ⟨B, Z, ?_, e2, e3, e4, e5, fun q => ⟨fun hq => ?_, fun hq => ?_⟩⟩
    · rw [List.map_cons, cpS, if_neg (by rw [hxs.1]; omega), zrm, hid, Option.getD_some, if_pos his, hrd, Option.getD_some, if_neg (fun h => h hw)]
      exact e1
    · by_cases hqD : q ∈ D
      · exact (e6 q).1 hqD
      · have hqk : q = k := by
          rcases List.mem_cons.1 hq with h | h
          · exact h
          · exact absurd h hqD
        subst hqk
        rcases (e6 q).2 hqD with h | h
        · rw [h, List.getElem?_set_self (by omega), hp]
        · exact h
    · have hqD : q ∉ D := fun h => hq (by simp [h])
      have hqk : k ≠ q := fun e => hq (by simp [e])
      rcases (e6 q).2 hqD with h | h
      · left; rw [h, List.getElem?_set_ne hqk]
      · exact .inr h
theorem dfL_mem {x y : List Id3} {n k : Nat} : k ∈ dfL x y n ↔ k < n ∧ x[k]? ≠ y[k]? := by
  unfold dfL
  rw [List.mem_filter, List.mem_range]
  simp
/-- a written clone -/
structure Bk (A : St) (P Y : List Txt) : Prop where
  ok : stE A.1 A.2 = 0
  a : lookV A inA = some (P.map some)
  b : lookV A inB = some (Y.map some)
  len : Y.length = P.length
theorem Bk.write {A : St} {P Y : List Txt} (h : Bk A P Y) {j : Nat} {t : Txt} (hw : (writeA A.1 A.2 inB (j : Int) t).2 = 0) : ∃ Y', Bk (writeA A.1 A.2 inB (j : Int) t).1 P Y' := by
  obtain ⟨X', hX', _, hlk⟩ := look_writeA hw
  have hX2 : lookV A inB = some X' := hX'
  rw [h.b] at hX2
  cases hX2
  have h1 := hlk inA
  rw [if_neg (by decide)] at h1
  have h2 := hlk inB
  rw [if_pos rfl, show (Y.map some).set j (some t) = (Y.set j t).map some by rw [List.map_set]] at h2
  exact ⟨Y.set j t, writeA_right _ _ _ _ _, h1.trans h.a, h2, by rw [List.length_set]; exact h.len⟩
theorem blks_look {A : St} {n : Txt} {X : List (Option Txt)} (h : lookV A n = some X) : ¬ volIx A.2 n < 0 ∧ (blks A.2 n).map (obs A.1) = X := by
  obtain ⟨i, x, e, hx, _, hX⟩ := look_some h
  exact ⟨by rw [e]; omega, by rw [blks_at e hx]; exact hX⟩
theorem Bk.back {A : St} {P Y : List Txt} (h : Bk A P Y) : diffE A.1 A.2 inA inB = 0 ∧ (∀ k, P[k]? ≠ Y[k]? → k ∈ diffL A.1 A.2 inA inB) ∧
    ∃ B, cpA A.1 A.2 inA inB ((diffL A.1 A.2 inA inB).map fun k : Nat => (k : Int)) = (B, 0) ∧ stE B.1 B.2 = 0 ∧ lookV B inA = some (P.map some) ∧ lookV B inB = some (P.map some) := by
  obtain ⟨a1, a2⟩ := blks_look h.a
  obtain ⟨b1, b2⟩ := blks_look h.b
  have q1 : blkE A.1 A.2 inA = 0 := by unfold blkE; rw [if_neg (fun h' => h' h.ok), if_neg a1]
  have q2 : blkE A.1 A.2 inB = 0 := by unfold blkE; rw [if_neg (fun h' => h' h.ok), if_neg b1]
  have l1 : (blks A.2 inA).length = P.length := by have := congrArg List.length a2; rwa [List.length_map, List.length_map] at this
  have l2 : (blks A.2 inB).length = Y.length := by have := congrArg List.length b2; rwa [List.length_map, List.length_map] at this
  have hE : diffE A.1 A.2 inA inB = 0 := by
    unfold diffE
    rw [if_neg (fun h' => h' q1), if_neg (fun h' => h' q2), if_neg (by rw [l1, l2, h.len]; exact fun h => h rfl)]
  have hL : diffL A.1 A.2 inA inB = dfL (blks A.2 inA) (blks A.2 inB) P.length := by
    unfold diffL
    rw [if_pos hE, l1]
  have hab : ∀ k, (blks A.2 inA)[k]? = (blks A.2 inB)[k]? → P[k]? = Y[k]? := fun k e => by
    have e2 := congrArg (fun o => o.map (obs A.1)) e
    rw [← List.getElem?_map, ← List.getElem?_map, a2, b2] at e2
    rw [List.getElem?_map, List.getElem?_map] at e2
    cases hp : P[k]? <;> cases hy : Y[k]? <;> rw [hp, hy] at e2 <;> simp_all
  have hkp : keepP (blks A.2 inA) P := ⟨l1, fun k id hid => by
    have e := congrArg (fun l => l[k]?) a2
    simp only [List.getElem?_map, hid, Option.map_some] at e
    cases hp : P[k]? with
    | none => rw [hp] at e; cases e
    | some p =>
      rw [hp] at e
      simp only [Option.map_some, Option.some.injEq] at e
      unfold obs at e
      by_cases h1 : id.1 = true
      · exact h1
      · rw [if_neg h1] at e; cases e⟩
  have hDn : ∀ k ∈ diffL A.1 A.2 inA inB, k < P.length := fun k hk => by
    rw [hL] at hk
    exact (dfL_mem.1 hk).1
  obtain ⟨B, Z, e1, e2, e3, e4, e5, e6⟩ := cp_sp _ P hkp (diffL A.1 A.2 inA inB) A Y hDn h.ok h.a h.b h.len
  refine ⟨hE, fun k hk => ?_, B, ?_, e2, e3, ?_⟩
  · rw [hL, dfL_mem]
    have hkl : k < P.length := by
      rcases Nat.lt_or_ge k P.length with h1 | h1
      · exact h1
      · refine absurd ?_ hk
        rw [List.getElem?_eq_none h1, List.getElem?_eq_none (by rw [h.len]; exact h1)]
    exact ⟨hkl, fun e => hk (hab k e)⟩
  · unfold cpA
    rw [if_neg (fun h' => h' q1), if_neg (fun h' => h' q2)]
    exact e1
  · have : Z = P := by
      apply List.ext_getElem?
      intro k
      by_cases hk : k ∈ diffL A.1 A.2 inA inB
      · exact (e6 k).1 hk
      · rcases (e6 k).2 hk with h1 | h1
        · rw [h1]
          rw [hL, dfL_mem] at hk
          by_cases hkl : k < P.length
          · have : (blks A.2 inA)[k]? = (blks A.2 inB)[k]? := Decidable.of_not_not fun hn => hk ⟨hkl, hn⟩
            exact (hab k this).symm
          · rw [List.getElem?_eq_none (by rw [h.len]; omega), List.getElem?_eq_none (by omega)]
        · exact h1
    rw [e4, this]
end Go.X.Vo

namespace Go.X.Vo
open Go Go.X Go.RowKit Go.X.Bg Go.X.Nm Go.X.Bp Go.X.Sb

theorem begunW (M : Mem) : Meets Proofs.Tryz.prog 5 [] M fun r _ _ => r = .v (.bool true) := by
  refine Meets.of_body [0,1,2] Proofs.Tryz.func5 rfl (by kernel_rfl) rfl fun w => ?_
  have hM := Pl.Mul 3 3 M (by decide) (by decide)
  rw [show Pl.mulV 3 3 = .tup [.v (.int .i64 5), .v (.int .i64 0)] by unfold Pl.mulV; rw [show Pol.mulp 3 3 = 5 by decide +kernel]; rfl] at hM
  simp only [Proofs.Tryz.f5, shs, zts, sos, sls, zss, eqs, sx, sb1, sb2, sb3, sb4, sb5, sb6, sb7, ↓reduceIte, zqa, zqb, zqc, zqd, zqe, zqf, reduceCtorEq, zra, zrb, zrc, zrd, zre, zrf, zrg, zrh, zri, zrj, zrk, zrl, zrm, zqg, nzs]
  refine CallK.pure ⟨rfl, rfl⟩ rfl hM ?_
  simp only [shs, zts, sos, sls, zss, eqs, sx, sb1, sb2, sb3, sb4, sb5, sb6, sb7, ↓reduceIte, zqa, zqb, zqc, zqd, zqe, zqf, reduceCtorEq, zra, zrb, zrc, zrd, zre, zrf, zrg, zrh, zri, zrj, zrk, zrl, zrm, zqg, nzs]
end Go.X.Vo

namespace Go.X.Vo
open Go Go.X Go.RowKit Go.X.Bg Go.X.Nm Go.X.Bp Go.X.Sb

theorem wrapU' (a : Int) : ∃ u : Nat, IntKind.u64.wrap a = (u : Int) ∧ u < 18446744073709551616 := by
  have h : IntKind.u64.wrap a = a % 18446744073709551616 := by simp [IntKind.wrap, IntKind.bits, IntKind.signed]
  refine ⟨(a % 18446744073709551616).toNat, ?_, ?_⟩
  · rw [h]
    omega
  · omega
theorem withinK (a : Int) (n : Nat) (h1 : 1 ≤ n) (h2 : n ≤ 4096) : ∃ k : Nat, k < n ∧ ∀ M : Mem, Meets Proofs.Tryz.prog 9 [.v (.int .i64 a), .v (.int .i64 n)] M fun r _ _ => r = .v (.int .i64 (k : Int)) := by
  obtain ⟨u, hu, hlt⟩ := wrapU' a
  refine ⟨u % n, Nat.mod_lt _ (by omega), fun M => ?_⟩
  refine Meets.of_body [0,1,4] Proofs.Tryz.func9 rfl (by kernel_rfl) rfl fun w => ?_
  have e1 : (u : Int).tmod (n : Int) = ((u % n : Nat) : Int) := (Int.ofNat_tmod u n).symm
  have e2 : IntKind.u64.wrap (n : Int) = (n : Int) := Pl.uw (a := n) (by omega)
  have hm := Nat.mod_lt u (show n > 0 by omega)
  have c0 : ((n : Int) = 0) = False := eq_false (by omega)
  simp only [Proofs.Tryz.f9, shs, zts, sos, sls, zss, eqs, sx, sb1, sb2, sb3, sb4, sb5, sb6, sb7, ↓reduceIte, zqa, zqb, zqc, zqd, zqe, zqf, reduceCtorEq, zra, zrb, zrc, zrd, zre, zrf, zrg, zrh, zri, zrj, zrk, zrl, zrm, zqg, nzs, hu, e1, e2, Pl.iw (show u % n < 9223372036854775808 by omega), c0]
  omega
end Go.X.Vo

