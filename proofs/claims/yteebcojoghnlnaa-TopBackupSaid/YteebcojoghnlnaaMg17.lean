/- Contracts of functions and the logic that they are proved in (2 texts in one). Conditions: none. -/
import Derived.Test.YteebcojoghnlnaaMg12
import Derived.Test.YteebcojoghnlnaaMg16
import Derived.Test.YteebcojoghnlnaaMg5
namespace Go.X.Bg
end Go.X.Bg
namespace Go.X.Nm
end Go.X.Nm
namespace Go.X.Bp
end Go.X.Bp
namespace Go.X.Sb
end Go.X.Sb
set_option linter.unusedSimpArgs false
set_option linter.unusedVariables false
set_option maxHeartbeats 4000000
set_option maxRecDepth 20000
namespace Go.X.Vo
open Go Go.X Go.RowKit Go.X.Bg Go.X.Nm Go.X.Bp Go.X.Sb

theorem insertV (es : List (List Value)) (x : List Value) (i : Nat) (M : Mem) (hin : i ≤ es.length) (hb : es.length ≤ 1000000) (hes : ∀ e ∈ es, e.length = 2 ∧ ∀ c ∈ e, c.oneCell' = true) (hx : x.length = 2 ∧ ∀ c ∈ x, c.oneCell' = true) :
    MeetsH Proofs.Try.prog 81 [.own 8000, .v (.int .i64 i), .own 8008] [(8000, .row 2 es), (8008, .row 2 [x])] M (OwnR (fun s => s) 2 (es.take i ++ x :: es.drop i)) := by
  refine MeetsH.closeR Ctx.id (fun e he => ?_) ?_
  · rcases List.mem_append.1 he with he | he
    · exact hes e (List.mem_of_mem_take he)
    · rcases List.mem_cons.1 he with rfl | he
      · exact hx
      · exact hes e (List.mem_of_mem_drop he)
  refine MeetsH.of_bodyS Proofs.Try.func81 rfl (by kernel_rfl) fun w M0 => ?_
  refine CodeK.openRow (k := 8000) 1002 rfl (fun _ => rfl) (fun he => ?_) (fun b cap sp h1 h2 => ?_)
  · subst he
    have e1 : i = 0 := by simpa using hin
    subst e1
    refine CodeK.ofW (live := [0,1,2,6,7,8,9,16,22,31,68]) ?_
    simp only [Proofs.Try.f81, shs, zts, sos, sls, zss, eqs, sx, sb1, sb2, sb3, sb4, sb5, sb6, sb7, ↓reduceIte, Nat.reduceAdd, Nat.reduceMul, Nat.reduceDiv, Nat.reduceEqDiff, Nat.reduceLT, Nat.reduceLeDiff, reduceCtorEq, Int.reduceEq, Int.reduceNe, Int.reduceLT, Int.reduceLE, Int.reduceAdd, Int.reduceSub, Int.reduceMul, Int.reduceNeg, Int.reduceToNat, Int.cast_ofNat_Int, Int.natCast_zero, Int.natCast_one, Int.toNat_natCast, Nat.reduceBEq, sp1, sp2, sp3, nzs, lenV, capV, isSl]
    exact .inr ⟨200, rfl, rfl⟩
  refine CodeK.ofW (live := [0,1,2,6,7,8,9,16,22,31,68]) ?_
  have hm : (cap : Int) ≤ 9223372036854775807 := by have := h1.2.1; simp only [maxLen] at this; omega
  by_cases hn : i = es.length
  · have c1 : ((i : Int) = (es.length : Int)) = True := eq_true (by omega)
    simp only [Proofs.Try.f81, shs, zts, sos, sls, zss, eqs, sx, sb1, sb2, sb3, sb4, sb5, sb6, sb7, ↓reduceIte, Nat.reduceAdd, Nat.reduceMul, Nat.reduceDiv, Nat.reduceEqDiff, Nat.reduceLT, Nat.reduceLeDiff, reduceCtorEq, Int.reduceEq, Int.reduceNe, Int.reduceLT, Int.reduceLE, Int.reduceAdd, Int.reduceSub, Int.reduceMul, Int.reduceNeg, Int.reduceToNat, Int.cast_ofNat_Int, Int.natCast_zero, Int.natCast_one, Int.toNat_natCast, Nat.reduceBEq, sp1, sp2, sp3, nzs, lenV, capV, isSl, c1]
    refine ⟨⟨⟨by omega, by omega⟩, by omega⟩, show OpK _ _ _ _ _ _ from OpK.reown (es := es) (sp := sp) (cap := cap) (b := b) 23 8016 1003 rfl rfl rfl h1 h2 rfl (OpK.step ?_)⟩
    simp only [shs, zts, sos, sls, zss, eqs, sx, sb1, sb2, sb3, sb4, sb5, sb6, sb7, ↓reduceIte, Nat.reduceAdd, Nat.reduceMul, Nat.reduceDiv, Nat.reduceEqDiff, Nat.reduceLT, Nat.reduceLeDiff, reduceCtorEq, Int.reduceEq, Int.reduceNe, Int.reduceLT, Int.reduceLE, Int.reduceAdd, Int.reduceSub, Int.reduceMul, Int.reduceNeg, Int.reduceToNat, Int.cast_ofNat_Int, Int.natCast_zero, Int.natCast_one, Int.toNat_natCast, Nat.reduceBEq, sp1, sp2, sp3, nzs]
    refine ⟨⟨by omega, by omega⟩, .inr ⟨200, rfl, ?_⟩⟩
    simp [hn]
  have c1 : ((i : Int) = (es.length : Int)) = False := eq_false (by omega)
  have hlen : ∀ e ∈ es, e.length = 2 := fun e he => (hes e he).1
  have hfl := flatten_len hlen
  have hft := flatten_len (fun e he => hlen e (List.mem_of_mem_take (i := i) he))
  have hfd := flatten_len (fun e he => hlen e (List.mem_of_mem_drop (i := i) he))
  rw [List.length_take, Nat.min_eq_left hin] at hft
  rw [List.length_drop] at hfd
  have hol : ∀ u ∈ (es.drop i).flatten, u.oneCell' = true := fun u hu => by
    obtain ⟨e, he, hu⟩ := List.mem_flatten.1 hu
    exact (hes e (List.mem_of_mem_drop he)).2 u hu
  have htl : es.flatten.take (i * 2) = (es.take i).flatten := flat_take hlen i
  have hdl : es.flatten.drop (i * 2) = (es.drop i).flatten := flat_drop hlen i
  by_cases hr : es.length + 1 > cap
  · have c2 : ((cap : Int) < (es.length : Int) + 1) = True := eq_true (by omega)
    simp only [Proofs.Try.f81, shs, zts, sos, sls, zss, eqs, sx, sb1, sb2, sb3, sb4, sb5, sb6, sb7, ↓reduceIte, Nat.reduceAdd, Nat.reduceMul, Nat.reduceDiv, Nat.reduceEqDiff, Nat.reduceLT, Nat.reduceLeDiff, reduceCtorEq, Int.reduceEq, Int.reduceNe, Int.reduceLT, Int.reduceLE, Int.reduceAdd, Int.reduceSub, Int.reduceMul, Int.reduceNeg, Int.reduceToNat, Int.cast_ofNat_Int, Int.natCast_zero, Int.natCast_one, Int.toNat_natCast, Nat.reduceBEq, sp1, sp2, sp3, nzs, lenV, capV, isSl, c1, inK, lo, hi]
    refine ⟨⟨⟨by omega, by omega⟩, by omega⟩, ⟨by omega, by omega⟩, ⟨rfl, OpK.cap (e := 71) rfl rfl rfl (by kernel_rfl) rfl rfl ?_⟩⟩
    simp only [shs, zts, sos, sls, zss, eqs, sx, sb1, sb2, sb3, sb4, sb5, sb6, sb7, ↓reduceIte, Nat.reduceAdd, Nat.reduceMul, Nat.reduceDiv, Nat.reduceEqDiff, Nat.reduceLT, Nat.reduceLeDiff, reduceCtorEq, Int.reduceEq, Int.reduceNe, Int.reduceLT, Int.reduceLE, Int.reduceAdd, Int.reduceSub, Int.reduceMul, Int.reduceNeg, Int.reduceToNat, Int.cast_ofNat_Int, Int.natCast_zero, Int.natCast_one, Int.toNat_natCast, Nat.reduceBEq, sp1, sp2, sp3, nzs, lenV, capV, isSl, c1, c2, inK, lo, hi, subV_open0]
    have em : (es.length : Int) + 1 - (i : Int) = ((es.length + 1 - i : Nat) : Int) := by omega
    simp only [em]
    refine ⟨⟨by omega, by omega⟩, ⟨by omega, by omega⟩, ⟨by omega, by omega⟩, show OpK _ _ _ _ _ _ from OpK.appMake (base := some ⟨b, 0, none⟩) (n := i) (m := es.length + 1 - i) (c := cap) (olds := (es.take i).flatten) rfl rfl rfl sl24 (kn := .i64) (by kernel_rfl) rfl rfl
      (.inr ⟨⟨b, 0, none⟩, rfl, hft, Reads.sub (k := 8016) (cs := es.flatten ++ sp) rfl fun j u hj => get_of_take htl.symm hj⟩) (by omega) (by decide) rfl (by omega) (by omega) (by simp [hdel, hNoKey, poNoKey, opn_noKeys]) fun b2 cap2 tp2 q1 q2 q3 => ?_⟩
    have eim : i + (es.length + 1 - i) = es.length + 1 := by omega
    rw [eim] at q1 q3
    have hz : (List.replicate (es.length + 1 - i) [Value.string ⟨([] : List UInt8).toArray⟩, Value.slice none 0 0]).flatten.length = (es.length + 1 - i) * 2 := by simp
    have d1 : (cap2 = i) = False := eq_false (by omega)
    simp only [shs, zts, sos, sls, zss, eqs, sx, sb1, sb2, sb3, sb4, sb5, sb6, sb7, ↓reduceIte, Nat.reduceAdd, Nat.reduceMul, Nat.reduceDiv, Nat.reduceEqDiff, Nat.reduceLT, Nat.reduceLeDiff, reduceCtorEq, Int.reduceEq, Int.reduceNe, Int.reduceLT, Int.reduceLE, Int.reduceAdd, Int.reduceSub, Int.reduceMul, Int.reduceNeg, Int.reduceToNat, Int.cast_ofNat_Int, Int.natCast_zero, Int.natCast_one, Int.toNat_natCast, Nat.reduceBEq, sp1, sp2, sp3, nzs, lenV, capV, isSl, inK, lo, hi, subV_open b2 (es.length + 1) cap2 2 i, eim, d1]
    refine ⟨⟨by omega, by omega⟩, ⟨rfl, OpK.openRow (k := 8008) 1003 rfl (fun _ => by simp [hpub, poPub, hNoKey, poNoKey, opn_noKeys, opn_pubs]) (fun h => by cases h) fun b3 cap3 tp3 r1 r2 => ?_⟩⟩
    simp only [shs, zts, sos, sls, zss, eqs, sx, sb1, sb2, sb3, sb4, sb5, sb6, sb7, ↓reduceIte, Nat.reduceAdd, Nat.reduceMul, Nat.reduceDiv, Nat.reduceEqDiff, Nat.reduceLT, Nat.reduceLeDiff, reduceCtorEq, Int.reduceEq, Int.reduceNe, Int.reduceLT, Int.reduceLE, Int.reduceAdd, Int.reduceSub, Int.reduceMul, Int.reduceNeg, Int.reduceToNat, Int.cast_ofNat_Int, Int.natCast_zero, Int.natCast_one, Int.toNat_natCast, Nat.reduceBEq, sp1, sp2, sp3, nzs, so0]
    refine OpK.copyIn (k := 320) (cs := (es.take i).flatten ++ (List.replicate (es.length + 1 - i) [Value.string ⟨([] : List UInt8).toArray⟩, Value.slice none 0 0]).flatten ++ tp2) (news := x) (m := 1) (ad := ⟨b3, 0, none⟩) rfl rfl sl24 rfl rfl rfl ?_ (Reads.sub (k := 8024) (cs := [x].flatten ++ tp3) rfl fun j u hj => ?_) hx.2 ?_ ?_
    · rw [hx.1]
      have : Nat.min 1 (es.length + 1 - i) = 1 := Nat.min_eq_left (by omega)
      rw [this]
    · rw [Nat.zero_add, List.getElem?_append_left (by have := (List.getElem?_eq_some_iff.1 hj).1; simpa using this)]
      simpa using hj
    · rw [List.length_append, List.length_append, hft, hz, hx.1]
      omega
    rw [← hft, List.append_assoc, putV_keep]
    generalize hR : ((List.replicate (es.length + 1 - i) [Value.string ⟨([] : List UInt8).toArray⟩, Value.slice none 0 0]).flatten ++ tp2).drop x.length = R
    have hRl : R.length = (cap2 - i - 1) * 2 := by rw [← hR, List.length_drop, List.length_append, hz, hx.1, q3]; omega
    simp only [putD, shs, zts, sos, sls, zss, eqs, sx, sb1, sb2, sb3, sb4, sb5, sb6, sb7, ↓reduceIte, Nat.reduceAdd, Nat.reduceMul, Nat.reduceDiv, Nat.reduceEqDiff, Nat.reduceLT, Nat.reduceLeDiff, reduceCtorEq, Int.reduceEq, Int.reduceNe, Int.reduceLT, Int.reduceLE, Int.reduceAdd, Int.reduceSub, Int.reduceMul, Int.reduceNeg, Int.reduceToNat, Int.cast_ofNat_Int, Int.natCast_zero, Int.natCast_one, Int.toNat_natCast, Nat.reduceBEq, sp1, sp2, sp3, nzs, so0]
    refine DrawK.tail 8 (by kernel_rfl) (by kernel_rfl) ?_
    have d2 : (cap2 = i + 1) = False := eq_false (by omega)
    have d3 : (cap = i) = False := eq_false (by omega)
    have e4 : ((i : Int) + 1).toNat = i + 1 := by omega
    simp only [shs, zts, sos, sls, zss, eqs, sx, sb1, sb2, sb3, sb4, sb5, sb6, sb7, ↓reduceIte, Nat.reduceAdd, Nat.reduceMul, Nat.reduceDiv, Nat.reduceEqDiff, Nat.reduceLT, Nat.reduceLeDiff, reduceCtorEq, Int.reduceEq, Int.reduceNe, Int.reduceLT, Int.reduceLE, Int.reduceAdd, Int.reduceSub, Int.reduceMul, Int.reduceNeg, Int.reduceToNat, Int.cast_ofNat_Int, Int.natCast_zero, Int.natCast_one, Int.toNat_natCast, Nat.reduceBEq, sp1, sp2, sp3, nzs, lenV, capV, isSl, inK, lo, hi, e4, subV_open b2 (es.length + 1) cap2 2 (i + 1), subV_open b es.length cap 2 i, d2, d3]
    refine ⟨⟨by omega, by omega⟩, ⟨⟨by omega, by omega⟩, by omega⟩, ⟨⟨by omega, by omega⟩, by omega⟩, ⟨rfl, OpK.copyIn (k := 320) (cs := (es.take i).flatten ++ (x ++ R)) (news := (es.drop i).flatten) (m := es.length - i) (ad := ⟨b, i * 2, none⟩) rfl rfl sl24 rfl rfl rfl ?_ (Reads.sub (k := 8016) (cs := es.flatten ++ sp) rfl fun j u hj => get_of_drop hdl.symm hj) hol ?_ ?_⟩⟩
    · have : Nat.min (es.length - i) (es.length + 1 - (i + 1)) = es.length - i := Nat.min_eq_left (by omega)
      rw [this, hfd]
    · rw [List.length_append, List.length_append, hft, hfd, hRl, hx.1]
      omega
    have eo : (i + 1) * 2 = ((es.take i).flatten ++ x).length := by rw [List.length_append, hft, hx.1]; omega
    rw [eo, ← List.append_assoc, putV_keep]
    have ef : (es.take i).flatten ++ x ++ ((es.drop i).flatten ++ R.drop (es.drop i).flatten.length) = (es.take i ++ x :: es.drop i).flatten ++ R.drop (es.drop i).flatten.length := by simp
    rw [ef]
    have hl2 : (es.take i ++ x :: es.drop i).length = es.length + 1 := by simp; omega
    simp only [putD, shs, zts, sos, sls, zss, eqs, sx, sb1, sb2, sb3, sb4, sb5, sb6, sb7, ↓reduceIte, Nat.reduceAdd, Nat.reduceMul, Nat.reduceDiv, Nat.reduceEqDiff, Nat.reduceLT, Nat.reduceLeDiff, reduceCtorEq, Int.reduceEq, Int.reduceNe, Int.reduceLT, Int.reduceLE, Int.reduceAdd, Int.reduceSub, Int.reduceMul, Int.reduceNeg, Int.reduceToNat, Int.cast_ofNat_Int, Int.natCast_zero, Int.natCast_one, Int.toNat_natCast, Nat.reduceBEq, sp1, sp2, sp3, nzs, so0]
    refine .inl ⟨b2, 320, cap2, R.drop (es.drop i).flatten.length, by rw [hl2], rfl, by omega, q2, ?_⟩
    rw [List.length_drop, hRl, hfd, hl2]
    omega
  · have c2 : ((cap : Int) < (es.length : Int) + 1) = False := eq_false (by omega)
    have e3 : ((es.length : Int) + 1).toNat = es.length + 1 := by omega
    have e4 : ((i : Int) + 1).toNat = i + 1 := by omega
    have d1 : (cap = i + 1) = False := eq_false (by omega)
    simp only [Proofs.Try.f81, shs, zts, sos, sls, zss, eqs, sx, sb1, sb2, sb3, sb4, sb5, sb6, sb7, ↓reduceIte, Nat.reduceAdd, Nat.reduceMul, Nat.reduceDiv, Nat.reduceEqDiff, Nat.reduceLT, Nat.reduceLeDiff, reduceCtorEq, Int.reduceEq, Int.reduceNe, Int.reduceLT, Int.reduceLE, Int.reduceAdd, Int.reduceSub, Int.reduceMul, Int.reduceNeg, Int.reduceToNat, Int.cast_ofNat_Int, Int.natCast_zero, Int.natCast_one, Int.toNat_natCast, Nat.reduceBEq, sp1, sp2, sp3, nzs, lenV, capV, isSl, c1, inK, lo, hi]
    refine ⟨⟨⟨by omega, by omega⟩, by omega⟩, ⟨by omega, by omega⟩, ⟨rfl, OpK.cap (e := 71) rfl rfl rfl (by kernel_rfl) rfl rfl ?_⟩⟩
    simp only [shs, zts, sos, sls, zss, eqs, sx, sb1, sb2, sb3, sb4, sb5, sb6, sb7, ↓reduceIte, Nat.reduceAdd, Nat.reduceMul, Nat.reduceDiv, Nat.reduceEqDiff, Nat.reduceLT, Nat.reduceLeDiff, reduceCtorEq, Int.reduceEq, Int.reduceNe, Int.reduceLT, Int.reduceLE, Int.reduceAdd, Int.reduceSub, Int.reduceMul, Int.reduceNeg, Int.reduceToNat, Int.cast_ofNat_Int, Int.natCast_zero, Int.natCast_one, Int.toNat_natCast, Nat.reduceBEq, sp1, sp2, sp3, nzs, lenV, capV, isSl, c1, c2, inK, lo, hi, subV_open0, e3, e4, subV_open b (es.length + 1) cap 2 (i + 1), d1]
    refine ⟨⟨by omega, by omega⟩, ⟨by omega, by omega⟩, ⟨by omega, by omega⟩, ⟨⟨by omega, by omega⟩, by omega⟩, CallK.openRow (k := 8008) 1003 rfl (fun _ => by simp [hpub, poPub, hNoKey, poNoKey, opn_noKeys, opn_pubs]) (fun h => by cases h) (fun b3 cap3 tp3 r1 r2 => ?_) (fun _ => rfl)⟩
    simp only [shs, zts, sos, sls, zss, eqs, sx, sb1, sb2, sb3, sb4, sb5, sb6, sb7, ↓reduceIte, Nat.reduceAdd, Nat.reduceMul, Nat.reduceDiv, Nat.reduceEqDiff, Nat.reduceLT, Nat.reduceLeDiff, reduceCtorEq, Int.reduceEq, Int.reduceNe, Int.reduceLT, Int.reduceLE, Int.reduceAdd, Int.reduceSub, Int.reduceMul, Int.reduceNeg, Int.reduceToNat, Int.cast_ofNat_Int, Int.natCast_zero, Int.natCast_one, Int.toNat_natCast, Nat.reduceBEq, sp1, sp2, sp3, nzs, so0]
    refine CallK.overlaps (k := 8024) (k2 := 8016) (cs := [x].flatten ++ tp3) (cs2 := es.flatten ++ sp) (tS := 24) (tR := 4) (e := 71) (sz := 2) rfl (by kernel_rfl) Proofs.Try.sizeOf71 (fun w x y v h => by rw [run_callFunc_extern Proofs.Try.func99 (by kernel_rfl) (by kernel_rfl) (by kernel_rfl) (e := Extern.SlicesOverlaps.overlaps #[24, 24] #[4]) (by kernel_rfl), h]; rfl) rfl rfl rfl ?_ ?_
    · rw [List.length_append, hfl]; omega
    simp only [shs, zts, sos, sls, zss, eqs, sx, sb1, sb2, sb3, sb4, sb5, sb6, sb7, ↓reduceIte, Nat.reduceAdd, Nat.reduceMul, Nat.reduceDiv, Nat.reduceEqDiff, Nat.reduceLT, Nat.reduceLeDiff, reduceCtorEq, Int.reduceEq, Int.reduceNe, Int.reduceLT, Int.reduceLE, Int.reduceAdd, Int.reduceSub, Int.reduceMul, Int.reduceNeg, Int.reduceToNat, Int.cast_ofNat_Int, Int.natCast_zero, Int.natCast_one, Int.toNat_natCast, Nat.reduceBEq, sp1, sp2, sp3, nzs, so0]
    refine DrawK.tail 8 (by kernel_rfl) (by kernel_rfl) ?_
    have d3 : (cap = i) = False := eq_false (by omega)
    simp only [shs, zts, sos, sls, zss, eqs, sx, sb1, sb2, sb3, sb4, sb5, sb6, sb7, ↓reduceIte, Nat.reduceAdd, Nat.reduceMul, Nat.reduceDiv, Nat.reduceEqDiff, Nat.reduceLT, Nat.reduceLeDiff, reduceCtorEq, Int.reduceEq, Int.reduceNe, Int.reduceLT, Int.reduceLE, Int.reduceAdd, Int.reduceSub, Int.reduceMul, Int.reduceNeg, Int.reduceToNat, Int.cast_ofNat_Int, Int.natCast_zero, Int.natCast_one, Int.toNat_natCast, Nat.reduceBEq, sp1, sp2, sp3, nzs, lenV, capV, isSl, inK, lo, hi, e4, subV_open b (es.length + 1) cap 2 (i + 1), subV_open b (es.length + 1) cap 2 i, d1, d3]
    refine ⟨⟨by omega, by omega⟩, ⟨⟨by omega, by omega⟩, by omega⟩, ⟨⟨by omega, by omega⟩, by omega⟩, ⟨rfl, OpK.copyIn (k := 8016) (cs := es.flatten ++ sp) (news := (es.drop i).flatten) (m := es.length + 1 - i) (ad := ⟨b, i * 2, none⟩) rfl rfl sl24 rfl rfl rfl ?_ (Reads.sub (k := 8016) (cs := es.flatten ++ sp) rfl fun j u hj => get_of_drop hdl.symm hj) hol ?_ ?_⟩⟩
    · have : Nat.min (es.length + 1 - i) (es.length + 1 - (i + 1)) = es.length - i := by
        rw [show es.length + 1 - (i + 1) = es.length - i by omega]
        exact Nat.min_eq_right (by omega)
      rw [this, hfd]
    · rw [List.length_append, hfl, hfd]
      omega
    simp only [putD, shs, zts, sos, sls, zss, eqs, sx, sb1, sb2, sb3, sb4, sb5, sb6, sb7, ↓reduceIte, Nat.reduceAdd, Nat.reduceMul, Nat.reduceDiv, Nat.reduceEqDiff, Nat.reduceLT, Nat.reduceLeDiff, reduceCtorEq, Int.reduceEq, Int.reduceNe, Int.reduceLT, Int.reduceLE, Int.reduceAdd, Int.reduceSub, Int.reduceMul, Int.reduceNeg, Int.reduceToNat, Int.cast_ofNat_Int, Int.natCast_zero, Int.natCast_one, Int.toNat_natCast, Nat.reduceBEq, sp1, sp2, sp3, nzs, so0, lenV, capV, isSl, subV_open b (es.length + 1) cap 2 i, d3]
    have hcl : (putV (es.flatten ++ sp) ((i + 1) * 2) (es.drop i).flatten).length = (es.flatten ++ sp).length := by
      unfold putV
      rw [List.length_append, List.length_append, List.length_take, List.length_drop, List.length_append, hfl, hfd]
      omega
    refine ⟨⟨by omega, by omega⟩, ⟨rfl, OpK.copyIn (k := 8016) (cs := putV (es.flatten ++ sp) ((i + 1) * 2) (es.drop i).flatten) (news := x) (m := 1) (ad := ⟨b3, 0, none⟩) rfl rfl sl24 rfl rfl rfl ?_ (Reads.sub (k := 8024) (cs := [x].flatten ++ tp3) rfl fun j u hj => ?_) hx.2 ?_ ?_⟩⟩
    · rw [hx.1]
      have : Nat.min 1 (es.length + 1 - i) = 1 := Nat.min_eq_left (by omega)
      rw [this]
    · rw [Nat.zero_add, List.getElem?_append_left (by have := (List.getElem?_eq_some_iff.1 hj).1; simpa using this)]
      simpa using hj
    · rw [hcl, List.length_append, hfl, hx.1]
      omega
    have hps := putV_shift (es.flatten ++ sp) (es.drop i).flatten x (i * 2) (by rw [List.length_append, hfl, hx.1]; omega)
    rw [hx.1, show i * 2 + 2 = (i + 1) * 2 by omega, List.take_append_of_le_length (by omega), htl] at hps
    rw [hps]
    have ef : (es.take i).flatten ++ x ++ ((es.drop i).flatten ++ (es.flatten ++ sp).drop ((i + 1) * 2 + (es.drop i).flatten.length)) = (es.take i ++ x :: es.drop i).flatten ++ (es.flatten ++ sp).drop ((i + 1) * 2 + (es.drop i).flatten.length) := by simp
    rw [ef]
    have hl2 : (es.take i ++ x :: es.drop i).length = es.length + 1 := by simp; omega
    simp only [putD, shs, zts, sos, sls, zss, eqs, sx, sb1, sb2, sb3, sb4, sb5, sb6, sb7, ↓reduceIte, Nat.reduceAdd, Nat.reduceMul, Nat.reduceDiv, Nat.reduceEqDiff, Nat.reduceLT, Nat.reduceLeDiff, reduceCtorEq, Int.reduceEq, Int.reduceNe, Int.reduceLT, Int.reduceLE, Int.reduceAdd, Int.reduceSub, Int.reduceMul, Int.reduceNeg, Int.reduceToNat, Int.cast_ofNat_Int, Int.natCast_zero, Int.natCast_one, Int.toNat_natCast, Nat.reduceBEq, sp1, sp2, sp3, nzs, so0]
    refine .inl ⟨b, 8016, cap, _, by rw [hl2], rfl, by omega, h1.2.1, ?_⟩
    rw [List.length_drop, List.length_append, hfl, hfd, hl2, h1.2.2]
    omega

theorem bsV {α : Type} (q0 q1 : α → Value) (cf : α → Int) (f : Nat) (t0 t1 y : Value) (l : List α) (M : Mem) (hy : RowM M y 2 (l.map fun x => [q0 x, q1 x])) (hb : l.length ≤ 1000000)
    (ht : t0.oneCell' = true ∧ t1.oneCell' = true)
    (hf : ∀ x ∈ l, Meets Proofs.Try.prog f [.agg [.v (q0 x), .v (q1 x)], .agg [.v t0, .v t1]] M fun r _ _ => r = .v (.int .i64 (cf x)))
    (hmono : ∀ (i j : Nat) (x y : α), i ≤ j → l[i]? = some x → l[j]? = some y → cf y < 0 → cf x < 0) :
    Meets Proofs.Try.prog 78 [.v y, .agg [.v t0, .v t1], .fn f []] M fun r _ _ => r = .tup [.v (.int .i64 (bk cf l)), .v (.bool (bf cf l))] := by
  refine Meets.of_body [0,1,2,4,6,7,8,9,10,11,17,31] Proofs.Try.func78 rfl (by kernel_rfl) rfl fun w => ?_
  simp only [Proofs.Try.f78, shs, zts, sos, sls, zss, eqs, sx, sb1, sb2, sb3, sb4, sb5, sb6, sb7, ↓reduceIte, Nat.reduceAdd, Nat.reduceMul, Nat.reduceDiv, Nat.reduceEqDiff, Nat.reduceLT, Nat.reduceLeDiff, reduceCtorEq, Int.reduceEq, Int.reduceNe, Int.reduceLT, Int.reduceLE, Int.reduceAdd, Int.reduceSub, Int.reduceMul, Int.reduceNeg, Int.reduceToNat, Int.cast_ofNat_Int, Int.natCast_zero, Int.natCast_one, Int.toNat_natCast, Nat.reduceBEq, nzs, hy.len, hy.sl, List.length_map]
  refine LoopK.go (X := Nat × Nat) (fun x => ([(0, true, .v y), (2, true, .fn f []), (4, true, .ptr 32 0 0 0), (8, true, .v (.int .i64 l.length)), (9, true, .v (.int .i64 x.1)), (10, true, .v (.int .i64 x.2))], [(32, .box [.v t0, .v t1] none)], M))
    (fun x => (x.1 ≤ x.2 ∧ x.2 ≤ l.length) ∧ (∀ q x', q < x.1 → l[q]? = some x' → cf x' < 0) ∧ ∀ q x', x.2 ≤ q → l[q]? = some x' → 0 ≤ cf x') (fun x => x.2 - x.1) (0, l.length)
    ⟨⟨by simp, by simp⟩, fun q x' hq => by simp at hq, fun q x' hq hx => by rw [List.getElem?_eq_none (by simpa using hq)] at hx; cases hx⟩ (Ent.of ?_) ?_
  · simp only [sx, sb1, sb2, sb3, sb4, sb5, sb6, sb7, ↓reduceIte, Nat.reduceAdd, Nat.reduceMul, Nat.reduceDiv, Nat.reduceEqDiff, Nat.reduceLT, Nat.reduceLeDiff, reduceCtorEq, Int.reduceEq, Int.reduceNe, Int.reduceLT, Int.reduceLE, Int.reduceAdd, Int.reduceSub, Int.reduceMul, Int.reduceNeg, Int.reduceToNat, Int.cast_ofNat_Int, Int.natCast_zero, Int.natCast_one, Int.toNat_natCast, Nat.reduceBEq, Int.natCast_zero]
  rintro ⟨i, j⟩ ⟨⟨h1, h2⟩, h3, h4⟩
  simp only at h1 h2 h3 h4
  by_cases hij : i < j
  · have c1 : ((i : Int) < (j : Int)) = True := eq_true (by omega)
    have w1 : IntKind.wrap .u64 ((i : Int) + (j : Int)) = (i : Int) + (j : Int) := wrap_in ⟨by simp only [lo]; omega, by simp only [hi]; omega⟩
    have w2 : IntKind.wrap .i64 (((i : Int) + (j : Int)) / 2 ^ 1) = (((i + j) / 2 : Nat) : Int) := by
      rw [show (2 : Int) ^ 1 = 2 from rfl, wrap_in]
      · omega
      · exact ⟨by simp only [lo]; omega, by simp only [hi]; omega⟩
    have hh : (i + j) / 2 < l.length := by omega
    obtain ⟨x, hx, _⟩ := l_drop_at (l := l) hh
    have g0 := hy.cell (i := (i + j) / 2) (e := [q0 x, q1 x]) (by rw [List.getElem?_map, hx]; rfl) (off := 0) (by omega)
    have g1 := hy.cell (i := (i + j) / 2) (e := [q0 x, q1 x]) (by rw [List.getElem?_map, hx]; rfl) (off := 1) (by omega)
    have i0 := hy.ix (i := (((i + j) / 2 : Nat) : Int)) (by omega) (by rw [List.length_map]; omega)
    simp only [List.getD_cons_zero, List.getD_cons_succ] at g0 g1
    generalize hhd : (i + j) / 2 = h at *
    simp only [shs, zts, sos, sls, zss, eqs, sx, sb1, sb2, sb3, sb4, sb5, sb6, sb7, ↓reduceIte, Nat.reduceAdd, Nat.reduceMul, Nat.reduceDiv, Nat.reduceEqDiff, Nat.reduceLT, Nat.reduceLeDiff, reduceCtorEq, Int.reduceEq, Int.reduceNe, Int.reduceLT, Int.reduceLE, Int.reduceAdd, Int.reduceSub, Int.reduceMul, Int.reduceNeg, Int.reduceToNat, Int.cast_ofNat_Int, Int.natCast_zero, Int.natCast_one, Int.toNat_natCast, Nat.reduceBEq, nzs, c1, w1, w2, inK, lo, hi]
    refine ⟨by omega, by decide, DrawK.quiet (by kernel_rfl) (by kernel_rfl) ?_⟩
    simp only [shs, zts, sos, sls, zss, eqs, sx, sb1, sb2, sb3, sb4, sb5, sb6, sb7, ↓reduceIte, Nat.reduceAdd, Nat.reduceMul, Nat.reduceDiv, Nat.reduceEqDiff, Nat.reduceLT, Nat.reduceLeDiff, reduceCtorEq, Int.reduceEq, Int.reduceNe, Int.reduceLT, Int.reduceLE, Int.reduceAdd, Int.reduceSub, Int.reduceMul, Int.reduceNeg, Int.reduceToNat, Int.cast_ofNat_Int, Int.natCast_zero, Int.natCast_one, Int.toNat_natCast, Nat.reduceBEq, nzs, i0, i0.2, g0.1, g0.2.1, g1.1, g1.2.1]
    refine ⟨_, ⟨⟨rfl, rfl⟩, hf x (List.mem_of_getElem? hx)⟩, ?_⟩
    by_cases hc : cf x < 0
    · have c2 : (cf x < 0) = True := eq_true hc
      simp only [shs, zts, sos, sls, zss, eqs, sx, sb1, sb2, sb3, sb4, sb5, sb6, sb7, ↓reduceIte, Nat.reduceAdd, Nat.reduceMul, Nat.reduceDiv, Nat.reduceEqDiff, Nat.reduceLT, Nat.reduceLeDiff, reduceCtorEq, Int.reduceEq, Int.reduceNe, Int.reduceLT, Int.reduceLE, Int.reduceAdd, Int.reduceSub, Int.reduceMul, Int.reduceNeg, Int.reduceToNat, Int.cast_ofNat_Int, Int.natCast_zero, Int.natCast_one, Int.toNat_natCast, Nat.reduceBEq, nzs, c2, inK, lo, hi]
      refine ⟨by omega, (h + 1, j), ⟨⟨⟨by simp only; omega, h2⟩, fun q x' hq hx' => hmono q h x' x (by simp only at hq; omega) hx' hx hc, h4⟩, by simp only; omega⟩, Ent.of ?_⟩
      simp only [sx, sb1, sb2, sb3, sb4, sb5, sb6, sb7, ↓reduceIte, Nat.reduceAdd, Nat.reduceMul, Nat.reduceDiv, Nat.reduceEqDiff, Nat.reduceLT, Nat.reduceLeDiff, reduceCtorEq, Int.reduceEq, Int.reduceNe, Int.reduceLT, Int.reduceLE, Int.reduceAdd, Int.reduceSub, Int.reduceMul, Int.reduceNeg, Int.reduceToNat, Int.cast_ofNat_Int, Int.natCast_zero, Int.natCast_one, Int.toNat_natCast, Nat.reduceBEq, Int.natCast_add]
    · have c2 : (cf x < 0) = False := eq_false hc
      simp only [shs, zts, sos, sls, zss, eqs, sx, sb1, sb2, sb3, sb4, sb5, sb6, sb7, ↓reduceIte, Nat.reduceAdd, Nat.reduceMul, Nat.reduceDiv, Nat.reduceEqDiff, Nat.reduceLT, Nat.reduceLeDiff, reduceCtorEq, Int.reduceEq, Int.reduceNe, Int.reduceLT, Int.reduceLE, Int.reduceAdd, Int.reduceSub, Int.reduceMul, Int.reduceNeg, Int.reduceToNat, Int.cast_ofNat_Int, Int.natCast_zero, Int.natCast_one, Int.toNat_natCast, Nat.reduceBEq, nzs, c2, inK, lo, hi]
      refine ⟨(i, h), ⟨⟨⟨by simp only; omega, by simp only; omega⟩, h3, fun q x' hq hx' => Int.not_lt.1 fun hc' => hc (hmono h q x x' hq hx hx' hc')⟩, by simp only; omega⟩, Ent.of ?_⟩
      simp only [sx, sb1, sb2, sb3, sb4, sb5, sb6, sb7, ↓reduceIte, Nat.reduceAdd, Nat.reduceMul, Nat.reduceDiv, Nat.reduceEqDiff, Nat.reduceLT, Nat.reduceLeDiff, reduceCtorEq, Int.reduceEq, Int.reduceNe, Int.reduceLT, Int.reduceLE, Int.reduceAdd, Int.reduceSub, Int.reduceMul, Int.reduceNeg, Int.reduceToNat, Int.cast_ofNat_Int, Int.natCast_zero, Int.natCast_one, Int.toNat_natCast, Nat.reduceBEq]
  · have c1 : ((i : Int) < (j : Int)) = False := eq_false (by omega)
    have ej : i = j := by omega
    subst ej
    have hbk : bk cf l = i := bk_eq cf l i h2 h3 (fun x hx => Int.not_lt.2 (h4 i x (Nat.le_refl _) hx))
    simp only [shs, zts, sos, sls, zss, eqs, sx, sb1, sb2, sb3, sb4, sb5, sb6, sb7, ↓reduceIte, Nat.reduceAdd, Nat.reduceMul, Nat.reduceDiv, Nat.reduceEqDiff, Nat.reduceLT, Nat.reduceLeDiff, reduceCtorEq, Int.reduceEq, Int.reduceNe, Int.reduceLT, Int.reduceLE, Int.reduceAdd, Int.reduceSub, Int.reduceMul, Int.reduceNeg, Int.reduceToNat, Int.cast_ofNat_Int, Int.natCast_zero, Int.natCast_one, Int.toNat_natCast, Nat.reduceBEq, nzs, c1]
    refine DrawK.quiet (by kernel_rfl) (by kernel_rfl) ?_
    by_cases hil : i < l.length
    · have c2 : ((i : Int) < (l.length : Int)) = True := eq_true (by omega)
      obtain ⟨x, hx, _⟩ := l_drop_at (l := l) hil
      have g0 := hy.cell (i := i) (e := [q0 x, q1 x]) (by rw [List.getElem?_map, hx]; rfl) (off := 0) (by omega)
      have g1 := hy.cell (i := i) (e := [q0 x, q1 x]) (by rw [List.getElem?_map, hx]; rfl) (off := 1) (by omega)
      have i0 := hy.ix (i := (i : Int)) (by omega) (by rw [List.length_map]; omega)
      simp only [List.getD_cons_zero, List.getD_cons_succ] at g0 g1
      have hbf : bf cf l = decide (cf x = 0) := by simp only [bf, hbk, hx]
      simp only [shs, zts, sos, sls, zss, eqs, sx, sb1, sb2, sb3, sb4, sb5, sb6, sb7, ↓reduceIte, Nat.reduceAdd, Nat.reduceMul, Nat.reduceDiv, Nat.reduceEqDiff, Nat.reduceLT, Nat.reduceLeDiff, reduceCtorEq, Int.reduceEq, Int.reduceNe, Int.reduceLT, Int.reduceLE, Int.reduceAdd, Int.reduceSub, Int.reduceMul, Int.reduceNeg, Int.reduceToNat, Int.cast_ofNat_Int, Int.natCast_zero, Int.natCast_one, Int.toNat_natCast, Nat.reduceBEq, nzs, c2, i0, i0.2, g0.1, g0.2.1, g1.1, g1.2.1]
      refine ⟨_, ⟨⟨rfl, rfl⟩, hf x (List.mem_of_getElem? hx)⟩, ?_⟩
      simp only [shs, zts, sos, sls, zss, eqs, sx, sb1, sb2, sb3, sb4, sb5, sb6, sb7, ↓reduceIte, Nat.reduceAdd, Nat.reduceMul, Nat.reduceDiv, Nat.reduceEqDiff, Nat.reduceLT, Nat.reduceLeDiff, reduceCtorEq, Int.reduceEq, Int.reduceNe, Int.reduceLT, Int.reduceLE, Int.reduceAdd, Int.reduceSub, Int.reduceMul, Int.reduceNeg, Int.reduceToNat, Int.cast_ofNat_Int, Int.natCast_zero, Int.natCast_one, Int.toNat_natCast, Nat.reduceBEq, nzs, hbk, hbf]
    · have c2 : ((i : Int) < (l.length : Int)) = False := eq_false (by omega)
      have hbf : bf cf l = false := by simp only [bf, hbk, List.getElem?_eq_none (show l.length ≤ i by omega)]
      simp only [shs, zts, sos, sls, zss, eqs, sx, sb1, sb2, sb3, sb4, sb5, sb6, sb7, ↓reduceIte, Nat.reduceAdd, Nat.reduceMul, Nat.reduceDiv, Nat.reduceEqDiff, Nat.reduceLT, Nat.reduceLeDiff, reduceCtorEq, Int.reduceEq, Int.reduceNe, Int.reduceLT, Int.reduceLE, Int.reduceAdd, Int.reduceSub, Int.reduceMul, Int.reduceNeg, Int.reduceToNat, Int.cast_ofNat_Int, Int.natCast_zero, Int.natCast_one, Int.toNat_natCast, Nat.reduceBEq, nzs, c2, hbk, hbf]
      refine ⟨.v (.int .i64 0), ?_⟩
      simp only [shs, zts, sos, sls, zss, eqs, sx, sb1, sb2, sb3, sb4, sb5, sb6, sb7, ↓reduceIte, Nat.reduceAdd, Nat.reduceMul, Nat.reduceDiv, Nat.reduceEqDiff, Nat.reduceLT, Nat.reduceLeDiff, reduceCtorEq, Int.reduceEq, Int.reduceNe, Int.reduceLT, Int.reduceLE, Int.reduceAdd, Int.reduceSub, Int.reduceMul, Int.reduceNeg, Int.reduceToNat, Int.cast_ofNat_Int, Int.natCast_zero, Int.natCast_one, Int.toNat_natCast, Nat.reduceBEq, nzs, c2, hbk, hbf]

end Go.X.Vo

namespace Go.X
open Go Go.RowKit
section
variable {P : Program} {ops : Array Oper} {Q : Exit → Act → World → Prop} {md : Region.Mode} {S : World → Prop}
/-- S is asked behind the first n alone -/
def wpAnyT (P : Program) (md : Region.Mode) (ops : Array Oper) (Q : Exit → Act → World → Prop) (S : World → Prop) (n : Nat) : Nat → Array Bool → Act → World → Prop
  | 0, listed, a, w => Region.ready md ops listed = [] ∧ Q .normal a w
  | f + 1, listed, a, w =>
    (Region.ready md ops listed = [] → Q .normal a w) ∧
    ∀ i ∈ Region.ready md ops listed, wpOp P ops Q i (fun a' w' => (i < n → S w') ∧ wpAnyT P md ops Q S n f (listed.setIfInBounds i true) a' w') a w
theorem wpAny_of_T {n : Nat} : ∀ (f : Nat) (listed : Array Bool) (a : Act) (w : World), wpAnyT P md ops Q S n f listed a w → wpAny P md ops Q f listed a w
  | 0, _, _, _, h => h
  | f + 1, _, _, _, h => ⟨h.1, fun i hi => wpOp_mono (fun a' w' h' => wpAny_of_T f _ a' w' h'.2) (h.2 i hi)⟩
theorem wpAnyT_first {n i : Nat} {oi : Oper} {v : Value} (hs : Region.sinkB md ops n = true) (hc : Region.chainB md ops n = true) (hn : n < ops.size) (hin : i < n) (hi : ops[i]? = some oi) (hsel : ∀ (j : Nat) (o : Oper) cs b, ops[j]? = some o → o.op ≠ .select cs b)
    (hQ : ∀ c a w, Q (.panic c) (a.put oi.dst v) w → Q (.panic c) a w) :
    ∀ (f : Nat) (listed : Array Bool) (a : Act) (w : World), HeadInv md ops n listed →
      (∀ j oj, ops[j]? = some oj → j ≠ i → listed.getD j true = false → (∀ e ∈ oj.after, Region.binds md e = true → e.on ≠ i) → oi.apart ops oj = true) →
      i ∈ Region.ready md ops listed → YieldsIf P ops S oi v a → S w →
      wpAnyT P md ops Q S n f (listed.setIfInBounds i true) (a.put oi.dst v) w → wpAnyT P md ops Q S n (f + 1) listed a w := by
  intro f
  induction f with
  | zero =>
    intro listed a w inv _ hr hy hS H
    refine ⟨fun h => (by rw [h] at hr; cases hr), fun j hj => ?_⟩
    by_cases hji : j = i
    · subst hji; exact hy.wpOp hi hS ⟨fun _ => hS, H⟩
    · have := ready_mono hj hji
      rw [H.1] at this
      cases this
  | succ f ih =>
    intro listed a w inv hfree hr hy hS H
    have hun0 := (mem_ready.1 hr).1
    refine ⟨fun h => (by rw [h] at hr; cases hr), fun j hj => ?_⟩
    have hjn : j < n := by
      rcases Nat.lt_or_ge j n with h | h
      · exact h
      · exact absurd hj (tail_waits hs hc hn inv _ i rfl hin hun0 j h)
    by_cases hji : j = i
    · subst hji; exact hy.wpOp hi hS ⟨fun _ => hS, H⟩
    · have h1 := H.2 j (ready_mono hj hji)
      obtain ⟨hjun, oj, hoj, hall⟩ := mem_ready.1 hj
      have hnot : ∀ e ∈ oj.after, Region.binds md e = true → e.on ≠ i := fun e he hb heq => by
        have h1 := hall e he hb
        rw [heq, getD_both hun0] at h1
        cases h1
      have h2 := wpOp_putIf hoj (hfree j oj hoj hji hjun hnot) (fun cs b => hsel i oi cs b hi) (fun cs b => hsel j oj cs b hoj) hQ hy h1
      have hfree' : ∀ k ok, ops[k]? = some ok → k ≠ i → (listed.setIfInBounds j true).getD k true = false →
          (∀ e ∈ ok.after, Region.binds md e = true → e.on ≠ i) → oi.apart ops ok = true := fun k ok hk hki hun hno => by
        refine hfree k ok hk hki ?_ hno
        by_cases hjk : j = k
        · subst hjk; exact hjun
        · rw [getD_set_ne true hjk] at hun; exact hun
      refine wpOp_mono (fun a' w' h3 => ⟨h3.2.1, ih (listed.setIfInBounds j true) a' w' (inv.set hj hjn) hfree' (ready_mono hr (Ne.symm hji)) h3.1 (h3.2.1 hjn) ?_⟩) h2
      rw [Array.setIfInBounds_comm _ _ hji]
      exact h3.2.2
theorem wpAnyT_take {n i : Nat} {oi : Oper} {v : Value} {f : Nat} {listed : Array Bool} {a : Act} {w : World} (hsk : Region.sinkB md ops n = true) (hch : Region.chainB md ops n = true) (hn : n < ops.size) (hin : i < n) (inv : HeadInv md ops n listed) (hi : ops[i]? = some oi)
    (hs : Region.noSelect ops = true) (hf : Region.free md ops listed i = true) (hr : (Region.ready md ops listed).contains i = true)
    (hQ : ∀ c a w, Q (.panic c) (a.put oi.dst v) w → Q (.panic c) a w) (hy : YieldsIf P ops S oi v a) (hS : S w)
    (h : wpAnyT P md ops Q S n f (listed.setIfInBounds i true) (a.put oi.dst v) w) : wpAnyT P md ops Q S n (f + 1) listed a w :=
  wpAnyT_first hsk hch hn hin hi (Region.noSelect_spec hs) hQ f listed a w inv (Region.free_spec hi hf) (by simpa using hr) hy hS h
theorem wpAnyT_all {n : Nat} {rs : List Nat} {f : Nat} {listed : Array Bool} {a : Act} {w : World} (hr : Region.ready md ops listed = rs) (hne : rs ≠ [])
    (h : ∀ i ∈ rs, wpOp P ops Q i (fun a' w' => (i < n → S w') ∧ wpAnyT P md ops Q S n f (listed.setIfInBounds i true) a' w') a w) : wpAnyT P md ops Q S n (f + 1) listed a w :=
  ⟨fun h0 => absurd (hr ▸ h0) hne, hr ▸ h⟩
theorem wpAnyT_of_seq {n : Nat} {Q' : Exit → Act → World → Prop} : ∀ (l : List Oper) (k : Nat) (listed : Array Bool) (a : Act) (w : World), (∀ j, l[j]? = ops[k + j]?) →
    Region.seqB md ops l.length k listed = true → n ≤ k → wpList P ops Q' l a w → wpAnyT P md ops Q' S n l.length listed a w
  | [], _, _, _, _, _, hB, _, h => ⟨by simpa [Region.seqB] using hB, h⟩
  | o :: l, k, listed, a, w, hl, hB, hnk, h => by
    have h0 : ops[k]? = some o := by simpa using (hl 0).symm
    simp only [List.length_cons, Region.seqB, Bool.and_eq_true, decide_eq_true_eq] at hB
    refine ⟨fun h1 => (by rw [hB.1] at h1; cases h1), fun i hi => ?_⟩
    rw [hB.1] at hi
    have hik : i = k := by simpa using hi
    subst hik
    have hw : wpOp P ops Q' i (wpList P ops Q' l) a w := by unfold wpOp; simp only [h0]; exact h
    exact wpOp_mono (fun a' w' h' => ⟨fun hlt => absurd hlt (by omega), wpAnyT_of_seq l (i + 1) _ a' w' (fun j => by have := hl (j + 1); simpa [Nat.add_assoc, Nat.add_comm 1 j] using this) hB.2 (by omega) h'⟩) hw
end
def schTB (md : Region.Mode) (ops : Array Oper) (n : Nat) : Sch → Nat → Array Bool → Bool
  | .done, f, listed => decide (f = ops.size - n) && Region.seqB md ops (ops.size - n) n listed
  | .take i s, f + 1, listed => decide (i < n) && ((Region.free md ops listed i && (Region.ready md ops listed).contains i) && schTB md ops n s f (listed.setIfInBounds i true))
  | .one i s, f + 1, listed => decide (i < n) && (Region.ready md ops listed == [i] && schTB md ops n s f (listed.setIfInBounds i true))
  | .two i s j m, f + 1, listed => (decide (i < n) && decide (j < n)) && (Region.ready md ops listed == [i, j] && (schTB md ops n s f (listed.setIfInBounds i true) && schTB md ops n m f (listed.setIfInBounds j true)))
  | _, 0, _ => false
section
variable {E : Env} {σ : Sig} {H Hs : HS} {M Ms : Mem} {ν ν' : Nat → Value} {a : Act} {w : World}
theorem wpHT_sound {ops : Array Oper} {K : KP} {w0 : World} {n : Nat} (hsel : Region.noSelect ops = true) (hsk : Region.sinkB .any ops n = true) (hch : Region.chainB .any ops n = true) (hn : n < ops.size) (h0 : Heap E ν Hs Ms w0) (ht : tieds ν Hs) :
    ∀ (sch : Sch) (f : Nat) (listed : Array Bool) (σ : Sig) (H : HS) (M : Mem) (a : Act) (w : World), schTB .any ops n sch f listed = true → HeadInv .any ops n listed → Rep E σ H M a w → (stayH Hs H ∧ Ms.le M) → wpH E ops.toList Hs Ms (wpR E ops.toList K (ops.toList.drop n)) sch σ H M →
      wpAnyT E.P .any ops (fun e a w => e = Exit.normal ∧ ∃ σ H M, Rep E σ H M a w ∧ K σ H M) (fun w => Heap E ν Hs Ms w) n f listed a w
  | .done, f, listed, σ, H, M, a, w, hB, inv, hr, _, h => by
    simp only [schTB, Bool.and_eq_true, decide_eq_true_eq] at hB
    simp only [wpH] at h
    have h2 := wpR_sound (E := E) (ops := ops.toList) (K := K) (Q := fun e a w => e = Exit.normal ∧ ∃ σ H M, Rep E σ H M a w ∧ K σ H M) (fun σ H M a w hr hk => ⟨rfl, σ, H, M, hr, hk⟩) (ops.toList.drop n) σ H M a w hr h
    have h3 : (ops.toList.drop n).length = ops.size - n := by simp
    have := wpAnyT_of_seq (P := E.P) (md := .any) (ops := ops) (S := fun w => Heap E ν Hs Ms w) (n := n) (Q' := fun e a w => e = Exit.normal ∧ ∃ σ H M, Rep E σ H M a w ∧ K σ H M) (ops.toList.drop n) n listed a w (fun j => by rw [List.getElem?_drop, Array.getElem?_toList]) (by rw [h3]; exact hB.2) (Nat.le_refl _) (by simpa using h2)
    rw [h3] at this
    rw [hB.1]
    exact this
  | .take i m, f + 1, listed, σ, H, M, a, w, hB, inv, ⟨ν', hs, hh⟩, ⟨hsub, hle⟩, h => by
    simp only [schTB, Bool.and_eq_true, decide_eq_true_eq] at hB
    obtain ⟨hin, ⟨hf, hrd⟩, hB⟩ := hB
    simp only [wpH] at h
    cases ho : ops[i]? with
    | none => rw [show ops.toList[i]? = none by rw [Array.getElem?_toList]; exact ho] at h; exact h.elim
    | some o =>
      rw [show ops.toList[i]? = some o by rw [Array.getElem?_toList]; exact ho] at h
      simp only [opt1] at h
      cases hg : gdOf ops.toList σ o.guard with
      | none => rw [hg] at h; exact h.elim
      | some g =>
        cases hd : o.dst with
        | none => rw [hg, hd] at h; exact h.elim
        | some d =>
          rw [hg, hd] at h
          obtain ⟨⟨hN, h1⟩, hK⟩ := h
          have hgd := gd_spec hs hg o rfl
          obtain ⟨hS, hke⟩ := Heap.stay h0 ht hh hsub hle
          refine wpAnyT_take hsk hch hn hin inv (v := bif g then (pev E.P Hs Ms σ o.op).2.1.val ν' else undef) ho hsel hf hrd (fun c a w h => by obtain ⟨h, _⟩ := h; cases h) ?_ hS ?_
          · cases g with
            | true =>
              obtain ⟨hg1, hc⟩ := h1 rfl
              refine .inl ⟨by simpa using hgd, fun w1 hw1 => ?_⟩
              exact pev_sound hs (Heap.again hw1 ht hke hh.one) o hg1 hc
            | false => exact .inr ⟨by simpa using hgd, rfl⟩
          · refine wpHT_sound hsel hsk hch hn h0 ht m f _ _ H M _ w hB (inv.set (by simpa using hrd) hin) ⟨ν', ?_, hh⟩ ⟨hsub, hle⟩ hK
            rw [hd]
            exact hs.put hN rfl
  | .one i m, f + 1, listed, σ, H, M, a, w, hB, inv, hr, hsm, h => by
    simp only [schTB, Bool.and_eq_true, decide_eq_true_eq, beq_iff_eq] at hB
    refine wpAnyT_all hB.2.1 (by simp) fun j hj => ?_
    obtain rfl : j = i := by simpa using hj
    exact wpHT_op hsel hsk hch hn h0 ht m f listed σ H M a w hB.2.2 (inv.set (by rw [hB.2.1]; simp) hB.1) hr hsm h
  | .two i m i' m2, f + 1, listed, σ, H, M, a, w, hB, inv, hr, hsm, h => by
    simp only [schTB, Bool.and_eq_true, decide_eq_true_eq, beq_iff_eq] at hB
    refine wpAnyT_all hB.2.1 (by simp) fun j hj => ?_
    rcases (by simpa using hj : j = i ∨ j = i') with rfl | rfl
    · exact wpHT_op hsel hsk hch hn h0 ht m f listed σ H M a w hB.2.2.1 (inv.set (by rw [hB.2.1]; simp) hB.1.1) hr hsm h.1
    · exact wpHT_op hsel hsk hch hn h0 ht m2 f listed σ H M a w hB.2.2.2 (inv.set (by rw [hB.2.1]; simp) hB.1.2) hr hsm h.2
  | .take _ _, 0, _, _, _, _, _, _, hB, _, _, _, _ => by simp [schTB] at hB
  | .one _ _, 0, _, _, _, _, _, _, hB, _, _, _, _ => by simp [schTB] at hB
  | .two _ _ _ _, 0, _, _, _, _, _, _, hB, _, _, _, _ => by simp [schTB] at hB
where
  wpHT_op {ops : Array Oper} {K : KP} {w0 : World} {n : Nat} (hsel : Region.noSelect ops = true) (hsk : Region.sinkB .any ops n = true) (hch : Region.chainB .any ops n = true) (hn : n < ops.size) (h0 : Heap E ν Hs Ms w0) (ht : tieds ν Hs) {i : Nat} (m : Sch) (f : Nat) (listed : Array Bool) (σ : Sig) (H : HS) (M : Mem) (a : Act) (w : World)
      (hB : schTB .any ops n m f (listed.setIfInBounds i true) = true) (inv : HeadInv .any ops n (listed.setIfInBounds i true)) (hr : Rep E σ H M a w) (_ : stayH Hs H ∧ Ms.le M)
      (h : opt1 (fun o => efK E o Hs Ms (wpH E ops.toList Hs Ms (wpR E ops.toList K (ops.toList.drop n)) m) σ H M (gdOf ops.toList σ o.guard)) ops.toList[i]?) :
      wpOp E.P ops (fun e a w => e = Exit.normal ∧ ∃ σ H M, Rep E σ H M a w ∧ K σ H M) i (fun a' w' => (i < n → Heap E ν Hs Ms w') ∧ wpAnyT E.P .any ops (fun e a w => e = Exit.normal ∧ ∃ σ H M, Rep E σ H M a w ∧ K σ H M) (fun w => Heap E ν Hs Ms w) n f (listed.setIfInBounds i true) a' w') a w := by
    cases ho : ops[i]? with
    | none => rw [show ops.toList[i]? = none by rw [Array.getElem?_toList]; exact ho] at h; exact h.elim
    | some o =>
      rw [show ops.toList[i]? = some o by rw [Array.getElem?_toList]; exact ho] at h
      simp only [opt1] at h
      obtain ⟨ν', hs, hh⟩ := hr
      cases hg : gdOf ops.toList σ o.guard with
      | none => rw [hg] at h; exact h.elim
      | some g =>
        rw [hg] at h
        simp only [efK] at h
        have hgd := gd_spec hs hg o rfl
        have key := stepK_sound (Nx := fun a' w' => (i < n → Heap E ν Hs Ms w') ∧ wpAnyT E.P .any ops (fun e a w => e = Exit.normal ∧ ∃ σ H M, Rep E σ H M a w ∧ K σ H M) (fun w => Heap E ν Hs Ms w) n f (listed.setIfInBounds i true) a' w')
          (Qx := fun e a w => e = Exit.normal ∧ ∃ σ H M, Rep E σ H M a w ∧ K σ H M)
          (fun σ1 H1 M1 a1 w1 hr1 hk1 => by
            obtain ⟨ν1, hs1, hh1⟩ := hr1
            exact ⟨fun _ => (Heap.stay h0 ht hh1 hk1.1.1 hk1.1.2).1, wpHT_sound hsel hsk hch hn h0 ht m f _ σ1 H1 M1 a1 w1 hB inv ⟨ν1, hs1, hh1⟩ hk1.1 hk1.2⟩) hs hh h
        unfold wpOp
        simp only [ho]
        have hgd' : Region.wanted o (yielded ops a.tmps) = g := by simpa using hgd
        rw [hgd']
        cases g with
        | true => simp only [if_true] at key ⊢; exact .inl key
        | false => simp only [Bool.false_eq_true, if_false] at key ⊢; exact key


/-- a region that draws its order: the first n after a plan (quiet ones taken first, at what of memory stays), the others in their order -/
theorem DrawK.heldT {id : Nat} {ops : Array Oper} {K : KP} (n : Nat) (sel : List Nat) (sch : Sch) (hm : E.P.follows .mixedOrders = true)
    (hB : (Region.noSelect ops && (decide (n < ops.size) && (Region.sinkB .any ops n && (Region.chainB .any ops n && schTB .any ops n sch ops.size (Array.replicate ops.size false))))) = true)
    (h : ∀ xs : Nat → Value, stayH (pickH sel (tieH xs H)) (tieH xs H) ∧ wpH E ops.toList (pickH sel (tieH xs H)) M (wpR E ops.toList K (ops.toList.drop n)) sch σ (tieH xs H) M) : DrawK E id ops K σ H M := by
  rintro a w ⟨ν, hs, hh⟩
  simp only [Bool.and_eq_true, decide_eq_true_eq] at hB
  obtain ⟨hsel, hn, hsk, hch, hsc⟩ := hB
  have h1 := tieH_heap (hh.grow ((Below.refl _ _).drew) : Heap E ν H M { w with drawn := w.drawn + 1 })
  have inv0 : HeadInv .any ops n (Array.replicate ops.size false) :=
    ⟨by simp, fun j oj _ hl => (by rw [getD_replicate_false] at hl; cases hl), fun t _ ht => getD_in (by simpa using ht) (getD_replicate_false _ _)⟩
  exact wp_region_any hm (wpAny_of_T _ _ _ _ (wpHT_sound hsel hsk hch hn (h1.sublist (pickH_sub sel _)) (pickH_tieds sel H) sch _ _ σ _ M a _ hsc inv0 ⟨ν, hs, h1⟩ ⟨(h ν).1, Mem.le.refl M⟩ (h ν).2))
end
end Go.X

