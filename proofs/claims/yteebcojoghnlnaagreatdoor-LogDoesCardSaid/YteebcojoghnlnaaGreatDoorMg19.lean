/- Contracts of functions and the logic that they are proved in (6 texts in one). Conditions: none. -/
import Derived.Test.YteebcojoghnlnaaGreatDoorMg16
import Derived.Test.YteebcojoghnlnaaGreatDoorMg18
import Derived.Test.YteebcojoghnlnaaGreatDoorMg15
import Derived.Test.YteebcojoghnlnaaGreatDoorVpG
namespace Go.X.Bg
end Go.X.Bg
namespace Go.X.Sb
end Go.X.Sb
namespace Go.X.Nm
end Go.X.Nm
namespace Go.X.Bp
end Go.X.Bp
set_option linter.unusedSimpArgs false
set_option linter.unusedVariables false
set_option maxHeartbeats 4000000
set_option maxRecDepth 20000
namespace Go.Proofs
open Go.Shelf Go.RowKit Go.Lib Go.Sort
noncomputable def Tryz.slT : TypeInfo := (Tryz.prog.info? 22).get (by kernel_rfl)
noncomputable def Tryz.slE : TypeInfo := (Tryz.prog.info? 107).get (by kernel_rfl)
theorem Tryz.slK (n : Nat) (h2 : 2 ≤ n) : Lib.swapperK n Tryz.slE 25 = 9 := by
  have a : Tryz.slE.hasPointers = true := by kernel_rfl
  have b : Tryz.slE.bytes = 40 := by kernel_rfl
  have c : (n == 0) = false := by simp; omega
  have d : (n == 1) = false := by simp; omega
  simp [Lib.swapperK, a, b, c, d]
end Go.Proofs
namespace Go.X.Bp
open Go Go.X Go.RowKit Go.X.Bg Go.X.Sb
def ltI (a b : It) : Bool := decide (cmpT a b < 0)
theorem swo : Sort.SWO ltI := by
  refine ⟨fun x => ?_, fun x y z h1 h2 => ?_, fun x y z h1 h2 => ?_⟩
  · simp [ltI, cmp_lt]
  · simp only [ltI, decide_eq_true_eq] at *
    exact cmp_trans h1 h2
  · simp only [ltI, decide_eq_false_iff_not, cmp_lt] at *
    omega
theorem encT_len (x : It) : (Bg.encT x).length = 4 := rfl
theorem srtLess (size : Nat) (hsz : size < 4611686018427387904) : LessC Proofs.Tryz.prog 163 Bg.encT 4 ltI size := fun W Bs blk c dk hdk h1 h2 i j hi hj => by
  refine (Proofs.Tryz.putLess blk 0 c Bs size W (fun t => dk[t]!.1) (fun t => dk[t]!.2.1) h1 (fun t ht => ⟨h2 t 0 ht (by omega), h2 t 1 ht (by omega)⟩) i j hi hj hsz).mono ?_
  rintro e w' ⟨rfl, q⟩
  refine ⟨?_, q⟩
  congr 2
  simp only [ltI, cmp_lt]
theorem sortC : SortC Proofs.Tryz.prog 109 163 22 Bg.encT 4 ltI := by
  refine ⟨fun p n c hn lb w => ?_, fun blk c d h2 hsz lb w hl hH hb => ?_⟩
  · have : ∃ f, Proofs.Tryz.prog.funcs.findIdx? (·.name == "internal/reflectlite" ++ ".Swapper$" ++ toString (Lib.swapperK n Proofs.Tryz.slE 25)) = some f := by
      rcases Nat.lt_or_ge n 1 with h | h
      · have : n = 0 := by omega
        subst this
        exact ⟨184, by kernel_rfl⟩
      · have : n = 1 := by omega
        subst this
        exact ⟨185, by kernel_rfl⟩
    obtain ⟨f, hf⟩ := this
    exact Proofs.Any.sort_Slice_tiny Proofs.Tryz.sl6 22 107 Proofs.Tryz.slT Proofs.Tryz.slE (by kernel_rfl) (by kernel_rfl) (by kernel_rfl) (by kernel_rfl) 25 (fun _ => by kernel_rfl) p n c hn f hf (.func 163) #[] lb w
  · exact Proofs.Any.sort_Slice_cells_sorted Proofs.Tryz.sl6 22 107 Proofs.Tryz.slT Proofs.Tryz.slE (by kernel_rfl) (by kernel_rfl) (by kernel_rfl) (by kernel_rfl) 25 (fun _ => by kernel_rfl) Bg.encT 4 encT_len (by kernel_rfl) (fun _ => by kernel_rfl)
      oneCell_it ltI swo 163 _ (Proofs.enters_of Proofs.Tryz.func163 (by kernel_rfl) rfl) blk 0 c d h2 hsz 192 (by rw [Proofs.Tryz.slK _ h2]; kernel_rfl) false
      (fun args W => run_callFunc_extern Proofs.Tryz.func192 (by kernel_rfl) (by kernel_rfl) (by kernel_rfl) (e := Extern.ReflectliteSwapper.swap false) (by kernel_rfl) args W) w hl hH hb

/-- the sorted row is the one where the new item stands at its place -/
theorem srt_unique {l l' : List It} (h1 : l'.Perm l) (h2 : l'.Pairwise (fun x y => ltI y x = false)) (h3 : l.Pairwise (fun a b => cmpT a b < 0)) : l' = l := by
  have hd : ∀ a b, a ∈ l → b ∈ l → cmpT a b = 0 → a = b := fun a b ha hb he => by
    obtain ⟨i, hi, rfl⟩ := List.mem_iff_getElem.1 ha
    obtain ⟨j, hj, rfl⟩ := List.mem_iff_getElem.1 hb
    rw [List.pairwise_iff_getElem] at h3
    rcases Nat.lt_trichotomy i j with h | h | h
    · have := h3 i j hi hj h
      omega
    · subst h; rfl
    · have := h3 j i hj hi h
      rw [cmp_lt] at this
      have h0 : ¬ cmpT l[i] l[j] < 0 := by omega
      unfold cmpT at he
      split at he <;> omega
  refine h1.eq_of_pairwise (le := fun x y => ltI y x = false) (fun a b ha hb h4 h5 => ?_) h2 (h3.imp fun {a b} h => ?_)
  · refine hd a b (h1.subset ha) hb ?_
    simp only [ltI, decide_eq_false_iff_not, cmp_lt] at h4 h5
    unfold cmpT
    split <;> omega
  · simp only [ltI, decide_eq_false_iff_not, cmp_lt] at *
    omega
theorem insI_cons (y : It) (r : List It) (x : It) : insI (y :: r) x = if cmpT y x < 0 then y :: insI r x else x :: y :: r := by
  unfold insI
  rw [show bk (fun z => cmpT z x) (y :: r) = if cmpT y x < 0 then bk (fun z => cmpT z x) r + 1 else 0 from rfl]
  split <;> rfl
theorem insI_perm (x : It) : ∀ l : List It, (insI l x).Perm (l ++ [x])
  | [] => List.Perm.refl _
  | y :: r => by
    rw [insI_cons]
    split
    · exact (insI_perm x r).cons y
    · exact (List.perm_append_singleton x (y :: r)).symm
theorem insI_srt (x : It) : ∀ l : List It, l.Pairwise (fun a b => cmpT a b < 0) → (∀ y ∈ l, ¬ (y.1 = x.1 ∧ y.2.1 = x.2.1)) → (insI l x).Pairwise (fun a b => cmpT a b < 0)
  | [], _, _ => List.pairwise_singleton _ _
  | y :: r, h, hx => by
    rw [insI_cons]
    obtain ⟨h1, h2⟩ := List.pairwise_cons.1 h
    split
    · rename_i hy
      refine List.pairwise_cons.2 ⟨fun z hz => ?_, insI_srt x r h2 (fun z hz => hx z (by simp [hz]))⟩
      rcases List.mem_append.1 ((insI_perm x r).subset hz) with hz | hz
      · exact h1 z hz
      · rw [List.mem_singleton.1 hz]; exact hy
    · rename_i hy
      have hxy : cmpT x y < 0 := by
        have := hx y (by simp)
        rw [cmp_lt] at *
        omega
      refine List.pairwise_cons.2 ⟨fun z hz => ?_, h⟩
      rcases List.mem_cons.1 hz with rfl | hz
      · exact hxy
      · exact cmp_trans hxy (h1 z hz)
theorem srt_ins {l l' : List It} {x : It} (hl : l.Pairwise (fun a b => cmpT a b < 0)) (hx : ∀ y ∈ l, ¬ (y.1 = x.1 ∧ y.2.1 = x.2.1)) (h1 : l'.Perm (l ++ [x])) (h2 : l'.Pairwise (fun x y => ltI y x = false)) : l' = insI l x :=
  srt_unique (h1.trans (insI_perm x l).symm) h2 (insI_srt x l hl hx)
end Go.X.Bp

namespace Go.Proofs
open Go.Shelf Go.RowKit Go.Lib Go.Sort
set_option maxHeartbeats 2000000 in
/-- the closure of woolref.with -/
theorem Tryz.withLess (blk off c Bs size : Nat) (W : World) (G : Nat → ByteArray) (hs : W.cell? ⟨Bs, 1, none⟩ = some (.slice (some ⟨blk, off, none⟩) size c))
    (hc : ∀ t, t < size → W.cell? ⟨blk, off + t * 2, none⟩ = some (.string (G t))) (i j : Nat) (hi : i < size) (hj : j < size) (_hsz : size < 4611686018427387904) :
    Calls Tryz.prog 110 #[.int .i64 i, .int .i64 j, .pointer (some ⟨Bs, 0, none⟩)] W fun e w' => e = .returned (.bool (Op.bytesLess (G i).data.toList (G j).data.toList)) ∧ ∃ q, w' = W.drewN q := by
  have ci := hc i hi
  have cj := hc j hj
  go_enter Tryz.func110, Tryz.ntmps110
  go_wp2
  go_quiet (fail)
  go_wp2
  go_ret
  refine ⟨?_, nq, rfl⟩
  rw [← ByteArray.toList_eq, ← ByteArray.toList_eq]
  rfl
noncomputable def Tryz.svT : TypeInfo := (Tryz.prog.info? 23).get (by kernel_rfl)
noncomputable def Tryz.svE : TypeInfo := (Tryz.prog.info? 47).get (by kernel_rfl)
theorem Tryz.svK (n : Nat) (h2 : 2 ≤ n) : Lib.swapperK n Tryz.svE 25 = 9 := by
  have a : Tryz.svE.hasPointers = true := by kernel_rfl
  have b : Tryz.svE.bytes = 40 := by kernel_rfl
  have c : (n == 0) = false := by simp; omega
  have d : (n == 1) = false := by simp; omega
  simp [Lib.swapperK, a, b, c, d]
end Go.Proofs
namespace Go.X.Vo
open Go Go.X Go.RowKit Go.X.Bg Go.X.Nm Go.X.Bp
def ltW (a b : WV) : Bool := Op.bytesLess a.2.1 b.2.1
theorem less_neg {a b c : List UInt8} (h1 : Op.bytesLess a b = false) (h2 : Op.bytesLess b c = false) : Op.bytesLess a c = false := by
  have t1 := less_tri b a
  have t2 := less_tri c b
  have t3 := less_tri c a
  rw [h1, Bool.not_false, Bool.or_eq_true, decide_eq_true_eq] at t1
  rw [h2, Bool.not_false, Bool.or_eq_true, decide_eq_true_eq] at t2
  rcases t2 with t2 | rfl
  · rcases t1 with t1 | rfl
    · rw [less_trans t2 t1, Bool.true_or] at t3
      simpa using t3.symm
    · rw [t2, Bool.true_or] at t3
      simpa using t3.symm
  · exact h1
theorem swoW : Sort.SWO ltW := by
  refine ⟨fun x => less_irr _, fun x y z h1 h2 => less_trans h1 h2, fun x y z h1 h2 => less_neg h1 h2⟩
/-- a cell for every volume -/
def encW (w : WV) : List Value := [.string ⟨w.2.1.toArray⟩, bif w.1.oneCell' then w.1 else .bool false]
theorem encW_len (x : WV) : (encW x).length = 2 := rfl
theorem encW_one (x : WV) : ∀ c ∈ encW x, c.oneCell' = true := fun c hc => by
  simp only [encW, List.mem_cons, List.not_mem_nil, or_false] at hc
  rcases hc with rfl | rfl
  · rfl
  · cases h : x.1.oneCell'
    · rfl
    · exact h
theorem encW_eq {w : WV} (h : w.1.oneCell' = true) : encW w = encV w := by unfold encW encV; rw [h]; rfl
theorem encW_map {l : List WV} (h : ∀ w ∈ l, w.1.oneCell' = true) : l.map encW = l.map encV := List.map_congr_left fun w hw => encW_eq (h w hw)
theorem srtLessW (size : Nat) (hsz : size < 4611686018427387904) : LessCJ Proofs.Tryz.prog 110 encW 2 ltW size 1 := fun W Bs blk c dk hdk h1 h2 i j hi hj => by
  refine (Proofs.Tryz.withLess blk 0 c Bs size W (fun t => ⟨(dk[t]!).2.1.toArray⟩) h1 (fun t ht => h2 t 0 ht (by omega)) i j hi hj hsz).mono ?_
  rintro e w' ⟨rfl, q⟩
  exact ⟨rfl, q⟩
theorem sortCW : SortC Proofs.Tryz.prog 109 110 23 encW 2 ltW := by
  refine ⟨fun p n c hn lb w => ?_, fun blk c d h2 hsz lb w hl hH hb => ?_⟩
  · have : ∃ f, Proofs.Tryz.prog.funcs.findIdx? (·.name == "internal/reflectlite" ++ ".Swapper$" ++ toString (Lib.swapperK n Proofs.Tryz.svE 25)) = some f := by
      rcases Nat.lt_or_ge n 1 with h | h
      · have : n = 0 := by omega
        subst this
        exact ⟨184, by kernel_rfl⟩
      · have : n = 1 := by omega
        subst this
        exact ⟨185, by kernel_rfl⟩
    obtain ⟨f, hf⟩ := this
    exact Proofs.Any.sort_Slice_tiny Proofs.Tryz.sl6 23 47 Proofs.Tryz.svT Proofs.Tryz.svE (by kernel_rfl) (by kernel_rfl) (by kernel_rfl) (by kernel_rfl) 25 (fun _ => by kernel_rfl) p n c hn f hf (.func 110) #[] lb w
  · exact Proofs.Any.sort_Slice_cells_sorted Proofs.Tryz.sl6 23 47 Proofs.Tryz.svT Proofs.Tryz.svE (by kernel_rfl) (by kernel_rfl) (by kernel_rfl) (by kernel_rfl) 25 (fun _ => by kernel_rfl) encW 2 encW_len (by kernel_rfl) (fun _ => by kernel_rfl)
      encW_one ltW swoW 110 _ (Proofs.enters_of Proofs.Tryz.func110 (by kernel_rfl) rfl) blk 0 c d h2 hsz 192 (by rw [Proofs.Tryz.svK _ h2]; kernel_rfl) false
      (fun args W => run_callFunc_extern Proofs.Tryz.func192 (by kernel_rfl) (by kernel_rfl) (by kernel_rfl) (e := Extern.ReflectliteSwapper.swap false) (by kernel_rfl) args W) w hl hH hb
/-! the sorted row is the one where the new volume stands at its place -/
theorem srt_uniqueW {l l' : List WV} (h1 : l'.Perm l) (h2 : l'.Pairwise (fun x y => ltW y x = false)) (h3 : l.Pairwise (fun a b => ltW a b = true)) : l' = l := by
  refine h1.eq_of_pairwise (le := fun x y => ltW y x = false) (fun a b ha hb h4 h5 => ?_) h2 (h3.imp fun {a b} h => ?_)
  · obtain ⟨i, hi, rfl⟩ := List.mem_iff_getElem.1 (h1.subset ha)
    obtain ⟨j, hj, rfl⟩ := List.mem_iff_getElem.1 hb
    rw [List.pairwise_iff_getElem] at h3
    rcases Nat.lt_trichotomy i j with h | h | h
    · have := h3 i j hi hj h
      rw [this] at h5; cases h5
    · subst h; rfl
    · have := h3 j i hj hi h
      rw [this] at h4; cases h4
  · cases hb : ltW b a with
    | false => rfl
    | true =>
      have := less_trans h hb
      rw [less_irr] at this
      cases this
theorem insW_cons (y : WV) (r : List WV) (x : WV) : insW (y :: r) x = if cmpN y.2.1 x.2.1 < 0 then y :: insW r x else x :: y :: r := by
  unfold insW
  rw [show Sb.bk (fun z => cmpN z.2.1 x.2.1) (y :: r) = if cmpN y.2.1 x.2.1 < 0 then Sb.bk (fun z : WV => cmpN z.2.1 x.2.1) r + 1 else 0 from rfl]
  split <;> rfl
theorem insW_perm (x : WV) : ∀ l : List WV, (insW l x).Perm (l ++ [x])
  | [] => List.Perm.refl _
  | y :: r => by
    rw [insW_cons]
    split
    · exact (insW_perm x r).cons y
    · exact (List.perm_append_singleton x (y :: r)).symm
theorem insW_srt (x : WV) : ∀ l : List WV, l.Pairwise (fun a b => ltW a b = true) → (∀ y ∈ l, y.2.1 ≠ x.2.1) → (insW l x).Pairwise (fun a b => ltW a b = true)
  | [], _, _ => List.pairwise_singleton _ _
  | y :: r, h, hx => by
    rw [insW_cons]
    obtain ⟨h1, h2⟩ := List.pairwise_cons.1 h
    split
    · rename_i hy
      rw [cmpN_lt] at hy
      refine List.pairwise_cons.2 ⟨fun z hz => ?_, insW_srt x r h2 (fun z hz => hx z (by simp [hz]))⟩
      rcases List.mem_append.1 ((insW_perm x r).subset hz) with hz | hz
      · exact h1 z hz
      · rw [List.mem_singleton.1 hz]; exact hy
    · rename_i hy
      rw [cmpN_lt, Bool.not_eq_true] at hy
      have hxy : ltW x y = true := by
        have t := less_tri x.2.1 y.2.1
        rw [hy, Bool.not_false, Bool.or_eq_true, decide_eq_true_eq] at t
        exact t.resolve_right (fun e => hx y (by simp) e.symm)
      refine List.pairwise_cons.2 ⟨fun z hz => ?_, h⟩
      rcases List.mem_cons.1 hz with rfl | hz
      · exact hxy
      · exact less_trans hxy (h1 z hz)
theorem srt_insW {l l' : List WV} {x : WV} (hl : l.Pairwise (fun a b => ltW a b = true)) (hx : ∀ y ∈ l, y.2.1 ≠ x.2.1) (h1 : l'.Perm (l ++ [x])) (h2 : l'.Pairwise (fun x y => ltW y x = false)) : l' = insW l x :=
  srt_uniqueW (h1.trans (insW_perm x l).symm) h2 (insW_srt x l hl hx)
end Go.X.Vo

namespace Go.X
open Go Go.RowKit
inductive Sch3 where
  | done
  | take (i : Nat) (n : Sch3)
  | one (i : Nat) (n : Sch3)
  | two (i : Nat) (n : Sch3) (j : Nat) (m : Sch3)
  | three (i : Nat) (n : Sch3) (j : Nat) (m : Sch3) (k : Nat) (q : Sch3)
def wpH3 (E : Env) (ops : List Oper) (Hs : HS) (Ms : Mem) (K : KP) : Sch3 → Sig → HS → Mem → Prop
  | .done, σ, H, M => K σ H M
  | .take i n, σ, H, M => opt1 (fun o => qtK E o Hs Ms (wpH3 E ops Hs Ms K n) σ H M (gdOf ops σ o.guard) o.dst) ops[i]?
  | .one i n, σ, H, M => opt1 (fun o => efK E o Hs Ms (wpH3 E ops Hs Ms K n) σ H M (gdOf ops σ o.guard)) ops[i]?
  | .two i n j m, σ, H, M => opt1 (fun o => efK E o Hs Ms (wpH3 E ops Hs Ms K n) σ H M (gdOf ops σ o.guard)) ops[i]? ∧ opt1 (fun o => efK E o Hs Ms (wpH3 E ops Hs Ms K m) σ H M (gdOf ops σ o.guard)) ops[j]?
  | .three i n j m k q, σ, H, M => opt1 (fun o => efK E o Hs Ms (wpH3 E ops Hs Ms K n) σ H M (gdOf ops σ o.guard)) ops[i]? ∧ opt1 (fun o => efK E o Hs Ms (wpH3 E ops Hs Ms K m) σ H M (gdOf ops σ o.guard)) ops[j]? ∧ opt1 (fun o => efK E o Hs Ms (wpH3 E ops Hs Ms K q) σ H M (gdOf ops σ o.guard)) ops[k]?
@[congr] theorem wpH3_congr {E : Env} {ops : List Oper} {Hs Hs' : HS} {Ms : Mem} {K : KP} {s : Sch3} {σ σ' : Sig} {H H' : HS} {M : Mem} (h0 : Hs = Hs') (h : σ = σ') (h' : H = H') : wpH3 E ops Hs Ms K s σ H M = wpH3 E ops Hs' Ms K s σ' H' M := by rw [h0, h, h']
theorem se3 : type_of% (And.intro (And.intro (And.intro @wpH3.eq_1 @wpH3.eq_2) (And.intro @wpH3.eq_3 @wpH3.eq_4)) @wpH3.eq_5) := And.intro (And.intro (And.intro @wpH3.eq_1 @wpH3.eq_2) (And.intro @wpH3.eq_3 @wpH3.eq_4)) @wpH3.eq_5
def tk3 : List Nat → Sch3 → Sch3
  | [], s => s
  | i :: l, s => .take i (tk3 l s)
theorem tks3 : type_of% (And.intro @tk3.eq_1 @tk3.eq_2) := And.intro @tk3.eq_1 @tk3.eq_2
def schT3 (md : Region.Mode) (ops : Array Oper) (n : Nat) : Sch3 → Nat → Array Bool → Bool
  | .done, f, listed => decide (f = ops.size - n) && Region.seqB md ops (ops.size - n) n listed
  | .take i s, f + 1, listed => decide (i < n) && ((Region.free md ops listed i && (Region.ready md ops listed).contains i) && schT3 md ops n s f (listed.setIfInBounds i true))
  | .one i s, f + 1, listed => decide (i < n) && (Region.ready md ops listed == [i] && schT3 md ops n s f (listed.setIfInBounds i true))
  | .two i s j m, f + 1, listed => (decide (i < n) && decide (j < n)) && (Region.ready md ops listed == [i, j] && (schT3 md ops n s f (listed.setIfInBounds i true) && schT3 md ops n m f (listed.setIfInBounds j true)))
  | .three i s j m k q, f + 1, listed => (decide (i < n) && (decide (j < n) && decide (k < n))) && (Region.ready md ops listed == [i, j, k] && (schT3 md ops n s f (listed.setIfInBounds i true) && (schT3 md ops n m f (listed.setIfInBounds j true) && schT3 md ops n q f (listed.setIfInBounds k true))))
  | _, 0, _ => false
section
variable {E : Env} {σ : Sig} {H Hs : HS} {M Ms : Mem} {ν ν' : Nat → Value} {a : Act} {w : World}
theorem wpH3_sound {ops : Array Oper} {K : KP} {w0 : World} {n : Nat} (hsel : Region.noSelect ops = true) (hsk : Region.sinkB .any ops n = true) (hch : Region.chainB .any ops n = true) (hn : n < ops.size) (h0 : Heap E ν Hs Ms w0) (ht : tieds ν Hs) :
    ∀ (sch : Sch3) (f : Nat) (listed : Array Bool) (σ : Sig) (H : HS) (M : Mem) (a : Act) (w : World), schT3 .any ops n sch f listed = true → HeadInv .any ops n listed → Rep E σ H M a w → (stayH Hs H ∧ Ms.le M) → wpH3 E ops.toList Hs Ms (wpR E ops.toList K (ops.toList.drop n)) sch σ H M →
      wpAnyT E.P .any ops (fun e a w => e = Exit.normal ∧ ∃ σ H M, Rep E σ H M a w ∧ K σ H M) (fun w => Heap E ν Hs Ms w) n f listed a w
  | .done, f, listed, σ, H, M, a, w, hB, inv, hr, _, h => by
    simp only [schT3, Bool.and_eq_true, decide_eq_true_eq] at hB
    simp only [wpH3] at h
    have h2 := wpR_sound (E := E) (ops := ops.toList) (K := K) (Q := fun e a w => e = Exit.normal ∧ ∃ σ H M, Rep E σ H M a w ∧ K σ H M) (fun σ H M a w hr hk => ⟨rfl, σ, H, M, hr, hk⟩) (ops.toList.drop n) σ H M a w hr h
    have h3 : (ops.toList.drop n).length = ops.size - n := by simp
    have := wpAnyT_of_seq (P := E.P) (md := .any) (ops := ops) (S := fun w => Heap E ν Hs Ms w) (n := n) (Q' := fun e a w => e = Exit.normal ∧ ∃ σ H M, Rep E σ H M a w ∧ K σ H M) (ops.toList.drop n) n listed a w (fun j => by rw [List.getElem?_drop, Array.getElem?_toList]) (by rw [h3]; exact hB.2) (Nat.le_refl _) (by simpa using h2)
    rw [h3] at this
    rw [hB.1]
    exact this
  | .take i m, f + 1, listed, σ, H, M, a, w, hB, inv, ⟨ν', hs, hh⟩, ⟨hsub, hle⟩, h => by
    simp only [schT3, Bool.and_eq_true, decide_eq_true_eq] at hB
    obtain ⟨hin, ⟨hf, hrd⟩, hB⟩ := hB
    simp only [wpH3] at h
    cases ho : ops[i]? with
    | none => rw [show ops.toList[i]? = none by rw [Array.getElem?_toList]; exact ho] at h; exact h.elim
    | some o =>
      rw [show ops.toList[i]? = some o by rw [Array.getElem?_toList]; exact ho] at h
      simp only [opt1] at h
      cases hg : gdOf ops.toList σ o.guard with
      | none => rw [hg] at h; exact h.elim
      | some g =>
        cases hd : o.dst with
        | none => rw [hg, hd] at h; exact h.elim
        | some d =>
          rw [hg, hd] at h
          obtain ⟨⟨hN, h1⟩, hK⟩ := h
          have hgd := gd_spec hs hg o rfl
          obtain ⟨hS, hke⟩ := Heap.stay h0 ht hh hsub hle
          refine wpAnyT_take hsk hch hn hin inv (v := bif g then (pev E.P Hs Ms σ o.op).2.1.val ν' else undef) ho hsel hf hrd (fun c a w h => by obtain ⟨h, _⟩ := h; cases h) ?_ hS ?_
          · cases g with
            | true =>
              obtain ⟨hg1, hc⟩ := h1 rfl
              refine .inl ⟨by simpa using hgd, fun w1 hw1 => ?_⟩
              exact pev_sound hs (Heap.again hw1 ht hke hh.one) o hg1 hc
            | false => exact .inr ⟨by simpa using hgd, rfl⟩
          · refine wpH3_sound hsel hsk hch hn h0 ht m f _ _ H M _ w hB (inv.set (by simpa using hrd) hin) ⟨ν', ?_, hh⟩ ⟨hsub, hle⟩ hK
            rw [hd]
            exact hs.put hN rfl
  | .one i m, f + 1, listed, σ, H, M, a, w, hB, inv, hr, hsm, h => by
    simp only [schT3, Bool.and_eq_true, decide_eq_true_eq, beq_iff_eq] at hB
    refine wpAnyT_all hB.2.1 (by simp) fun j hj => ?_
    obtain rfl : j = i := by simpa using hj
    exact wpH3_op hsel hsk hch hn h0 ht m f listed σ H M a w hB.2.2 (inv.set (by rw [hB.2.1]; simp) hB.1) hr hsm h
  | .two i m i' m2, f + 1, listed, σ, H, M, a, w, hB, inv, hr, hsm, h => by
    simp only [schT3, Bool.and_eq_true, decide_eq_true_eq, beq_iff_eq] at hB
    refine wpAnyT_all hB.2.1 (by simp) fun j hj => ?_
    rcases (by simpa using hj : j = i ∨ j = i') with rfl | rfl
    · exact wpH3_op hsel hsk hch hn h0 ht m f listed σ H M a w hB.2.2.1 (inv.set (by rw [hB.2.1]; simp) hB.1.1) hr hsm h.1
    · exact wpH3_op hsel hsk hch hn h0 ht m2 f listed σ H M a w hB.2.2.2 (inv.set (by rw [hB.2.1]; simp) hB.1.2) hr hsm h.2
  | .three i m i' m2 i'' m3, f + 1, listed, σ, H, M, a, w, hB, inv, hr, hsm, h => by
    simp only [schT3, Bool.and_eq_true, decide_eq_true_eq, beq_iff_eq] at hB
    refine wpAnyT_all hB.2.1 (by simp) fun j hj => ?_
    rcases (by simpa using hj : j = i ∨ j = i' ∨ j = i'') with rfl | rfl | rfl
    · exact wpH3_op hsel hsk hch hn h0 ht m f listed σ H M a w hB.2.2.1 (inv.set (by rw [hB.2.1]; simp) hB.1.1) hr hsm h.1
    · exact wpH3_op hsel hsk hch hn h0 ht m2 f listed σ H M a w hB.2.2.2.1 (inv.set (by rw [hB.2.1]; simp) hB.1.2.1) hr hsm h.2.1
    · exact wpH3_op hsel hsk hch hn h0 ht m3 f listed σ H M a w hB.2.2.2.2 (inv.set (by rw [hB.2.1]; simp) hB.1.2.2) hr hsm h.2.2
  | .take _ _, 0, _, _, _, _, _, _, hB, _, _, _, _ => by simp [schT3] at hB
  | .one _ _, 0, _, _, _, _, _, _, hB, _, _, _, _ => by simp [schT3] at hB
  | .two _ _ _ _, 0, _, _, _, _, _, _, hB, _, _, _, _ => by simp [schT3] at hB
  | .three _ _ _ _ _ _, 0, _, _, _, _, _, _, hB, _, _, _, _ => by simp [schT3] at hB
where
  wpH3_op {ops : Array Oper} {K : KP} {w0 : World} {n : Nat} (hsel : Region.noSelect ops = true) (hsk : Region.sinkB .any ops n = true) (hch : Region.chainB .any ops n = true) (hn : n < ops.size) (h0 : Heap E ν Hs Ms w0) (ht : tieds ν Hs) {i : Nat} (m : Sch3) (f : Nat) (listed : Array Bool) (σ : Sig) (H : HS) (M : Mem) (a : Act) (w : World)
      (hB : schT3 .any ops n m f (listed.setIfInBounds i true) = true) (inv : HeadInv .any ops n (listed.setIfInBounds i true)) (hr : Rep E σ H M a w) (_ : stayH Hs H ∧ Ms.le M)
      (h : opt1 (fun o => efK E o Hs Ms (wpH3 E ops.toList Hs Ms (wpR E ops.toList K (ops.toList.drop n)) m) σ H M (gdOf ops.toList σ o.guard)) ops.toList[i]?) :
      wpOp E.P ops (fun e a w => e = Exit.normal ∧ ∃ σ H M, Rep E σ H M a w ∧ K σ H M) i (fun a' w' => (i < n → Heap E ν Hs Ms w') ∧ wpAnyT E.P .any ops (fun e a w => e = Exit.normal ∧ ∃ σ H M, Rep E σ H M a w ∧ K σ H M) (fun w => Heap E ν Hs Ms w) n f (listed.setIfInBounds i true) a' w') a w := by
    cases ho : ops[i]? with
    | none => rw [show ops.toList[i]? = none by rw [Array.getElem?_toList]; exact ho] at h; exact h.elim
    | some o =>
      rw [show ops.toList[i]? = some o by rw [Array.getElem?_toList]; exact ho] at h
      simp only [opt1] at h
      obtain ⟨ν', hs, hh⟩ := hr
      cases hg : gdOf ops.toList σ o.guard with
      | none => rw [hg] at h; exact h.elim
      | some g =>
        rw [hg] at h
        simp only [efK] at h
        have hgd := gd_spec hs hg o rfl
        have key := stepK_sound (Nx := fun a' w' => (i < n → Heap E ν Hs Ms w') ∧ wpAnyT E.P .any ops (fun e a w => e = Exit.normal ∧ ∃ σ H M, Rep E σ H M a w ∧ K σ H M) (fun w => Heap E ν Hs Ms w) n f (listed.setIfInBounds i true) a' w')
          (Qx := fun e a w => e = Exit.normal ∧ ∃ σ H M, Rep E σ H M a w ∧ K σ H M)
          (fun σ1 H1 M1 a1 w1 hr1 hk1 => by
            obtain ⟨ν1, hs1, hh1⟩ := hr1
            exact ⟨fun _ => (Heap.stay h0 ht hh1 hk1.1.1 hk1.1.2).1, wpH3_sound hsel hsk hch hn h0 ht m f _ σ1 H1 M1 a1 w1 hB inv ⟨ν1, hs1, hh1⟩ hk1.1 hk1.2⟩) hs hh h
        unfold wpOp
        simp only [ho]
        have hgd' : Region.wanted o (yielded ops a.tmps) = g := by simpa using hgd
        rw [hgd']
        cases g with
        | true => simp only [if_true] at key ⊢; exact .inl key
        | false => simp only [Bool.false_eq_true, if_false] at key ⊢; exact key


/-- a region that draws its order: the first n after a plan (quiet ones taken first, at what of memory stays), the others in their order -/
theorem DrawK.held3 {id : Nat} {ops : Array Oper} {K : KP} (n : Nat) (sel : List Nat) (sch : Sch3) (hm : E.P.follows .mixedOrders = true)
    (hB : (Region.noSelect ops && (decide (n < ops.size) && (Region.sinkB .any ops n && (Region.chainB .any ops n && schT3 .any ops n sch ops.size (Array.replicate ops.size false))))) = true)
    (h : ∀ xs : Nat → Value, stayH (pickH sel (tieH xs H)) (tieH xs H) ∧ wpH3 E ops.toList (pickH sel (tieH xs H)) M (wpR E ops.toList K (ops.toList.drop n)) sch σ (tieH xs H) M) : DrawK E id ops K σ H M := by
  rintro a w ⟨ν, hs, hh⟩
  simp only [Bool.and_eq_true, decide_eq_true_eq] at hB
  obtain ⟨hsel, hn, hsk, hch, hsc⟩ := hB
  have h1 := tieH_heap (hh.grow ((Below.refl _ _).drew) : Heap E ν H M { w with drawn := w.drawn + 1 })
  have inv0 : HeadInv .any ops n (Array.replicate ops.size false) :=
    ⟨by simp, fun j oj _ hl => (by rw [getD_replicate_false] at hl; cases hl), fun t _ ht => getD_in (by simpa using ht) (getD_replicate_false _ _)⟩
  exact wp_region_any hm (wpAny_of_T _ _ _ _ (wpH3_sound hsel hsk hch hn (h1.sublist (pickH_sub sel _)) (pickH_tieds sel H) sch _ _ σ _ M a _ hsc inv0 ⟨ν, hs, h1⟩ ⟨(h ν).1, Mem.le.refl M⟩ (h ν).2))
end
end Go.X

namespace Go.X.Vo
open Go Go.X Go.RowKit Go.X.Bg Go.X.Nm Go.X.Bp Go.X.Sb

theorem rwith (b v : Value) (ws : List WV) (x : WV) (M : Mem) (hbo : b.oneCell' = true) (hbs : isSl b = true) (hv : VolsM M v ws) (hx : x.1.oneCell' = true) (hxs : isSl x.1 = true) (hs : (ws.map (·.2)).Pairwise (fun a b => Op.bytesLess a.1 b.1 = true)) (hf : ∀ y ∈ ws, y.2.1 ≠ x.2.1) (hl : ws.length ≤ 1000) :
    Meets Proofs.Tryz.prog 54 [stV b v, wvV x] M (OwnR (fun s => .agg [.v b, s]) 2 ((insW ws x).map encV)) := by
  have h1 : ∀ w ∈ ws, w.1.oneCell' = true := fun w hw => (hv.blk w hw).one
  have h2 : ∀ w ∈ ws ++ [x], w.1.oneCell' = true := fun w hw => by
    rcases List.mem_append.1 hw with hw | hw
    · exact h1 w hw
    · rw [List.mem_singleton.1 hw]; exact hx
  have h3 : ∀ w ∈ insW ws x, w.1.oneCell' = true := fun w hw => h2 w ((insW_perm x ws).subset hw)
  have hT : Ctx (fun s => .agg [.v b, s]) := fun s s' ν ν' h => by simp only [SV.val, SV.vals, h]
  refine Meets.closeR hT (fun e he => ?_) ?_
  · obtain ⟨y, hy, rfl⟩ := List.mem_map.1 he
    exact ⟨rfl, encV_one (h3 y hy)⟩
  refine Meets.of_body [0,1,2,3,4,5] Proofs.Tryz.func54 rfl (by kernel_rfl) rfl fun w => ?_
  have hrow : ws.map encV ++ [[.string ⟨x.2.1.toArray⟩, x.1]] = (ws ++ [x]).map encW := by
    rw [encW_map h2, List.map_append]; rfl
  simp only [Proofs.Tryz.f54, stV, wvV, shs, zts, sos, sls, zss, eqs, sx, sb1, sb2, sb3, sb4, sb5, sb6, sb7, ↓reduceIte, Nat.reduceAdd, Nat.reduceMul, Nat.reduceDiv, Nat.reduceEqDiff, Nat.reduceLT, Nat.reduceLeDiff, reduceCtorEq, Int.reduceEq, Int.reduceNe, Int.reduceLT, Int.reduceLE, Int.reduceAdd, Int.reduceSub, Int.reduceMul, Int.reduceNeg, Int.reduceToNat, Int.cast_ofNat_Int, Int.natCast_zero, Int.natCast_one, Int.toNat_natCast, Nat.reduceBEq, nzs, hbo, hx, hv.row.one]
  refine DrawK.ent (X := Mem) (fun N => M.le N) (fun N => ([(2, true, .ptr 16 0 0 0), (3, true, .ptr 24 0 0 0), (4, true, .ptr 32 0 0 0), (5, true, .ptr 40 0 0 0)], [(104, .row 2 ((ws ++ [x]).map encW)), (40, .box [.v b, .own 104] none), (32, .box [.v (.slice none 0 0), .v (.slice none 0 0)] none), (24, .box [.v (.string ⟨x.2.1.toArray⟩), .v x.1] none), (16, .box [.v b, .v v] none)], N)) ?_ ?_
  · refine DrawK.held3 10 [16, 24] (tk3 [0, 2, 5, 1, 3] (.three 4 (.two 6 (.two 7 (tk3 [8] (.one 9 .done)) 9 (.one 7 (tk3 [8] .done))) 9 (.one 6 (.one 7 (tk3 [8] .done)))) 6 (.two 4 (.two 7 (tk3 [8] (.one 9 .done)) 9 (.one 7 (tk3 [8] .done))) 9 (.one 4 (.one 7 (tk3 [8] .done)))) 9 (.two 4 (.one 6 (.one 7 (tk3 [8] .done))) 6 (.one 4 (.one 7 (tk3 [8] .done)))))) (by kernel_rfl) (by kernel_rfl) fun xs => ?_
    simp only [shs, zts, sos, sls, zss, eqs, sx, sb1, sb2, sb3, sb4, sb5, sb6, sb7, ↓reduceIte, Nat.reduceAdd, Nat.reduceMul, Nat.reduceDiv, Nat.reduceEqDiff, Nat.reduceLT, Nat.reduceLeDiff, reduceCtorEq, Int.reduceEq, Int.reduceNe, Int.reduceLT, Int.reduceLE, Int.reduceAdd, Int.reduceSub, Int.reduceMul, Int.reduceNeg, Int.reduceToNat, Int.cast_ofNat_Int, Int.natCast_zero, Int.natCast_one, Int.toNat_natCast, Nat.reduceBEq, nzs, se1, se2, se3, tks3, hx, oneVs hxs]
    refine ⟨?_, ⟨?_, ?_⟩, ?_, ?_⟩
    all_goals
      refine CallK.own Ctx.id rfl rfl (cloneV v ws M hv.row (by omega)) rfl fun M1 hM1 => ?_
      simp only [shs, zts, sos, sls, zss, eqs, sx, sb1, sb2, sb3, sb4, sb5, sb6, sb7, ↓reduceIte, Nat.reduceAdd, Nat.reduceMul, Nat.reduceDiv, Nat.reduceEqDiff, Nat.reduceLT, Nat.reduceLeDiff, reduceCtorEq, Int.reduceEq, Int.reduceNe, Int.reduceLT, Int.reduceLE, Int.reduceAdd, Int.reduceSub, Int.reduceMul, Int.reduceNeg, Int.reduceToNat, Int.cast_ofNat_Int, Int.natCast_zero, Int.natCast_one, Int.toNat_natCast, Nat.reduceBEq, nzs, se1, se2, se3, tks3, hx, oneVs hxs, oneVs hbs, hbo, List.length_map, hrow]
      repeat' apply And.intro
      all_goals first
        | exact hM1
        | omega
        | exact ⟨M1, hM1, Ent.heap (HEnt.untie (k := 32) rfl) (Ent.heap (HEnt.untie (k := 24) rfl) (Ent.heap (HEnt.untie (k := 16) rfl) (Ent.of (by simp only [sx, sb1, sb2, sb3, sb4, sb5, sb6, sb7, ↓reduceIte, Nat.reduceAdd, Nat.reduceMul, Nat.reduceDiv, Nat.reduceEqDiff, Nat.reduceLT, Nat.reduceLeDiff, reduceCtorEq, Int.reduceEq, Int.reduceNe, Int.reduceLT, Int.reduceLE, Int.reduceAdd, Int.reduceSub, Int.reduceMul, Int.reduceNeg, Int.reduceToNat, Int.cast_ofNat_Int, Int.natCast_zero, Int.natCast_one, Int.toNat_natCast, Nat.reduceBEq, hset]))))⟩
  · intro N hN
    simp only [shs, zts, sos, sls, zss, eqs, sx, sb1, sb2, sb3, sb4, sb5, sb6, sb7, ↓reduceIte, Nat.reduceAdd, Nat.reduceMul, Nat.reduceDiv, Nat.reduceEqDiff, Nat.reduceLT, Nat.reduceLeDiff, reduceCtorEq, Int.reduceEq, Int.reduceNe, Int.reduceLT, Int.reduceLE, Int.reduceAdd, Int.reduceSub, Int.reduceMul, Int.reduceNeg, Int.reduceToNat, Int.cast_ofNat_Int, Int.natCast_zero, Int.natCast_one, Int.toNat_natCast, Nat.reduceBEq, nzs]
    refine ⟨rfl, OpK.openRow (k := 104) 1002 rfl (fun _ => rfl) (fun h => by simp at h) fun bb cap sp r1 r2 => ?_⟩
    refine OpK.mkIface (t := 23) rfl rfl rfl rfl (by kernel_rfl) ⟨47, by kernel_rfl⟩ ?_
    simp only [shs, zts, sos, sls, zss, eqs, sx, sb1, sb2, sb3, sb4, sb5, sb6, sb7, ↓reduceIte, Nat.reduceAdd, Nat.reduceMul, Nat.reduceDiv, Nat.reduceEqDiff, Nat.reduceLT, Nat.reduceLeDiff, reduceCtorEq, Int.reduceEq, Int.reduceNe, Int.reduceLT, Int.reduceLE, Int.reduceAdd, Int.reduceSub, Int.reduceMul, Int.reduceNeg, Int.reduceToNat, Int.cast_ofNat_Int, Int.natCast_zero, Int.natCast_one, Int.toNat_natCast, Nat.reduceBEq, sp1, sp2, sp3, nzs, so0]
    refine stepK.mkFn rfl rfl ?_
    simp only [shs, zts, sos, sls, zss, eqs, sx, sb1, sb2, sb3, sb4, sb5, sb6, sb7, ↓reduceIte, Nat.reduceAdd, Nat.reduceMul, Nat.reduceDiv, Nat.reduceEqDiff, Nat.reduceLT, Nat.reduceLeDiff, reduceCtorEq, Int.reduceEq, Int.reduceNe, Int.reduceLT, Int.reduceLE, Int.reduceAdd, Int.reduceSub, Int.reduceMul, Int.reduceNeg, Int.reduceToNat, Int.cast_ofNat_Int, Int.natCast_zero, Int.natCast_one, Int.toNat_natCast, Nat.reduceBEq, nzs, List.length_map] at r1 ⊢
    refine CallK.sortRowJ 8016 40 1 encW 2 ltW (ws ++ [x]) (b := bb) (cap := cap) (sp := sp) (tb := none) rfl rfl rfl rfl encW_len rfl (by simp; omega) ⟨_, Proofs.Tryz.func109, by kernel_rfl, by kernel_rfl⟩ sortCW (srtLessW _ (by simp; omega)) fun l' p1 p2 => ?_
    have hlen := p1.length_eq
    have hl' := srt_insW (List.pairwise_map.1 hs) hf p1 p2
    subst hl'
    rw [encW_map h3, ← hlen]
    simp only [shs, zts, sos, sls, zss, eqs, sx, sb1, sb2, sb3, sb4, sb5, sb6, sb7, ↓reduceIte, Nat.reduceAdd, Nat.reduceMul, Nat.reduceDiv, Nat.reduceEqDiff, Nat.reduceLT, Nat.reduceLeDiff, reduceCtorEq, Int.reduceEq, Int.reduceNe, Int.reduceLT, Int.reduceLE, Int.reduceAdd, Int.reduceSub, Int.reduceMul, Int.reduceNeg, Int.reduceToNat, Int.cast_ofNat_Int, Int.natCast_zero, Int.natCast_one, Int.toNat_natCast, Nat.reduceBEq, sp1, sp2, sp3, nzs, hset, hbo]
    refine .inr (.inr ⟨bb, 8016, cap, sp, ?_, rfl, ?_⟩)
    · rw [List.length_map]
    · rw [List.length_map, hlen]
      exact r1
end Go.X.Vo

namespace Go.X.Vo
open Go Go.X Go.RowKit Go.X.Bg Go.X.Nm Go.X.Bp Go.X.Sb

/-! ### a bag, by keys -/
abbrev K2 := Int × Int
def kOf (x : It) : K2 := (x.1, x.2.1)
def itK (bag : List It) (k : K2) : Option It := bag.find? fun x => decide (kOf x = k)
def refK (bag : List It) (k : K2) : Int := ((itK bag k).map (·.2.2.2)).getD 0
theorem itK_mem {bag : List It} {k : K2} {x : It} (h : itK bag k = some x) : x ∈ bag ∧ kOf x = k := by
  unfold itK at h
  exact ⟨List.mem_of_find?_eq_some h, by simpa using List.find?_some h⟩
theorem isId_iff {id : Id3} {x : It} : isId id x = true ↔ id.1 = true ∧ kOf x = id.2 := by
  unfold isId kOf
  simp only [Bool.and_eq_true, decide_eq_true_eq]
  constructor
  · rintro ⟨h1, h2, h3⟩
    exact ⟨h1, by rw [h2, h3]⟩
  · rintro ⟨h1, h2⟩
    exact ⟨h1, congrArg Prod.fst h2, congrArg Prod.snd h2⟩
/-! ### one less, one more -/
/-- what Put makes of a right bag -/
structure PutR (bag : List It) (s : List UInt8) (bag' : List It) (id : Id3) : Prop where
  ok : bagE bag' = 0
  is : id.1 = true
  itk : ∀ k, itK bag' k = if k = id.2 then some (k.1, k.2, s, refK bag k + 1) else itK bag k
  txt : ∀ x, itK bag id.2 = some x → x.2.2.1 = s
  old : (∃ x ∈ bag, x.2.2.1 = s) → bag'.length = bag.length
  new : bag'.length ≤ bag.length + 1
  txts : ∀ t, (∃ x ∈ bag', x.2.2.1 = t) ↔ t = s ∨ ∃ x ∈ bag, x.2.2.1 = t
/-! ### right states -/
structure Rt (bag : List It) (l : List Vol) : Prop where
  ok : bagE bag = 0
  len : l.length ≤ 6
  vol : ∀ v ∈ l, v.2.length ≤ 32 ∧ nmB v.1 = true
  srt : l.Pairwise fun a b => Op.bytesLess a.1 b.1 = true
  ids : ∀ id ∈ idsOf l, id.1 = false → id = hole
  cnt : ∀ k : K2, (((idsOf l).count (true, k) : Nat) : Int) = refK bag k
theorem refK_pos {bag : List It} (h : bagE bag = 0) {k : K2} : (itK bag k ≠ none ↔ 1 ≤ refK bag k) ∧ (itK bag k = none ↔ refK bag k = 0) := by
  unfold refK
  cases hx : itK bag k with
  | none => simp
  | some x =>
    have := (oneE_ok (((bagE_iff bag).1 h).2.1 x (itK_mem hx).1)).2.2
    simp only [Option.map_some, Option.getD_some, ne_eq, reduceCtorEq, not_false_eq_true, true_iff, false_iff]
    omega
/-! ### counts -/
/-! ### setV, insV, delV -/
theorem idAt_at {l : List Vol} {i a : Nat} {x : Vol} {y : Id3} (h : l[i]? = some x) (hy : x.2[a]? = some y) : idAt l i a = y := by unfold idAt; rw [volAt_at h, hy]; rfl
theorem Rt.ref {bag : List It} {l : List Vol} (h : Rt bag l) {id : Id3} (hm : id ∈ idsOf l) (h1 : id.1 = true) : 1 ≤ refK bag id.2 := by
  have e : id = (true, id.2) := by obtain ⟨a, b⟩ := id; simp only at h1; rw [h1]
  rw [e] at hm
  have := List.count_pos_iff.2 hm
  have := h.cnt id.2
  omega
theorem Rt.it {bag : List It} {l : List Vol} (h : Rt bag l) {id : Id3} (hm : id ∈ idsOf l) (h1 : id.1 = true) : itK bag id.2 ≠ none := (refK_pos h.ok).1.2 (h.ref hm h1)
/-! with a volume more, or less -/
theorem freshE_ok {l : List Vol} {n : List UInt8} (h : freshE l n = 0) : nmB n = true ∧ (∀ y ∈ l, y.1 ≠ n) ∧ l.length ≤ 5 := by
  unfold freshE at h
  split at h
  · cases h
  rename_i h1
  split at h
  · cases h
  rename_i h2
  split at h
  · cases h
  rename_i h3
  refine ⟨by simpa using h1, fun y hy e => ?_, by omega⟩
  rcases volIx_sp l n with ⟨_, k2⟩ | ⟨j, x, k1, _⟩
  · exact k2 y hy e
  · rw [k1] at h2; omega
/-! ### answers are right states -/
end Go.X.Vo

namespace Go.X.Vo
open Go Go.X Go.RowKit Go.X.Bg Go.X.Nm Go.X.Bp Go.X.Sb

theorem stO_zero (e : Value) (H : HS) (M : Mem) : StO (fun s => .tup [s, .v e]) zSt (.tup [.agg [.v (.slice none 0 0), .v (.slice none 0 0)], .v e]) H M :=
  ⟨.v (.slice none 0 0), .v (.slice none 0 0), [], rfl, rfl, fun k h => (by cases h), ⟨RowM.nil M 4, RowM.nil M 2⟩, fun w hw => by cases hw⟩
theorem insW_mem {l : List WV} {x y : WV} (h : y ∈ insW l x) : y ∈ l ∨ y = x := by
  unfold insW at h
  rcases List.mem_append.1 h with h | h
  · exact .inl (List.mem_of_mem_take h)
  · rcases List.mem_cons.1 h with rfl | h
    · exact .inr rfl
    · exact .inl (List.mem_of_mem_drop h)
/-- what stays known when the row of volumes is lent -/
theorem StF.added {M0 M2 M3 M4 : Mem} {b v u : Value} {bag : List It} {ws : List WV} {n : List UInt8} {ids : List Id3} (h : StF M0 M2 b v bag ws) (h0 : M0.le M2) (hM : M2.le M3) (hu : RowF M3 u 3 (ids.map encI3)) (hf : freshB M2 u) (hb : butB M3 M4 v) :
    M0.le M4 ∧ RowM M4 b 4 (bag.map Bg.encT) ∧ ∀ w ∈ insW ws (u, n, ids), RowM M4 w.1 3 (w.2.2.map encI3) := by
  obtain ⟨g1, g2⟩ := (h.le hM).offV hb
  refine ⟨le_but (h0.trans hM) h.fv hb, g1.row, fun w hw => ?_⟩
  rcases insW_mem hw with hw | rfl
  · exact (g2 w hw).row
  · exact (RowF.but hu hb (RowF.apart h.vols hf).symm).row
theorem hT_agg (b : Value) : Ctx (fun s => .agg [.v b, s]) := fun s s' ν ν' h => by simp only [SV.val, SV.vals, h]
theorem hA_add (b : Value) (x : SV) (hx : x.conc = true) : Ctxs (fun s => [.agg [.v b, s], x]) := fun s s' ν ν' h => by
  simp only [SV.vals, SV.val, h, SV.conc_val (ν := ν) (ν' := ν') x hx]
theorem replicate_hole (k : Nat) : (List.replicate k hole).map encI3 = List.replicate k [.bool false, .int .i64 0, .int .i64 0] := by
  rw [List.map_replicate]
  rfl
theorem make (b v : Value) (bag : List It) (ws : List WV) (n : List UInt8) (k : Int) (M : Mem) (hb : RowM M b 4 (bag.map Bg.encT)) (hv : VolsM M v ws) :
    Meets Proofs.Tryz.prog 13 [stV b v, .v (.string ⟨n.toArray⟩), .v (.int .i64 k)] M (StM (fun s => .tup [s, .v (.int .i64 (makeA bag (ws.map (·.2)) n k).2)]) (makeA bag (ws.map (·.2)) n k).1) := by
  refine Meets.settleM (Ctx.fst _) ?_
  refine Meets.of_body [0,1,2,3,6,7,8,9,13,21,27] Proofs.Tryz.func13 rfl (by kernel_rfl) rfl fun w => ?_
  generalize hc : makeA bag (ws.map (·.2)) n k = c
  unfold makeA at hc
  have hC := vcheck b v bag ws M hb hv
  simp only [stV] at hC
  simp only [Proofs.Tryz.f13, stV, shs, zts, sos, sls, zss, eqs, sx, sb1, sb2, sb3, sb4, sb5, sb6, sb7, ↓reduceIte, Nat.reduceAdd, Nat.reduceMul, Nat.reduceDiv, Nat.reduceEqDiff, Nat.reduceLT, Nat.reduceLeDiff, reduceCtorEq, Int.reduceEq, Int.reduceNe, Int.reduceLT, Int.reduceLE, Int.reduceAdd, Int.reduceSub, Int.reduceMul, Int.reduceNeg, Int.reduceToNat, Int.cast_ofNat_Int, Int.natCast_zero, Int.natCast_one, Int.toNat_natCast, Nat.reduceBEq, nzs]
  refine CallK.pure ⟨rfl, rfl⟩ rfl hC ?_
  by_cases h1 : stE bag (ws.map (·.2)) = 0
  rotate_left
  · have c1 := eq_false h1
    rw [if_pos h1] at hc
    subst hc
    simp only [shs, zts, sos, sls, zss, eqs, sx, sb1, sb2, sb3, sb4, sb5, sb6, sb7, ↓reduceIte, Nat.reduceAdd, Nat.reduceMul, Nat.reduceDiv, Nat.reduceEqDiff, Nat.reduceLT, Nat.reduceLeDiff, reduceCtorEq, Int.reduceEq, Int.reduceNe, Int.reduceLT, Int.reduceLE, Int.reduceAdd, Int.reduceSub, Int.reduceMul, Int.reduceNeg, Int.reduceToNat, Int.cast_ofNat_Int, Int.natCast_zero, Int.natCast_one, Int.toNat_natCast, Nat.reduceBEq, nzs, c1]
    exact stO_zero _ _ _
  rw [if_neg (fun h => h h1)] at hc
  obtain ⟨hB, hV, _⟩ := stE_ok h1
  have hVo := volsE_ok hV
  have hsrt := vols_srt hV
  have hbl := bag_len hB
  rw [List.length_map] at hVo
  have hli : ∀ w ∈ ws, w.2.2.length ≤ 32 := fun w hw => (hVo.2 w.2 (List.mem_map_of_mem hw)).1
  by_cases h2 : k < 1
  · have c2 := eq_true h2
    rw [if_pos (.inl h2)] at hc
    subst hc
    simp only [shs, zts, sos, sls, zss, eqs, sx, sb1, sb2, sb3, sb4, sb5, sb6, sb7, ↓reduceIte, Nat.reduceAdd, Nat.reduceMul, Nat.reduceDiv, Nat.reduceEqDiff, Nat.reduceLT, Nat.reduceLeDiff, reduceCtorEq, Int.reduceEq, Int.reduceNe, Int.reduceLT, Int.reduceLE, Int.reduceAdd, Int.reduceSub, Int.reduceMul, Int.reduceNeg, Int.reduceToNat, Int.cast_ofNat_Int, Int.natCast_zero, Int.natCast_one, Int.toNat_natCast, Nat.reduceBEq, nzs, h1, c2]
    exact stO_zero _ _ _
  have c2 := eq_false h2
  by_cases h3 : 32 < k
  · have c3 := eq_true h3
    rw [if_pos (.inr h3)] at hc
    subst hc
    simp only [shs, zts, sos, sls, zss, eqs, sx, sb1, sb2, sb3, sb4, sb5, sb6, sb7, ↓reduceIte, Nat.reduceAdd, Nat.reduceMul, Nat.reduceDiv, Nat.reduceEqDiff, Nat.reduceLT, Nat.reduceLeDiff, reduceCtorEq, Int.reduceEq, Int.reduceNe, Int.reduceLT, Int.reduceLE, Int.reduceAdd, Int.reduceSub, Int.reduceMul, Int.reduceNeg, Int.reduceToNat, Int.cast_ofNat_Int, Int.natCast_zero, Int.natCast_one, Int.toNat_natCast, Nat.reduceBEq, nzs, h1, c2, c3]
    exact stO_zero _ _ _
  have c3 := eq_false h3
  rw [if_neg (by omega)] at hc
  have hF := vfresh b v ws n M hv hVo.1
  simp only [stV] at hF
  simp only [shs, zts, sos, sls, zss, eqs, sx, sb1, sb2, sb3, sb4, sb5, sb6, sb7, ↓reduceIte, Nat.reduceAdd, Nat.reduceMul, Nat.reduceDiv, Nat.reduceEqDiff, Nat.reduceLT, Nat.reduceLeDiff, reduceCtorEq, Int.reduceEq, Int.reduceNe, Int.reduceLT, Int.reduceLE, Int.reduceAdd, Int.reduceSub, Int.reduceMul, Int.reduceNeg, Int.reduceToNat, Int.cast_ofNat_Int, Int.natCast_zero, Int.natCast_one, Int.toNat_natCast, Nat.reduceBEq, nzs, h1, c2, c3]
  refine CallK.pure ⟨rfl, rfl⟩ rfl hF ?_
  by_cases h4 : freshE (ws.map (·.2)) n = 0
  rotate_left
  · have c4 := eq_false h4
    rw [if_pos h4] at hc
    subst hc
    simp only [shs, zts, sos, sls, zss, eqs, sx, sb1, sb2, sb3, sb4, sb5, sb6, sb7, ↓reduceIte, Nat.reduceAdd, Nat.reduceMul, Nat.reduceDiv, Nat.reduceEqDiff, Nat.reduceLT, Nat.reduceLeDiff, reduceCtorEq, Int.reduceEq, Int.reduceNe, Int.reduceLT, Int.reduceLE, Int.reduceAdd, Int.reduceSub, Int.reduceMul, Int.reduceNeg, Int.reduceToNat, Int.cast_ofNat_Int, Int.natCast_zero, Int.natCast_one, Int.toNat_natCast, Nat.reduceBEq, nzs, c4]
    exact stO_zero _ _ _
  rw [if_neg (fun h => h h4)] at hc
  subst hc
  obtain ⟨m, rfl⟩ : ∃ m : Nat, k = m := ⟨k.toNat, by omega⟩
  have hcp := copied b v bag ws M hb hv (by omega) (by omega) (fun w hw => Nat.le_trans (hli w hw) (by omega))
  simp only [stV] at hcp
  simp only [shs, zts, sos, sls, zss, eqs, sx, sb1, sb2, sb3, sb4, sb5, sb6, sb7, ↓reduceIte, Nat.reduceAdd, Nat.reduceMul, Nat.reduceDiv, Nat.reduceEqDiff, Nat.reduceLT, Nat.reduceLeDiff, reduceCtorEq, Int.reduceEq, Int.reduceNe, Int.reduceLT, Int.reduceLE, Int.reduceAdd, Int.reduceSub, Int.reduceMul, Int.reduceNeg, Int.reduceToNat, Int.cast_ofNat_Int, Int.natCast_zero, Int.natCast_one, Int.toNat_natCast, Nat.reduceBEq, nzs, h4]
  have hend : ∀ (b2 v2 u : Value) (ws2 : List WV) (M2 M3 M4 : Mem), M.le M2 → ws2.map (·.2) = ws.map (·.2) → StF M M2 b2 v2 bag ws2 → M2.le M3 → RowF M3 u 3 ((List.replicate m hole).map encI3) → freshB M2 u → butB M3 M4 v2 →
      M.le M4 ∧ ∀ H, hget H 288 = some (.row 2 ((insW ws2 (u, n, List.replicate m hole)).map encV)) → StO (fun s => .tup [s, .v (.int .i64 0)]) (makeS bag (ws.map (·.2)) n m) (.tup [.agg [.v b2, .own 288], .v (.int .i64 0)]) H M4 := fun b2 v2 u ws2 M2 M3 M4 hM2 hw2 hS hM3 hu huf hb4 => by
    obtain ⟨q1, q2, q3⟩ := hS.added (n := n) hM2 hM3 hu huf hb4
    refine ⟨q1, fun H hH => ⟨.v b2, .own 288, insW ws2 (u, n, List.replicate m hole), rfl, ?_, fun k h => (by cases h), ⟨q2, hH⟩, q3⟩⟩
    rw [insW_map, hw2]
    simp only [makeS]
  have hadd : ∀ (b2 u : Value) (ws2 : List WV) (M2 M6 : Mem) (v2 : Value), ws2.map (·.2) = ws.map (·.2) → StF M M2 b2 v2 bag ws2 → u.oneCell' = true → MeetsH Proofs.Tryz.prog 63 [.agg [.v b2, .own 8000], wvV (u, n, List.replicate m hole)] [(8000, .row 2 (ws2.map encV))] M6 (OwnR (fun s => .agg [.v b2, s]) 2 ((insW ws2 (u, n, List.replicate m hole)).map encV)) := fun b2 u ws2 M2 M6 v2 hw2 hS hu => by
    refine add b2 ws2 (u, n, List.replicate m hole) M6 hS.bag.row.one (fun w hw => (hS.blk w hw).row.one) hu (by rw [hw2]; exact hsrt) ?_
    have := congrArg List.length hw2
    rw [List.length_map, List.length_map] at this
    omega
  refine DrawK.held [24] (tk [0, 2, 3] (.two 1 (.one 4 (tk [5] (.one 6 (.one 7 (tk [8] .done))))) 4 (tk [5] (.one 1 (.one 6 (.one 7 (tk [8] .done))))))) (by kernel_rfl) (by kernel_rfl) fun xs => ?_
  simp only [shs, zts, sos, sls, zss, eqs, sx, sb1, sb2, sb3, sb4, sb5, sb6, sb7, ↓reduceIte, Nat.reduceAdd, Nat.reduceMul, Nat.reduceDiv, Nat.reduceEqDiff, Nat.reduceLT, Nat.reduceLeDiff, reduceCtorEq, Int.reduceEq, Int.reduceNe, Int.reduceLT, Int.reduceLE, Int.reduceAdd, Int.reduceSub, Int.reduceMul, Int.reduceNeg, Int.reduceToNat, Int.cast_ofNat_Int, Int.natCast_zero, Int.natCast_one, Int.toNat_natCast, Nat.reduceBEq, nzs, se1, se2, tks, ← replicate_hole]
  refine ⟨?_, ?_⟩
  · refine CallK.stF (T := fun s => s) (fun _ _ => rfl) rfl rfl hcp fun b2 v2 ws2 M2 hM2 hw2 hS => ?_
    simp only [shs, zts, sos, sls, zss, eqs, sx, sb1, sb2, sb3, sb4, sb5, sb6, sb7, ↓reduceIte, Nat.reduceAdd, Nat.reduceMul, Nat.reduceDiv, Nat.reduceEqDiff, Nat.reduceLT, Nat.reduceLeDiff, reduceCtorEq, Int.reduceEq, Int.reduceNe, Int.reduceLT, Int.reduceLE, Int.reduceAdd, Int.reduceSub, Int.reduceMul, Int.reduceNeg, Int.reduceToNat, Int.cast_ofNat_Int, Int.natCast_zero, Int.natCast_one, Int.toNat_natCast, Nat.reduceBEq, nzs, se1, se2, tks, ← replicate_hole, stV]
    refine ⟨hM2, ⟨⟨by omega, by omega⟩, by omega, by omega⟩, hM2, ?_⟩
    refine CallK.pubF (k := 272) rfl fun u M3 hM3 hu huf => ?_
    simp only [shs, zts, sos, sls, zss, eqs, sx, sb1, sb2, sb3, sb4, sb5, sb6, sb7, ↓reduceIte, Nat.reduceAdd, Nat.reduceMul, Nat.reduceDiv, Nat.reduceEqDiff, Nat.reduceLT, Nat.reduceLeDiff, reduceCtorEq, Int.reduceEq, Int.reduceNe, Int.reduceLT, Int.reduceLE, Int.reduceAdd, Int.reduceSub, Int.reduceMul, Int.reduceNeg, Int.reduceToNat, Int.cast_ofNat_Int, Int.natCast_zero, Int.natCast_one, Int.toNat_natCast, Nat.reduceBEq, sp1, sp2, sp3, nzs]
    refine CallK.claim (A := fun s => [.agg [.v b2, s], wvV (u, n, List.replicate m hole)]) 1000 (hA_add b2 (wvV (u, n, List.replicate m hole)) rfl) rfl (hS.vols.le hM3) hS.fv rfl rfl fun M4 hb4 => ?_
    refine CallK.lendR (A := fun s => [.agg [.v b2, s], wvV (u, n, List.replicate m hole)]) (T := fun s => .agg [.v b2, s]) 8000 (hA_add b2 (wvV (u, n, List.replicate m hole)) rfl) (hT_agg b2) rfl rfl rfl (fun M6 _ => hadd b2 u ws2 M2 M6 v2 hw2 hS hu.row.one) rfl ?_
    obtain ⟨e1, e2⟩ := hend b2 v2 u ws2 M2 M3 M4 hM2 hw2 hS hM3 hu huf hb4
    simp only [shs, zts, sos, sls, zss, eqs, sx, sb1, sb2, sb3, sb4, sb5, sb6, sb7, ↓reduceIte, Nat.reduceAdd, Nat.reduceMul, Nat.reduceDiv, Nat.reduceEqDiff, Nat.reduceLT, Nat.reduceLeDiff, reduceCtorEq, Int.reduceEq, Int.reduceNe, Int.reduceLT, Int.reduceLE, Int.reduceAdd, Int.reduceSub, Int.reduceMul, Int.reduceNeg, Int.reduceToNat, Int.cast_ofNat_Int, Int.natCast_zero, Int.natCast_one, Int.toNat_natCast, Nat.reduceBEq, sp1, sp2, sp3, nzs, se1, se2, tks, hS.bag.row.one]
    exact ⟨e1, e1, e2 _ rfl⟩
  · refine ⟨⟨⟨by omega, by omega⟩, by omega, by omega⟩, CallK.stF (T := fun s => s) (fun _ _ => rfl) rfl rfl hcp fun b2 v2 ws2 M2 hM2 hw2 hS => ?_⟩
    simp only [shs, zts, sos, sls, zss, eqs, sx, sb1, sb2, sb3, sb4, sb5, sb6, sb7, ↓reduceIte, Nat.reduceAdd, Nat.reduceMul, Nat.reduceDiv, Nat.reduceEqDiff, Nat.reduceLT, Nat.reduceLeDiff, reduceCtorEq, Int.reduceEq, Int.reduceNe, Int.reduceLT, Int.reduceLE, Int.reduceAdd, Int.reduceSub, Int.reduceMul, Int.reduceNeg, Int.reduceToNat, Int.cast_ofNat_Int, Int.natCast_zero, Int.natCast_one, Int.toNat_natCast, Nat.reduceBEq, nzs, se1, se2, tks, stV]
    refine ⟨hM2, ?_⟩
    refine CallK.pubF (k := 272) rfl fun u M3 hM3 hu huf => ?_
    simp only [shs, zts, sos, sls, zss, eqs, sx, sb1, sb2, sb3, sb4, sb5, sb6, sb7, ↓reduceIte, Nat.reduceAdd, Nat.reduceMul, Nat.reduceDiv, Nat.reduceEqDiff, Nat.reduceLT, Nat.reduceLeDiff, reduceCtorEq, Int.reduceEq, Int.reduceNe, Int.reduceLT, Int.reduceLE, Int.reduceAdd, Int.reduceSub, Int.reduceMul, Int.reduceNeg, Int.reduceToNat, Int.cast_ofNat_Int, Int.natCast_zero, Int.natCast_one, Int.toNat_natCast, Nat.reduceBEq, sp1, sp2, sp3, nzs]
    refine CallK.claim (A := fun s => [.agg [.v b2, s], wvV (u, n, List.replicate m hole)]) 1000 (hA_add b2 (wvV (u, n, List.replicate m hole)) rfl) rfl (hS.vols.le hM3) hS.fv rfl rfl fun M4 hb4 => ?_
    refine CallK.lendR (A := fun s => [.agg [.v b2, s], wvV (u, n, List.replicate m hole)]) (T := fun s => .agg [.v b2, s]) 8000 (hA_add b2 (wvV (u, n, List.replicate m hole)) rfl) (hT_agg b2) rfl rfl rfl (fun M6 _ => hadd b2 u ws2 M2 M6 v2 hw2 hS hu.row.one) rfl ?_
    obtain ⟨e1, e2⟩ := hend b2 v2 u ws2 M2 M3 M4 hM2 hw2 hS hM3 hu huf hb4
    simp only [shs, zts, sos, sls, zss, eqs, sx, sb1, sb2, sb3, sb4, sb5, sb6, sb7, ↓reduceIte, Nat.reduceAdd, Nat.reduceMul, Nat.reduceDiv, Nat.reduceEqDiff, Nat.reduceLT, Nat.reduceLeDiff, reduceCtorEq, Int.reduceEq, Int.reduceNe, Int.reduceLT, Int.reduceLE, Int.reduceAdd, Int.reduceSub, Int.reduceMul, Int.reduceNeg, Int.reduceToNat, Int.cast_ofNat_Int, Int.natCast_zero, Int.natCast_one, Int.toNat_natCast, Nat.reduceBEq, sp1, sp2, sp3, nzs, se1, se2, tks, hS.bag.row.one]
    exact ⟨e1, e1, e2 _ rfl⟩
end Go.X.Vo

