/- sort.Slice of items, by print and number. Conditions: none. -/
import Derived.Test.YtbnbimncladflaaFwU
import Derived.Test.YtbnbimncladflaaSrA
import Derived.Test.YtbnbimncladflaaBagP
set_option linter.unusedSimpArgs false
set_option linter.unusedVariables false
set_option maxHeartbeats 4000000
set_option maxRecDepth 20000
namespace Go.Proofs
open Go.Shelf Go.RowKit Go.Lib Go.Sort
noncomputable def Try.slT : TypeInfo := (Try.prog.info? 23).get (by kernel_rfl)
noncomputable def Try.slE : TypeInfo := (Try.prog.info? 66).get (by kernel_rfl)
theorem Try.slK (n : Nat) (h2 : 2 ≤ n) : Lib.swapperK n Try.slE 25 = 9 := by
  have a : Try.slE.hasPointers = true := by kernel_rfl
  have b : Try.slE.bytes = 40 := by kernel_rfl
  have c : (n == 0) = false := by simp; omega
  have d : (n == 1) = false := by simp; omega
  simp [Lib.swapperK, a, b, c, d]
end Go.Proofs
namespace Go.X.Bp
open Go Go.X Go.RowKit Go.X.Bg Go.X.Sb
def ltI (a b : It) : Bool := decide (cmpT a b < 0)
theorem swo : Sort.SWO ltI := by
  refine ⟨fun x => ?_, fun x y z h1 h2 => ?_, fun x y z h1 h2 => ?_⟩
  · simp [ltI, cmp_lt]
  · simp only [ltI, decide_eq_true_eq] at *
    exact cmp_trans h1 h2
  · simp only [ltI, decide_eq_false_iff_not, cmp_lt] at *
    omega
theorem encT_len (x : It) : (Bg.encT x).length = 4 := rfl
theorem srtLess (size : Nat) (hsz : size < 4611686018427387904) : LessC Proofs.Try.prog 71 Bg.encT 4 ltI size := fun W Bs blk c dk hdk h1 h2 i j hi hj => by
  refine (Proofs.Try.putLess blk 0 c Bs size W (fun t => dk[t]!.1) (fun t => dk[t]!.2.1) h1 (fun t ht => ⟨h2 t 0 ht (by omega), h2 t 1 ht (by omega)⟩) i j hi hj hsz).mono ?_
  rintro e w' ⟨rfl, q⟩
  refine ⟨?_, q⟩
  congr 2
  simp only [ltI, cmp_lt]
theorem sortC : SortC Proofs.Try.prog 70 71 23 Bg.encT 4 ltI := by
  refine ⟨fun p n c hn lb w => ?_, fun blk c d h2 hsz lb w hl hH hb => ?_⟩
  · have : ∃ f, Proofs.Try.prog.funcs.findIdx? (·.name == "internal/reflectlite" ++ ".Swapper$" ++ toString (Lib.swapperK n Proofs.Try.slE 25)) = some f := by
      rcases Nat.lt_or_ge n 1 with h | h
      · have : n = 0 := by omega
        subst this
        exact ⟨118, by kernel_rfl⟩
      · have : n = 1 := by omega
        subst this
        exact ⟨119, by kernel_rfl⟩
    obtain ⟨f, hf⟩ := this
    exact Proofs.Any.sort_Slice_tiny Proofs.Try.sl6 23 66 Proofs.Try.slT Proofs.Try.slE (by kernel_rfl) (by kernel_rfl) (by kernel_rfl) (by kernel_rfl) 25 (fun _ => by kernel_rfl) p n c hn f hf (.func 71) #[] lb w
  · exact Proofs.Any.sort_Slice_cells_sorted Proofs.Try.sl6 23 66 Proofs.Try.slT Proofs.Try.slE (by kernel_rfl) (by kernel_rfl) (by kernel_rfl) (by kernel_rfl) 25 (fun _ => by kernel_rfl) Bg.encT 4 encT_len (by kernel_rfl) (fun _ => by kernel_rfl)
      oneCell_it ltI swo 71 _ (Proofs.enters_of Proofs.Try.func71 (by kernel_rfl) rfl) blk 0 c d h2 hsz 126 (by rw [Proofs.Try.slK _ h2]; kernel_rfl) false
      (fun args W => run_callFunc_extern Proofs.Try.func126 (by kernel_rfl) (by kernel_rfl) (by kernel_rfl) (e := Extern.ReflectliteSwapper.swap false) (by kernel_rfl) args W) w hl hH hb

/-- the sorted row is the one where the new item stands at its place -/
theorem srt_unique {l l' : List It} (h1 : l'.Perm l) (h2 : l'.Pairwise (fun x y => ltI y x = false)) (h3 : l.Pairwise (fun a b => cmpT a b < 0)) : l' = l := by
  have hd : ∀ a b, a ∈ l → b ∈ l → cmpT a b = 0 → a = b := fun a b ha hb he => by
    obtain ⟨i, hi, rfl⟩ := List.mem_iff_getElem.1 ha
    obtain ⟨j, hj, rfl⟩ := List.mem_iff_getElem.1 hb
    rw [List.pairwise_iff_getElem] at h3
    rcases Nat.lt_trichotomy i j with h | h | h
    · have := h3 i j hi hj h
      omega
    · subst h; rfl
    · have := h3 j i hj hi h
      rw [cmp_lt] at this
      have h0 : ¬ cmpT l[i] l[j] < 0 := by omega
      unfold cmpT at he
      split at he <;> omega
  refine h1.eq_of_pairwise (le := fun x y => ltI y x = false) (fun a b ha hb h4 h5 => ?_) h2 (h3.imp fun {a b} h => ?_)
  · refine hd a b (h1.subset ha) hb ?_
    simp only [ltI, decide_eq_false_iff_not, cmp_lt] at h4 h5
    unfold cmpT
    split <;> omega
  · simp only [ltI, decide_eq_false_iff_not, cmp_lt] at *
    omega
theorem insI_cons (y : It) (r : List It) (x : It) : insI (y :: r) x = if cmpT y x < 0 then y :: insI r x else x :: y :: r := by
  unfold insI
  rw [show bk (fun z => cmpT z x) (y :: r) = if cmpT y x < 0 then bk (fun z => cmpT z x) r + 1 else 0 from rfl]
  split <;> rfl
theorem insI_perm (x : It) : ∀ l : List It, (insI l x).Perm (l ++ [x])
  | [] => List.Perm.refl _
  | y :: r => by
    rw [insI_cons]
    split
    · exact (insI_perm x r).cons y
    · exact (List.perm_append_singleton x (y :: r)).symm
theorem insI_srt (x : It) : ∀ l : List It, l.Pairwise (fun a b => cmpT a b < 0) → (∀ y ∈ l, ¬ (y.1 = x.1 ∧ y.2.1 = x.2.1)) → (insI l x).Pairwise (fun a b => cmpT a b < 0)
  | [], _, _ => List.pairwise_singleton _ _
  | y :: r, h, hx => by
    rw [insI_cons]
    obtain ⟨h1, h2⟩ := List.pairwise_cons.1 h
    split
    · rename_i hy
      refine List.pairwise_cons.2 ⟨fun z hz => ?_, insI_srt x r h2 (fun z hz => hx z (by simp [hz]))⟩
      rcases List.mem_append.1 ((insI_perm x r).subset hz) with hz | hz
      · exact h1 z hz
      · rw [List.mem_singleton.1 hz]; exact hy
    · rename_i hy
      have hxy : cmpT x y < 0 := by
        have := hx y (by simp)
        rw [cmp_lt] at *
        omega
      refine List.pairwise_cons.2 ⟨fun z hz => ?_, h⟩
      rcases List.mem_cons.1 hz with rfl | hz
      · exact hxy
      · exact cmp_trans hxy (h1 z hz)
theorem srt_ins {l l' : List It} {x : It} (hl : l.Pairwise (fun a b => cmpT a b < 0)) (hx : ∀ y ∈ l, ¬ (y.1 = x.1 ∧ y.2.1 = x.2.1)) (h1 : l'.Perm (l ++ [x])) (h2 : l'.Pairwise (fun x y => ltI y x = false)) : l' = insI l x :=
  srt_unique (h1.trans (insI_perm x l).symm) h2 (insI_srt x l hl hx)
end Go.X.Bp
