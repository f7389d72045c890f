/- The library's sort of texts, as a contract that turns a row; the keys of a map, sorted. -/
import Derived.Test.YtnhfkdgambncfaaGreatDoorQH1
import Derived.Test.YtnhfkdgambncfaaGreatDoorQS27
import Derived.Test.YtnhfkdgambncfaaGreatDoorQT0
set_option linter.unusedVariables false
set_option linter.unusedSimpArgs false
set_option linter.unusedSectionVars false
namespace Go.Proofs.YtnhfkdgambncfaaGreatDoor.XT
open Go Go.RowKit Go.Sort Go.Proofs.YtnhfkdgambncfaaGreatDoor.Sv
theorem srt_ex : ∃ g : List D → List D, g = sortT := ⟨_, rfl⟩
noncomputable def srtD : List D → List D := Classical.choose srt_ex
theorem srtD_eq : srtD = sortT := Classical.choose_spec srt_ex
theorem srtD_len (xs : List D) : (srtD xs).length = xs.length := by rw [srtD_eq]; exact sortT_len xs
noncomputable def sortsC : Con := rowC 9 .s [] (fun xs => xs.length < 4611686018427387904) srtD
theorem sortsC_ok {Γ : Gl} : RowOK Tryz.prog Γ 41 sortsC 9 .s [] := by
  unfold sortsC
  rw [srtD_eq]
  exact sort_rowT (fun d b c w h1 h2 h3 => Tryz.slices_Sort_string b 0 c d w h1 h2 h3) (fun p c w => Tryz.slices_Sort_string_none p c w)
/-- in whatever order they come, sorted they are the same -/
theorem srtD_perm {a b : List D} (h : a.Perm b) : srtD a = srtD b := by
  rw [srtD_eq]
  unfold sortT
  congr 1
  have hp : (a.map fun x => x.str.toList).Perm (b.map fun x => x.str.toList) := h.map _
  have tr : ∀ x y z : List UInt8, decide (x ≤ y) = true → decide (y ≤ z) = true → decide (x ≤ z) = true := fun x y z h1 h2 => decide_eq_true (List.le_trans (of_decide_eq_true h1) (of_decide_eq_true h2))
  have tot : ∀ x y : List UInt8, (decide (x ≤ y) || decide (y ≤ x)) = true := fun x y => by
    rcases List.le_total x y with h | h
    · rw [decide_eq_true h]; rfl
    · rw [decide_eq_true h, Bool.or_true]
  have s1 := List.pairwise_mergeSort tr tot (a.map fun x => x.str.toList)
  have s2 := List.pairwise_mergeSort tr tot (b.map fun x => x.str.toList)
  have pp := ((List.mergeSort_perm (a.map fun x => x.str.toList) (fun x y => decide (x ≤ y))).trans hp).trans (List.mergeSort_perm (b.map fun x => x.str.toList) (fun x y => decide (x ≤ y))).symm
  exact pp.eq_of_pairwise (fun x y _ _ h1 h2 => List.le_antisymm (of_decide_eq_true h1) (of_decide_eq_true h2)) s1 s2
end Go.Proofs.YtnhfkdgambncfaaGreatDoor.XT
