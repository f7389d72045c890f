/- What came in, as the laws' contracts ask for it: values read and back. -/
import Derived.Test.YtbbjonjhaoeidaaDoorQTK
import Derived.Test.YtbbjonjhaoeidaaDoorQT18
set_option linter.unusedVariables false
set_option linter.unusedSimpArgs false
namespace Go.Proofs.YtbbjonjhaoeidaaDoor.XT
open Go Go.RowKit Go.Proofs.YtbbjonjhaoeidaaDoor.Sv Go.Proofs.YtbbjonjhaoeidaaDoor.W
theorem vrd_pre (ds : List D) (hl : ds.length = 2) (hg : GTs reachBytes [.s, .s] ds) : ∀ p ∈ vrdLC.pre ds, p := by
  obtain ⟨a, b, rfl⟩ := len2 hl
  obtain ⟨h1, h2, -⟩ := hg
  have r : reachBytes ≤ 140737488355327 := by decide
  intro p hp
  simp only [vrdLC, nthD, List.mem_cons, List.not_mem_nil, or_false] at hp
  rcases hp with rfl | rfl
  · exact Nat.le_trans h1 r
  · exact Nat.le_trans h2 r
theorem vbk_pre (ds : List D) (hl : ds.length = 5) (hg : GTs reachBytes [valT, valT, .s, .s, .s] ds) : ∀ p ∈ vbkLC.pre ds, p := by
  obtain ⟨a, b, c, d, e, rfl⟩ := len5 hl
  obtain ⟨h1, h2, h3, h4, h5, -⟩ := hg
  have r : reachBytes ≤ 140737488351232 := by decide
  intro p hp
  simp only [vbkLC, nthD, List.mem_cons, List.not_mem_nil, or_false] at hp
  rcases hp with rfl | rfl | rfl | rfl | rfl
  · exact (gt_val h1).1
  · exact (gt_val h2).1
  · exact Nat.le_trans h3 r
  · exact Nat.le_trans h4 r
  · exact Nat.le_trans h5 r
end Go.Proofs.YtbbjonjhaoeidaaDoor.XT
