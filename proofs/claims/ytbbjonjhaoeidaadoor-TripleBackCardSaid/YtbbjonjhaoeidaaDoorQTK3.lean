/- What came in, as the law of writes there and back asks for it. -/
import Derived.Test.YtbbjonjhaoeidaaDoorQTK
import Derived.Test.YtbbjonjhaoeidaaDoorQT20
set_option linter.unusedVariables false
set_option linter.unusedSimpArgs false
namespace Go.Proofs.YtbbjonjhaoeidaaDoor.XT
open Go Go.RowKit Go.Proofs.YtbbjonjhaoeidaaDoor.Sv Go.Proofs.YtbbjonjhaoeidaaDoor.W
theorem tbk_pre (ds : List D) (hl : ds.length = 4) (hg : GTs reachBytes [wrT, .s, .s, .s] ds) : ∀ p ∈ tbkLC.pre ds, p := by
  obtain ⟨a, b, c, d, rfl⟩ := len4 hl
  obtain ⟨h1, h2, h3, h4, -⟩ := hg
  have r : reachBytes ≤ 140737488351232 := by decide
  intro p hp
  simp only [tbkLC, nthD, List.mem_cons, List.not_mem_nil, or_false] at hp
  rcases hp with rfl | rfl | rfl | rfl
  · exact gt_tri' rb (gt_wr h1)
  · exact Nat.le_trans h2 r
  · exact Nat.le_trans h3 r
  · exact Nat.le_trans h4 r
end Go.Proofs.YtbbjonjhaoeidaaDoor.XT
