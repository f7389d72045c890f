/- What came in, as the law asks for it. -/
import Derived.Test.YtbbjonjhaoeidaaGreatDoorQTK
import Derived.Test.YtbbjonjhaoeidaaGreatDoorQT22
set_option linter.unusedVariables false
set_option linter.unusedSimpArgs false
namespace Go.Proofs.YtbbjonjhaoeidaaGreatDoor.XT
open Go Go.RowKit Go.Proofs.YtbbjonjhaoeidaaGreatDoor.Sv Go.Proofs.YtbbjonjhaoeidaaGreatDoor.W
theorem trd_pre (ds : List D) (hl : ds.length = 2) (hg : GTs reachBytes [.s, .s] ds) : ∀ p ∈ trdLC.pre ds, p := by
  obtain ⟨a, b, rfl⟩ := len2 hl
  obtain ⟨h1, h2, -⟩ := hg
  have r : reachBytes ≤ 140737488355327 := by decide
  intro p hp
  simp only [trdLC, nthD, List.mem_cons, List.not_mem_nil, or_false] at hp
  rcases hp with rfl | rfl
  · exact Nat.le_trans h1 r
  · exact Nat.le_trans h2 r
end Go.Proofs.YtbbjonjhaoeidaaGreatDoor.XT
