/- What came in, as the laws' contracts ask for it: values. -/
import Derived.Test.YtbbjonjhaoeidaaDoorOT9
import Derived.Test.YtbbjonjhaoeidaaDoorOTK
set_option linter.unusedSimpArgs false
set_option linter.unusedVariables false
namespace Go.Proofs.YtbbjonjhaoeidaaDoor.XT
open Go Go.RowKit Go.Proofs.YtbbjonjhaoeidaaDoor.Sv Go.Proofs.YtbbjonjhaoeidaaDoor.W
theorem vfrm_pre (ds : List D) (hl : ds.length = 1) (hg : GTs reachBytes [valT] ds) : ∀ p ∈ vfrmLC.pre ds, p := by
  obtain ⟨a, rfl⟩ := len1 hl
  obtain ⟨h1, -⟩ := hg
  intro p hp
  simp only [vfrmLC, nthD, List.mem_cons, List.not_mem_nil, or_false] at hp
  subst hp
  exact (gt_val h1).1
end Go.Proofs.YtbbjonjhaoeidaaDoor.XT
