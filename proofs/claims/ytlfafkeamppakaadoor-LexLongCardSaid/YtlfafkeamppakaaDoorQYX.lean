/- What came in, as LexLong's contract asks for it. -/
import Derived.Test.YtlfafkeamppakaaDoorQYT
import Derived.Test.YtlfafkeamppakaaDoorQYM
set_option linter.unusedVariables false
set_option linter.unusedSimpArgs false
namespace Go.Proofs.YtlfafkeamppakaaDoor.XT
open Go Go.RowKit Go.Proofs.YtlfafkeamppakaaDoor.Sv Go.Proofs.YtlfafkeamppakaaDoor.W
theorem lxLL_pre (ds : List D) (hl : ds.length = 0) (hg : GTs reachBytes [] ds) : ∀ p ∈ lxLLC.pre ds, p := by
  intro p hp
  simp [lxLLC] at hp
end Go.Proofs.YtlfafkeamppakaaDoor.XT
