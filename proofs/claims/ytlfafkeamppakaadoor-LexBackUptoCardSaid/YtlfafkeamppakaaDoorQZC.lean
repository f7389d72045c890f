/- What came in, as LexBack's contract asks for it. -/
import Derived.Test.YtlfafkeamppakaaDoorQYU
import Derived.Test.YtlfafkeamppakaaDoorQZB
set_option linter.unusedVariables false
set_option linter.unusedSimpArgs false
namespace Go.Proofs.YtlfafkeamppakaaDoor.XT
open Go Go.RowKit Go.Proofs.YtlfafkeamppakaaDoor.Sv Go.Proofs.YtlfafkeamppakaaDoor.W
theorem lxBL_pre (ds : List D) (hl : ds.length = 3) (hg : GTs 1048576 [.l tokT, .s, .l (.i .u8)] ds) : ∀ p ∈ lxBLC.pre ds, p := by
  obtain ⟨a, b, c, rfl⟩ := len3 hl
  simp only [GTs, nthD_tail] at hg
  obtain ⟨h1, h2, h3, -⟩ := hg
  have h1 : a.list.length ≤ 1048576 ∧ ∀ x ∈ a.list, GT 1048576 tokT x := by simpa [GT, nthD] using h1
  have h2 : b.str.size ≤ 1048576 := by simpa [GT, nthD] using h2
  have h3 : c.list.length ≤ 1048576 ∧ ∀ x ∈ c.list, inK .u8 x.int := by simpa [GT, nthD] using h3
  intro p hp
  simp only [lxBLC, List.mem_cons, List.not_mem_nil, or_false] at hp
  rcases hp with rfl | rfl | rfl | rfl | rfl
  · exact h1.1
  · exact fun t ht => gt_tok (h1.2 t ht)
  · exact h2
  · exact h3.1
  · intro t ht
    have := h3.2 t ht
    have g1 : (0 : Int) ≤ t.int := this.1
    have g2 : t.int ≤ (255 : Int) := this.2
    omega
end Go.Proofs.YtlfafkeamppakaaDoor.XT
