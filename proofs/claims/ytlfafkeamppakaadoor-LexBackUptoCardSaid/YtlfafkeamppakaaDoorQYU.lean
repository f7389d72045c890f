/- What came in, as LexForms' contract asks for it. -/
import Derived.Test.YtlfafkeamppakaaDoorQYT
import Derived.Test.YtlfafkeamppakaaDoorQYK
set_option linter.unusedVariables false
set_option linter.unusedSimpArgs false
namespace Go.Proofs.YtlfafkeamppakaaDoor.XT
open Go Go.RowKit Go.Proofs.YtlfafkeamppakaaDoor.Sv Go.Proofs.YtlfafkeamppakaaDoor.W
theorem gt_tok {B : Nat} {d : D} (h : GT B tokT d) : (d.fld 1).str.size ≤ B := by
  simp only [tokT, GT, GTs, nthD_tail] at h
  exact h.2.1
theorem lxFL_pre (ds : List D) (hl : ds.length = 3) (hg : GTs 1048576 [tokT, .s, .l tokT] ds) : ∀ p ∈ lxFLC.pre ds, p := by
  obtain ⟨a, b, c, rfl⟩ := len3 hl
  simp only [GTs, nthD_tail] at hg
  obtain ⟨h1, h2, h3, -⟩ := hg
  have h1 := gt_tok h1
  have h2 : b.str.size ≤ 1048576 := by simpa [GT, nthD] using h2
  have h3 : c.list.length ≤ 1048576 ∧ ∀ x ∈ c.list, GT 1048576 tokT x := by simpa [GT, nthD] using h3
  intro p hp
  simp only [lxFLC, List.mem_cons, List.not_mem_nil, or_false] at hp
  rcases hp with rfl | rfl | rfl | rfl
  · exact h1
  · exact h2
  · exact h3.1
  · exact fun t ht => gt_tok (h3.2 t ht)
end Go.Proofs.YtlfafkeamppakaaDoor.XT
