/- What came in is as the law's contract asks. -/
import Derived.Test.YtcinjnkgopoclaaGreatDoorQO5
set_option linter.unusedVariables false
set_option linter.unusedSimpArgs false
set_option linter.unusedSectionVars false
namespace Go.Proofs.YtcinjnkgopoclaaGreatDoor.XT
open Go Go.RowKit Go.Proofs.YtcinjnkgopoclaaGreatDoor.Sv
theorem gt_u {B : Nat} {v : D} (h : GT B valT v) : 0 ≤ (D.int (D.fld v 4)) := by
  simp only [valT, GT, GTs, nthD_tail] at h
  exact h.2.2.2.2.1.1
theorem vord_pre (ds : List D) (hl : ds.length = 3) (hg : GTs reachBytes [valT, valT, .l valT] ds) : ∀ p ∈ vordLC.pre ds, p := by
  obtain ⟨a, b, c, rfl⟩ := len3 hl
  obtain ⟨h1, h2, h3, -⟩ := hg
  simp only [GT] at h3
  intro p hp
  simp only [vordLC, nthD, List.mem_cons, List.not_mem_nil, or_false] at hp
  rcases hp with rfl | rfl | rfl
  · exact gt_u h1
  · exact gt_u h2
  · intro j hj
    exact gt_u (GT.elem h3.2 hj)
end Go.Proofs.YtcinjnkgopoclaaGreatDoor.XT
