/- Contracts, by the symbolic evaluator. -/
import Derived.Test.YtlfafkeamppakaaDoorQYB
import Derived.Test.YtlfafkeamppakaaDoorProg
set_option linter.unusedVariables false
set_option linter.unusedSimpArgs false
namespace Go.Proofs.YtlfafkeamppakaaDoor.XT
open Go Go.RowKit Go.Proofs.YtlfafkeamppakaaDoor.Sv
set_option maxRecDepth 100000
def rflC : Con := ⟨[.d true (.i .u8)], fun ds => [], [.d .b], fun ds => (fun (a : D) => [.b (bgC a.int && !decide (a.int = 95))]) (nthD ds 0), fun ds => []⟩
def rflC_an : Anns := fun _ _ => none
theorem rflC_vc (a : D) : ((decide (97 ≤ a.int) && decide (a.int ≤ 122) || decide (65 ≤ a.int) && decide (a.int ≤ 90)) = (bgC a.int && !decide (a.int = 95))) = conGoal Tryd.prog noS rflC_an 200 39 rflC [a] := by kernel_rfl
theorem rflC_ok : ConOK Tryd.prog gl 39 rflC := con_of mo (noS_ok _) (an := rflC_an) 200 fun ds hl hp => by
  obtain ⟨a, rfl⟩ := len1 hl
  rw [← rflC_vc]
  unfold bgC
  by_cases h : a.int = 95
  · rw [h]; rfl
  · rw [decide_eq_false h, Bool.or_false]; simp
def rfsC : Con := ⟨[.d true (.i .u8)], fun ds => [], [.d .b], fun ds => (fun (a : D) => [.b (sgC a.int)]) (nthD ds 0), fun ds => []⟩
def rfsC_an : Anns := fun _ _ => none
theorem rfsC_vc (a : D) : ((decide (a.int = 123) || decide (a.int = 125) || decide (a.int = 40) || decide (a.int = 41) || decide (a.int = 58) || decide (a.int = 44) || decide (a.int = 64) || decide (a.int = 126) || decide (a.int = 45)) = sgC a.int) = conGoal Tryd.prog noS rfsC_an 200 45 rfsC [a] := by kernel_rfl
theorem rfsC_ok : ConOK Tryd.prog gl 45 rfsC := con_of mo (noS_ok _) (an := rfsC_an) 200 fun ds hl hp => by
  obtain ⟨a, rfl⟩ := len1 hl
  rw [← rfsC_vc]
  simp only [sgC, List.contains_cons, List.contains_nil, Bool.or_false, Bool.or_assoc]
  rfl
end Go.Proofs.YtlfafkeamppakaaDoor.XT
