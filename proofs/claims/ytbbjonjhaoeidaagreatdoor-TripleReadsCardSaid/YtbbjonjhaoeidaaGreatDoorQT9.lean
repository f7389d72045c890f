/- Contracts, by the symbolic evaluator. -/
import Derived.Test.YtbbjonjhaoeidaaGreatDoorQT8
import Derived.Test.YtbbjonjhaoeidaaGreatDoorProg
set_option linter.unusedVariables false
set_option linter.unusedSimpArgs false
namespace Go.Proofs.YtbbjonjhaoeidaaGreatDoor.XT
open Go Go.RowKit Go.Proofs.YtbbjonjhaoeidaaGreatDoor.Sv
set_option maxRecDepth 100000
/-- never called -/
def usC : Con := ⟨[.d true .s], fun _ => [False], [.d .b], fun _ => [.b true], fun _ => []⟩
theorem usC_ok : ConOK Tryz.prog gl 85 usC := by
  intro F G w vs ds bs _ _ _ _ _ _ _ _ hp
  exact (hp False (List.mem_singleton.2 rfl)).elim
def lowC : Con := ⟨[.d true (.i .u8)], fun ds => [], [.d (.i .u8)], fun ds => (fun (a : D) => [.i (bor .u8 a.int 32)]) (nthD ds 0), fun ds => []⟩
def lowC_an : Anns := fun _ _ => none
theorem lowC_vc (a : D) : (bor IntKind.u8 a.int 32 = bor IntKind.u8 a.int 32) = conGoal Tryz.prog noS lowC_an 200 84 lowC [a] := by kernel_rfl
theorem lowC_ok : ConOK Tryz.prog gl 84 lowC := con_of mo (noS_ok _) (an := lowC_an) 200 fun ds hl hp => by
  obtain ⟨a, rfl⟩ := len1 hl
  rw [← lowC_vc]
  try rfl
end Go.Proofs.YtbbjonjhaoeidaaGreatDoor.XT
