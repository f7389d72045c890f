/- Contracts, by the symbolic evaluator. -/
import Derived.Test.YtbbjonjhaoeidaaGreatDoorQTE
import Derived.Test.YtbbjonjhaoeidaaGreatDoorProg
set_option linter.unusedVariables false
set_option linter.unusedSimpArgs false
namespace Go.Proofs.YtbbjonjhaoeidaaGreatDoor.XT
open Go Go.RowKit Go.Proofs.YtbbjonjhaoeidaaGreatDoor.Sv
set_option maxRecDepth 100000
def trdLC : Con := ⟨[.d true .s, .d true .s], fun ds => (fun (a : D) (b : D) => [a.str.size ≤ 140737488355327, b.str.size ≤ 140737488355327]) (nthD ds 0) (nthD ds 1), [.d .b], fun ds => (fun (a : D) (b : D) => [.b true]) (nthD ds 0) (nthD ds 1), fun ds => []⟩
def trdLC_an : Anns := fun _ _ => none
theorem trdLC_vc (a b : D) : (a.str.size ≤ 9223372036854775807 ∧ (rkV (bys (tlS (tE2 a.str)))).length ≤ 140737488355326 ∧ a.str.size ≤ 140737488355327 ∧ b.str.size ≤ 140737488355327 ∧ b.str.size ≤ 140737488355327 ∧ (((tRdV a.str).fld 0).bool == ((tRdV a.str).fld 0).bool && (decide ((((D.fld (tRdV a.str) 1)).fld 0).int = (((D.fld (tRdV a.str) 1)).fld 0).int) && (decide (((D.fld (D.fld (tRdV a.str) 1) 1)).str = ((D.fld (D.fld (tRdV a.str) 1) 1)).str) && (decide ((((D.fld (D.fld (tRdV a.str) 1) 2)).fld 0).int = (((D.fld (D.fld (tRdV a.str) 1) 2)).fld 0).int) && (((D.fld (D.fld (D.fld (tRdV a.str) 1) 2) 1)).bool == ((D.fld (D.fld (D.fld (tRdV a.str) 1) 2) 1)).bool && (decide (((D.fld (D.fld (D.fld (tRdV a.str) 1) 2) 2)).int = ((D.fld (D.fld (D.fld (tRdV a.str) 1) 2) 2)).int) && (decide ((((D.fld (D.fld (tRdV a.str) 1) 2)).fld 3).str = (((D.fld (D.fld (tRdV a.str) 1) 2)).fld 3).str) && (decide ((((D.fld (D.fld (tRdV a.str) 1) 2)).fld 4).int = (((D.fld (D.fld (tRdV a.str) 1) 2)).fld 4).int) && true)))) && true)) && true) && decide (tRdR a.str = tRdR a.str) && decide (tRdE a.str = tRdE a.str) && (((tRtD b.str).fld 0).bool == ((rlD b.str).fld 0).bool && (decide ((((D.fld (tRtD b.str) 1)).fld 0).int = (((D.fld (rlD b.str) 1)).fld 0).int) && (decide (((D.fld (D.fld (tRtD b.str) 1) 1)).str = ((D.fld (D.fld (rlD b.str) 1) 1)).str) && (decide ((((D.fld (D.fld (tRtD b.str) 1) 2)).fld 0).int = (((D.fld (D.fld (rlD b.str) 1) 2)).fld 0).int) && (((D.fld (D.fld (D.fld (tRtD b.str) 1) 2) 1)).bool == ((D.fld (D.fld (D.fld (rlD b.str) 1) 2) 1)).bool && (decide (((D.fld (D.fld (D.fld (tRtD b.str) 1) 2) 2)).int = ((D.fld (D.fld (D.fld (rlD b.str) 1) 2) 2)).int) && (decide ((((D.fld (D.fld (tRtD b.str) 1) 2)).fld 3).str = (((D.fld (D.fld (rlD b.str) 1) 2)).fld 3).str) && (decide ((((D.fld (D.fld (tRtD b.str) 1) 2)).fld 4).int = (((D.fld (D.fld (rlD b.str) 1) 2)).fld 4).int) && true)))) && true)) && true)) && decide (condI (tRtB b.str) 0 41 = condI (rlB b.str) 0 41) && true) = true) = conGoal Tryz.prog (addS 8 aliveC (addS 7 rtRtC (addS 6 tRtC (addS 5 rtRdC (addS 4 tRdC noS))))) trdLC_an 200 3 trdLC [a, b] := by kernel_rfl
set_option maxHeartbeats 4000000 in
theorem trdLC_ok : ConOK Tryz.prog gl 3 trdLC := con_of mo (addS_ok aliveC_ok (addS_ok rtRtC_ok (addS_ok tRtC_ok (addS_ok rtRdC_ok (addS_ok tRdC_ok (noS_ok _)))))) (an := trdLC_an) 200 fun ds hl hp => by
  obtain ⟨a, b, rfl⟩ := len2 hl
  rw [← trdLC_vc]
  have p0 : a.str.size ≤ 140737488355327 := hp _ (.head _)
  have p1 : b.str.size ≤ 140737488355327 := hp _ (.tail _ (.head _))
  obtain ⟨h1, h2⟩ := tl_same p1
  rw [h1, h2]
  exact ⟨by omega, rkT_len (Nat.le_trans (e2_size a.str) p0), p0, p1, p1, by simp⟩
end Go.Proofs.YtbbjonjhaoeidaaGreatDoor.XT
