/- Contracts, by the symbolic evaluator. -/
import Derived.Test.YtnhfkdgambncfaaDoorQT0
import Derived.Test.YtnhfkdgambncfaaDoorProg
set_option linter.unusedVariables false
set_option linter.unusedSimpArgs false
set_option linter.unusedSectionVars false
namespace Go.Proofs.YtnhfkdgambncfaaDoor.XT
open Go Go.RowKit Go.Proofs.YtnhfkdgambncfaaDoor.Sv
set_option maxRecDepth 100000
def mayVC : Con := ⟨[.d true valT], fun ds => (fun (a : D) => [0 ≤ (D.int (D.fld a 4))]) (nthD ds 0), [.d (.i .i64)], fun ds => (fun (a : D) => [.i (bif mayV a then 0 else 30)]) (nthD ds 0), fun ds => []⟩
def mayVC_an : Anns := fun _ _ => none
theorem mayVC_vc (a : D) : (bif decide ((a.fld 0).int = 1) then bif !(decide ((a.fld 0).int = (a.fld 0).int) && (false == false && (decide ((a.fld 2).int = 0) && (decide ((a.fld 3).str = (ByteArray.mk #[])) && (decide ((a.fld 4).int = 0) && true))))) || decide ((a.fld 0).int < 1) || decide (4 < (a.fld 0).int) || decide (4096 < (↑(a.fld 3).str.size : Int)) || decide ((a.fld 0).int = 4) && decide ((a.fld 4).int = 0) then EqI 30 (condI (mayV a) 0 30) else EqI 0 (condI (mayV a) 0 30) else bif decide ((a.fld 0).int = 2) then bif !(decide ((a.fld 0).int = (a.fld 0).int) && ((a.fld 1).bool == false && (decide (EqI 0 0) && (decide ((a.fld 3).str = (ByteArray.mk #[])) && (decide ((a.fld 4).int = 0) && true))))) || decide ((a.fld 0).int < 1) || decide (4 < (a.fld 0).int) || decide (4096 < (↑(a.fld 3).str.size : Int)) || decide ((a.fld 0).int = 4) && decide ((a.fld 4).int = 0) then EqI 30 (condI (mayV a) 0 30) else EqI 0 (condI (mayV a) 0 30) else bif decide ((a.fld 0).int = 3) then bif !(decide ((a.fld 0).int = (a.fld 0).int) && ((a.fld 1).bool == false && (decide ((a.fld 2).int = 0) && (decide ((ByteArray.mk #[]) = (ByteArray.mk #[])) && (decide ((a.fld 4).int = 0) && true))))) || decide ((a.fld 0).int < 1) || decide (4 < (a.fld 0).int) || decide (4096 < (↑(a.fld 3).str.size : Int)) || decide ((a.fld 0).int = 4) && decide ((a.fld 4).int = 0) then EqI 30 (condI (mayV a) 0 30) else EqI 0 (condI (mayV a) 0 30) else bif decide ((a.fld 0).int = 4) then bif !(decide ((a.fld 0).int = (a.fld 0).int) && ((a.fld 1).bool == false && (decide ((a.fld 2).int = 0) && (decide ((a.fld 3).str = (ByteArray.mk #[])) && (decide (EqI 0 0) && true))))) || decide ((a.fld 0).int < 1) || decide (4 < (a.fld 0).int) || decide (4096 < (↑(a.fld 3).str.size : Int)) || decide ((a.fld 0).int = 4) && decide ((a.fld 4).int = 0) then EqI 30 (condI (mayV a) 0 30) else EqI 0 (condI (mayV a) 0 30) else bif !(decide ((a.fld 0).int = (a.fld 0).int) && ((a.fld 1).bool == false && (decide ((a.fld 2).int = 0) && (decide ((a.fld 3).str = (ByteArray.mk #[])) && (decide ((a.fld 4).int = 0) && true))))) || decide ((a.fld 0).int < 1) || decide (4 < (a.fld 0).int) || decide (4096 < (↑(a.fld 3).str.size : Int)) || decide ((a.fld 0).int = 4) && decide ((a.fld 4).int = 0) then EqI 30 (condI (mayV a) 0 30) else EqI 0 (condI (mayV a) 0 30)) = conGoal Tryd.prog noS mayVC_an 200 22 mayVC [a] := by kernel_rfl
theorem mayVC_ok : ConOK Tryd.prog gl 22 mayVC := con_of mo (noS_ok _) (an := mayVC_an) 200 fun ds hl hp => by
  obtain ⟨a, rfl⟩ := len1 hl
  rw [← mayVC_vc]
  have p0 : 0 ≤ (D.int (D.fld a 4)) := hp _ (.head _)
  refine cond_of (fun k1 => ?_) (fun k1 => cond_of (fun k2 => ?_) (fun k2 => cond_of (fun k3 => ?_) (fun k3 => cond_of (fun k4 => ?_) (fun k4 => ?_))))
  all_goals (have z : (((ByteArray.mk #[])).size : Int) = 0 := rfl; refine cond_of (fun e => ?_) (fun e => ?_) <;> simp only [EqI, Bool.cond_eq_ite] <;> grind [mayV])
end Go.Proofs.YtnhfkdgambncfaaDoor.XT
