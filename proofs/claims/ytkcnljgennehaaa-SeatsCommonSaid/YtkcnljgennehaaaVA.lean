/- 'alive' answers true: by the evaluator. -/
import Derived.Test.YtkcnljgennehaaaRows
import Derived.Test.YtkcnljgennehaaaE12
import Derived.Test.YtkcnljgennehaaaP2
namespace Go.Proofs.Ytkcnljgennehaaa.T
open Go.RowKit Go.Proofs.Ytkcnljgennehaaa.W Go.Proofs.Ytkcnljgennehaaa.Ev
theorem law_alive {w : World} : Fnc Try.prog 4 #[] w fun v w' => v = .bool true ∧ Ext [] w w' :=
  call_true (P := Try.prog) (by kernel_rfl) (f := 4) 400 (ω := fun _ => .bool true) (fun _ => rfl) (as' := []) (vs := []) (fun _ => RelL.nil) (by kernel_rfl) w
end Go.Proofs.Ytkcnljgennehaaa.T
