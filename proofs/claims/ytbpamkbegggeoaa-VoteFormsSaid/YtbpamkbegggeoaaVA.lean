/- 'alive' answers true: by the evaluator. -/
import Derived.Test.YtbpamkbegggeoaaRows
import Derived.Test.YtbpamkbegggeoaaE12
import Derived.Test.YtbpamkbegggeoaaP2
namespace Go.Proofs.Ytbpamkbegggeoaa.T
open Go.RowKit Go.Proofs.Ytbpamkbegggeoaa.W Go.Proofs.Ytbpamkbegggeoaa.Ev
theorem law_alive {w : World} : Fnc Try.prog 8 #[] w fun v w' => v = .bool true ∧ Ext [] w w' :=
  call_true (P := Try.prog) (by kernel_rfl) (f := 8) 400 (ω := fun _ => .bool true) (fun _ => rfl) (as' := []) (vs := []) (fun _ => RelL.nil) (by kernel_rfl) w
end Go.Proofs.Ytbpamkbegggeoaa.T
