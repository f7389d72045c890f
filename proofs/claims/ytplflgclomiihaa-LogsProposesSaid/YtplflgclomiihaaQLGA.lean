/- Contracts. -/
import Derived.Test.YtplflgclomiihaaRows
import Derived.Test.YtplflgclomiihaaQE8x
set_option linter.unusedVariables false
set_option linter.unusedSimpArgs false
namespace Go.Proofs.Ytplflgclomiihaa.T
open Go.RowKit Go.Proofs.Ytplflgclomiihaa.W Go.Proofs.Ytplflgclomiihaa.Ev
theorem law_alive {w:World}:Fnc Try.prog 12 #[] w fun v w'=>v=.bool true∧Ext [] w w' :=
 call_true (P:=Try.prog) (by kernel_rfl) (f:=12) 4000 (ω:=fun _=>.bool true) (fun _=>rfl) (as':=[]) (vs:=[]) (fun _=>RelL.nil) (by kernel_rfl) w
end Go.Proofs.Ytplflgclomiihaa.T
