/- Contracts. -/
import Derived.Test.YtplflgclomiihaaGreatRows
import Derived.Test.YtplflgclomiihaaGreatQE8x
set_option linter.unusedVariables false
set_option linter.unusedSimpArgs false
namespace Go.Proofs.YtplflgclomiihaaGreat.T
open Go.RowKit Go.Proofs.YtplflgclomiihaaGreat.W Go.Proofs.YtplflgclomiihaaGreat.Ev
theorem law_alive14 {w:World}:Fnc Tryz.prog 5 #[] w fun v w'=>v=.bool true∧Ext [] w w' :=
 call_true (P:=Tryz.prog) (by kernel_rfl) (f:=5) 8000 (ω:=fun _=>.bool true) (fun _=>rfl) (as':=[]) (vs:=[]) (fun _=>RelL.nil) (by kernel_rfl) w
end Go.Proofs.YtplflgclomiihaaGreat.T
