/- Contracts. -/
import Derived.Test.YtplflgclomiihaaGreatQVTQ
import Derived.Test.YtplflgclomiihaaGreatProg
set_option linter.unusedVariables false
set_option linter.unusedSimpArgs false
namespace Go.Proofs.YtplflgclomiihaaGreat.XT
open Go Go.RowKit Go.Proofs.YtplflgclomiihaaGreat.Sv
set_option maxRecDepth 100000
theorem setD_self:∀ {xs:List D} {i:Nat},i < xs.length → setD xs i (nthD xs i)=xs
 | [],_,h=>absurd h (Nat.not_lt_zero _)
 | _ :: _,0,_=>rfl
 | d :: r,i + 1,h=>by
  show d :: setD r i (nthD r i)=d :: r
  rw [setD_self (by simpa using h)]
theorem put3 {e:D} (h:etaD entT e=e):e.put [3] (D.l (e.fld 3).list)=e:=by rw [← h]; rfl
theorem put2 {e:D} (h:etaD rdT e=e):e.put [2] (D.l (e.fld 2).list)=e:=by rw [← h]; rfl
end Go.Proofs.YtplflgclomiihaaGreat.XT
