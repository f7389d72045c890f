/- Contracts. -/
import Derived.Test.YtplflgclomiihaaGreatQVTK
import Derived.Test.YtplflgclomiihaaGreatProg
set_option linter.unusedVariables false
set_option linter.unusedSimpArgs false
namespace Go.Proofs.YtplflgclomiihaaGreat.XT
open Go Go.RowKit Go.Proofs.YtplflgclomiihaaGreat.Sv
set_option maxRecDepth 100000
def othL (xs:List D) (n:Int):List D:=(xs.filter fun d=>!decide (d.int=n)).map fun d=>.i d.int
theorem oth_at {xs:List D} {n:Int} {g:Nat} (c:g < xs.length):othL (xs.take (g + 1)) n=othL (xs.take g) n ++ (if (nthD xs g).int=n then [] else [.i (nthD xs g).int]):=by
 have e:nthD xs g=xs[g]:=nthD_get (List.getElem?_eq_getElem c)
 rw [othL,List.take_succ_eq_append_getElem c,List.filter_append,List.map_append,e]
 congr 1
 by_cases h:(xs[g]).int=n
 ·simp [h]
 ·simp [h]
theorem oth_le (xs:List D) (n:Int):(othL xs n).length ≤ xs.length:=by
 rw [othL,List.length_map]; exact List.length_filter_le _ _
end Go.Proofs.YtplflgclomiihaaGreat.XT
