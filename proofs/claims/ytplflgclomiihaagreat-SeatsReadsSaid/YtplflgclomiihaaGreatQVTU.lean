/- Contracts. -/
import Derived.Test.YtplflgclomiihaaGreatQVTT
import Derived.Test.YtplflgclomiihaaGreatProg
set_option linter.unusedVariables false
set_option linter.unusedSimpArgs false
namespace Go.Proofs.YtplflgclomiihaaGreat.XT
open Go Go.RowKit Go.Proofs.YtplflgclomiihaaGreat.Sv
set_option maxRecDepth 100000
theorem map_at {f:D → D} {xs:List D} {g:Nat} (c:g < xs.length):List.take g (List.map f (xs.take g)) ++ [f (nthD xs g)]=List.map f (xs.take (g + 1)):=by
 have e:nthD xs g=xs[g]:=nthD_get (List.getElem?_eq_getElem c)
 rw [List.take_of_length_le (by rw [List.length_map,List.length_take]; omega),List.take_succ_eq_append_getElem c,List.map_append,e]; rfl
theorem map_end {f:D → D} {xs:List D}:List.take xs.length (List.map f (xs.take xs.length))=List.map f xs:=by
 rw [List.take_length,List.take_of_length_le (by rw [List.length_map]; exact Nat.le_refl _)]
theorem take_app1 (xs:List D) (d:D):List.take (xs.length + 1) (xs ++ [d])=xs ++ [d]:=by
 rw [List.take_of_length_le (by rw [List.length_append]; exact Nat.le_refl _)]
end Go.Proofs.YtplflgclomiihaaGreat.XT
