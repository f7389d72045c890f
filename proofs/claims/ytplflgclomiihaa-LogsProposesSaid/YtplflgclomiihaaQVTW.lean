/- Contracts. -/
import Derived.Test.YtplflgclomiihaaQVTV
import Derived.Test.YtplflgclomiihaaProg
import Derived.Test.YtplflgclomiihaaQLGA
set_option linter.unusedVariables false
set_option linter.unusedSimpArgs false
namespace Go.Proofs.Ytplflgclomiihaa.XT
open Go Go.RowKit Go.Proofs.Ytplflgclomiihaa.Sv
set_option maxRecDepth 100000
def trueK:Con:=trueC
theorem trueK_ok:ConOK Try.prog Gl.none 12 trueK:=true_ok fun w _=>Go.Proofs.Ytplflgclomiihaa.T.law_alive
def smalC:Con:=⟨[.d false peerT],fun ds=>[],[.d .b],fun ds=>(fun (a:D)=>[.b (decide (((a.fld 10).list.length:Int) ≤ 60) && decide (((a.fld 15).list.length:Int) ≤ 64) && decide (((a.fld 17).list.length:Int) ≤ 60))]) (nthD ds 0),fun ds=>[]⟩
def smalC_an:Anns:=fun _ _=>none
theorem smalC_vc (a:D):((decide ((↑(a.fld 10).list.length:Int) ≤ 60) && decide ((↑(a.fld 15).list.length:Int) ≤ 64) && decide ((↑(a.fld 17).list.length:Int) ≤ 60))=(decide ((↑(a.fld 10).list.length:Int) ≤ 60) && decide ((↑(a.fld 15).list.length:Int) ≤ 64) && decide ((↑(a.fld 17).list.length:Int) ≤ 60)))=conGoal Try.prog noS smalC_an 200 11 smalC [a]:=by kernel_rfl
theorem smalC_ok:ConOK Try.prog Gl.none 11 smalC:=con_of mo (noS_ok _) (an:=smalC_an) 200 fun ds hl hp=>by
 obtain ⟨a,rfl⟩:=len1 hl
 rw [← smalC_vc]
 all_goals rfl
end Go.Proofs.Ytplflgclomiihaa.XT
