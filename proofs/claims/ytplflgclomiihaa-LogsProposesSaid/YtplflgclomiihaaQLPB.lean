/- Contracts. -/
import Derived.Test.YtplflgclomiihaaQVUF
import Derived.Test.YtplflgclomiihaaQLGF
set_option linter.unusedVariables false
set_option linter.unusedSimpArgs false
namespace Go.Proofs.Ytplflgclomiihaa.XT
open Go Go.RowKit Go.Proofs.Ytplflgclomiihaa.Sv Go.Proofs.Ytplflgclomiihaa.W
set_option maxRecDepth 100000
theorem pros_pre:∀ ds:List D,ds.length=3 → GCs reachBytes [peerT,.s,.i .i64] ds → ∀ p ∈ prosC.pre ds,p:=by
 intro ds hl hg p hp
 obtain ⟨a,b,c,rfl⟩:=len3 hl
 have ga:GC reachBytes peerT a:=gcs_get (j:=0) hg rfl
 have hp:p ∈ [((a.fld 10).list.length:Int) ≤ 60 → ((a.fld 15).list.length:Int) ≤ 64 → ((a.fld 17).list.length:Int) ≤ 60 → FitP a∧∀ f ∈ (a.fld 15).list,U64 (f.fld 2).int]:=hp
 simp only [List.mem_cons,List.not_mem_nil,or_false] at hp
 subst hp
 exact fun h1 h2 h3=>⟨fitP_of ga (by omega) (by omega) (by omega),fol_U ga⟩
end Go.Proofs.Ytplflgclomiihaa.XT
