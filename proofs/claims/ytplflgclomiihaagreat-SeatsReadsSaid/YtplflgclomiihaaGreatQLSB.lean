/- Contracts. -/
import Derived.Test.YtplflgclomiihaaGreatQVSD
import Derived.Test.YtplflgclomiihaaGreatQLGF
set_option linter.unusedVariables false
set_option linter.unusedSimpArgs false
namespace Go.Proofs.YtplflgclomiihaaGreat.XT
open Go Go.RowKit Go.Proofs.YtplflgclomiihaaGreat.Sv Go.Proofs.YtplflgclomiihaaGreat.W
set_option maxRecDepth 100000
theorem seats_pre:∀ ds:List D,ds.length=1 → GCs reachBytes [peerT] ds → ∀ p ∈ seatsC.pre ds,p:=by
 intro ds hl hg p hp
 obtain ⟨a,rfl⟩:=len1 hl
 have ga:GC reachBytes peerT a:=gcs_get (j:=0) hg rfl
 have hp:p ∈ [((a.fld 10).list.length:Int) ≤ 60 → ((a.fld 15).list.length:Int) ≤ 64 → ((a.fld 17).list.length:Int) ≤ 60 → FitP a∧∀ f ∈ (a.fld 15).list,U64 (f.fld 2).int]:=hp
 simp only [List.mem_cons,List.not_mem_nil,or_false] at hp
 subst hp
 exact fun h1 h2 h3=>⟨fitP_of ga (by omega) (by omega) (by omega),fol_U ga⟩
end Go.Proofs.YtplflgclomiihaaGreat.XT
