/- lex.Text, as a contract. -/
import Derived.Test.YtlfafkeamppakaaDoorQYR1
set_option linter.unusedVariables false
set_option linter.unusedSimpArgs false
namespace Go.Proofs.YtlfafkeamppakaaDoor.XT
open Go Go.RowKit Go.Proofs.YtlfafkeamppakaaDoor.Sv Go.Proofs.YtlfafkeamppakaaDoor.W
def lxTC : Con := ⟨[.d true .s], fun ds => (fun (a : D) => [a.str.size ≤ 1099511627776]) (nthD ds 0), [.d .s], fun ds => (fun (a : D) => [.s (sL (quL (bys a.str)))]) (nthD ds 0), fun ds => []⟩
theorem lxTC_ok : ConOK Tryd.prog gl 18 lxTC := scal_ok rfl (fun ds => ⟨_, rfl⟩) fun w ds vs e hg hp => by
  cases e
  have h1 : (nthD ds 0).str.size ≤ 1099511627776 := hp _ (by simp [lxTC])
  refine fnc_of (Tryd.tx_walk (nthD ds 0).str w h1) ?_
  rintro e w' ⟨rfl, hb⟩
  exact ⟨_, rfl, rfl, Ext.of_below hb⟩
end Go.Proofs.YtlfafkeamppakaaDoor.XT
