/- Contracts. -/
import Derived.Test.YtplflgclomiihaaQS26
import Derived.Test.YtplflgclomiihaaQVTV
import Derived.Test.YtplflgclomiihaaQLGS
import Derived.Test.YtplflgclomiihaaProg
set_option linter.unusedVariables false
set_option linter.unusedSimpArgs false
namespace Go.Proofs.Ytplflgclomiihaa.XT
open Go Go.RowKit Go.Proofs.Ytplflgclomiihaa.Sv Go.Proofs.Ytplflgclomiihaa.W
set_option maxRecDepth 100000
end Go.Proofs.Ytplflgclomiihaa.XT
