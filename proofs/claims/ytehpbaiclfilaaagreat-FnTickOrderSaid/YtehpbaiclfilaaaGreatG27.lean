/- Parts of a proof. No conditions. -/

import Derived.Test.YtehpbaiclfilaaaGreatG25
import Derived.Test.YtehpbaiclfilaaaGreatG22
set_option linter.unusedSimpArgs false
set_option linter.unusedVariables false
namespace Go.Proofs.YtehpbaiclfilaaaGreat
open Go
set_option maxRecDepth 100000
end Go.Proofs.YtehpbaiclfilaaaGreat
namespace Go.Proofs.YtehpbaiclfilaaaGreat
open Go
set_option maxRecDepth 100000
end Go.Proofs.YtehpbaiclfilaaaGreat

