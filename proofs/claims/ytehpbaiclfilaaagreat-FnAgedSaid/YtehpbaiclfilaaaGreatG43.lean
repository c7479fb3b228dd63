/- Parts of a proof. No conditions. -/

import Derived.Test.YtehpbaiclfilaaaGreatGHo
import Derived.Test.YtehpbaiclfilaaaGreatG12
import Derived.Test.YtehpbaiclfilaaaGreatG14
set_option linter.unusedSimpArgs false
set_option linter.unusedVariables false
namespace Go.Proofs.YtehpbaiclfilaaaGreat
open Go
set_option maxRecDepth 100000
end Go.Proofs.YtehpbaiclfilaaaGreat

