/- Parts of a proof. No conditions. -/

import Derived.Test.YtpklefhdkkegiaaGreatGHo
import Derived.Test.YtpklefhdkkegiaaGreatG12
import Derived.Test.YtpklefhdkkegiaaGreatG14
set_option linter.unusedSimpArgs false
set_option linter.unusedVariables false
namespace Go.Proofs.YtpklefhdkkegiaaGreat
open Go
set_option maxRecDepth 100000
end Go.Proofs.YtpklefhdkkegiaaGreat

