/- Parts of a proof. No conditions. -/

import Derived.Test.YtpklefhdkkegiaaGreatG05
set_option linter.unusedSimpArgs false
set_option linter.unusedVariables false
namespace Go.Proofs.YtpklefhdkkegiaaGreat
open Go
set_option maxRecDepth 100000
end Go.Proofs.YtpklefhdkkegiaaGreat

