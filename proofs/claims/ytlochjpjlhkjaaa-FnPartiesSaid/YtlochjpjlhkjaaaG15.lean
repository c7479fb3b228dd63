/- Parts of a proof. No conditions. -/

import Derived.Test.YtlochjpjlhkjaaaG14
set_option linter.unusedSimpArgs false
set_option linter.unusedVariables false
namespace Go.Proofs.Ytlochjpjlhkjaaa
open Go
set_option maxRecDepth 100000
end Go.Proofs.Ytlochjpjlhkjaaa

