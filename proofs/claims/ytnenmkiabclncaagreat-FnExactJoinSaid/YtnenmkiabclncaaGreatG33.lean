/- Parts of a proof. No conditions. -/

import Derived.Test.YtnenmkiabclncaaGreatG32
import Derived.Test.YtnenmkiabclncaaGreatG27
import Derived.Test.YtnenmkiabclncaaGreatG26
import Derived.Test.YtnenmkiabclncaaGreatG14
import Derived.Test.YtnenmkiabclncaaGreatG04
set_option linter.unusedSimpArgs false
set_option linter.unusedVariables false
namespace Go.Proofs.YtnenmkiabclncaaGreat
open Go
set_option maxRecDepth 100000
end Go.Proofs.YtnenmkiabclncaaGreat

