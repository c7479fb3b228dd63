/- Parts of a proof. No conditions. -/

import Derived.Test.YtehpbaiclfilaaaGreatG49
import Derived.Test.YtehpbaiclfilaaaGreatG50
import Derived.Test.YtehpbaiclfilaaaGreatG41
import Derived.Test.YtehpbaiclfilaaaGreatG29
set_option linter.unusedSimpArgs false
set_option linter.unusedVariables false
namespace Go.Proofs.YtehpbaiclfilaaaGreat
open Go
set_option maxRecDepth 100000
def LZ (p : au) : List C := [.lf (.int .i64 fun _ => p.id), .lf (.int .i64 fun _ => p.cf), .lf (.int .i64 fun _ => p.al), .lf (.int .i64 fun _ => p.siz), .lf (.int .i64 fun _ => p.aK), .lf (.int .i64 fun _ => p.since), .lf (.int .i64 fun _ => p.aw), .lf (.int .i64 fun _ => p.st), .lf (.int .i64 fun _ => p.bW), .lf (.int .i64 fun _ => p.asked)]
end Go.Proofs.YtehpbaiclfilaaaGreat

