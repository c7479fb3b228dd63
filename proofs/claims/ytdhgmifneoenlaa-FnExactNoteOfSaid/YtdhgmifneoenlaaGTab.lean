/- Parts of a proof. No conditions. -/

import Derived.Test.YtdhgmifneoenlaaG04
import Derived.Test.YtdhgmifneoenlaaChecked
import Derived.KernelRfl
set_option linter.unusedSimpArgs false
set_option linter.unusedVariables false
namespace Go.Proofs.Ytdhgmifneoenlaa
open Go
def tab : Tab := ⟨[
  (3, .it .i64),
  (4, .bt),
  (5, .it .u8),
  (9, .ss),
  (23, .st 6 [(0, 1, false), (1, 1, false), (2, 1, false), (3, 1, false), (4, 1, false), (5, 1, false)] [.i .i64, .i .i64, .i .i64, .i .i64, .i .i64, .i .i64] true),
  (25, .st 6 [(0, 1, false), (1, 1, false), (2, 1, false), (3, 1, false), (4, 1, false), (5, 1, false)] [.i .i64, .i .i64, .i .i64, .i .i64, .i .i64, .i .i64] true),
  (32, .sl .int 3 8),
  (34, .sl .byte 5 1),
  (38, .it .u64)],
  [], []⟩
theorem tabOk : tabB Try.prog tab = true := by kernel_rfl
end Go.Proofs.Ytdhgmifneoenlaa

