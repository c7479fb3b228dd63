/- Parts of a proof. No conditions. -/

import Derived.Test.YtlochjpjlhkjaaaG04
import Derived.Test.YtlochjpjlhkjaaaChecked
import Derived.KernelRfl
set_option linter.unusedSimpArgs false
set_option linter.unusedVariables false
namespace Go.Proofs.Ytlochjpjlhkjaaa
open Go
def tab : Tab := ⟨[
  (3, .it .i64),
  (4, .bt),
  (5, .it .u8),
  (9, .ss),
  (22, .sl .byte 5 1),
  (24, .sl .pty 26 80),
  (26, .st 10 [(0, 1, false), (1, 1, false), (2, 1, false), (3, 1, false), (4, 1, false), (5, 1, false), (6, 1, false), (7, 1, false), (8, 1, false), (9, 1, false)] [.i .i64, .i .i64, .i .i64, .i .i64, .i .i64, .i .i64, .i .i64, .i .i64, .i .i64, .i .i64] true),
  (32, .sl .int 3 8),
  (34, .st 9 [(0, 1, false), (1, 1, false), (2, 1, false), (3, 1, false), (4, 1, false), (5, 1, false), (6, 1, false), (7, 1, false), (8, 1, false)] [.nl .int, .i .i64, .i .i64, .i .i64, .i .i64, .i .i64, .i .i64, .i .i64, .i .i64] false),
  (35, .sl .cab 59 88),
  (37, .st 15 [(0, 9, true), (9, 1, false), (10, 1, false), (11, 1, false), (12, 1, false), (13, 1, false), (14, 1, false)] [.nl .int, .i .i64, .i .i64, .i .i64, .i .i64, .i .i64, .i .i64, .i .i64, .i .i64, .i .i64, .i .i64, .nl .pty, .nl .cab, .nl .int, .nl .int] false),
  (38, .sc .un),
  (49, .st 3 [(0, 1, false), (1, 1, false), (2, 1, false)] [.nl .byte, .i .i64, .i .i64] false),
  (53, .st 5 [(0, 1, false), (1, 1, false), (2, 1, false), (3, 1, false), (4, 1, false)] [.i .i64, .i .i64, .i .i64, .i .i64, .i .i64] true),
  (54, .sl .ent 90 32),
  (55, .sl .spk 80 24),
  (57, .st 1 [(0, 1, false)] [.nl .spk] false),
  (59, .st 7 [(0, 5, true), (5, 1, false), (6, 1, true)] [.i .i64, .i .i64, .i .i64, .i .i64, .i .i64, .nl .ent, .nl .spk] false),
  (80, .sl .pin 85 16),
  (85, .st 2 [(0, 1, false), (1, 1, false)] [.i .i64, .i .i64] true),
  (88, .it .u64),
  (90, .st 4 [(0, 1, false), (1, 1, false), (2, 1, false), (3, 1, false)] [.i .i64, .i .i64, .i .i64, .i .i64] true)],
  [(5, [true]), (10, [true]), (11, [true]), (12, [true]), (13, [true]), (17, [true, false, true]), (18, [true]), (20, [true]), (21, [true]), (22, [true]), (23, [true]), (24, [true]), (26, [true]), (37, [true]), (39, [true]), (40, [true]), (41, [true]), (42, [true]), (54, [true]), (55, [true]), (56, [true]), (57, [true]), (58, [true]), (67, [true])], []⟩
theorem tabOk : tabB Try.prog tab = true := by kernel_rfl
end Go.Proofs.Ytlochjpjlhkjaaa

