/-
  The table of the program's types. No conditions.
-/
import Derived.Test.YtnmdhpaobmjefaaLoop
import Derived.Test.YtnmdhpaobmjefaaChecked
import Derived.KernelRfl
namespace Go.Proofs.Ytnmdhpaobmjefaa
open Go

def tab : Tab := ⟨[
  (3, .it .i64),
  (4, .bt),
  (5, .it .u8),
  (9, .ss),
  (25, .st 6 [(0, 1, false), (1, 1, false), (2, 1, false), (3, 1, false), (4, 1, false), (5, 1, false)] [.i .i64, .i .i64, .i .i64, .i .i64, .i .i64, .i .i64] true),
  (27, .st 6 [(0, 1, false), (1, 1, false), (2, 1, false), (3, 1, false), (4, 1, false), (5, 1, false)] [.i .i64, .i .i64, .i .i64, .i .i64, .i .i64, .i .i64] true),
  (30, .sl .int 3 8),
  (32, .st 2 [(0, 1, false), (1, 1, false)] [.i .i64, .nl .int] false),
  (35, .st 2 [(0, 1, false), (1, 1, false)] [.i .i64, .nl .int] false),
  (39, .sl .rep 32 32),
  (42, .sl .rep 35 32),
  (52, .sl .str 9 16),
  (58, .sl .byte 5 1),
  (61, .it .u64)],
  [(27, [true]), (28, [true])]⟩

theorem tabOk : tabB Try.prog tab = true := by kernel_rfl

end Go.Proofs.Ytnmdhpaobmjefaa
