/-
  The table of the program's types. No conditions.
-/
import Derived.Test.YtmigflddbhiajaaLoop
import Derived.Test.YtmigflddbhiajaaChecked
import Derived.KernelRfl
namespace Go.Proofs.Ytmigflddbhiajaa
open Go

def tab : Tab := ⟨[
  (3, .it .i64),
  (4, .bt),
  (5, .it .u8),
  (9, .ss),
  (22, .sl .int 3 8),
  (24, .st 9 [(0, 1, false), (1, 1, false), (2, 1, false), (3, 1, false), (4, 1, false), (5, 1, false), (6, 1, false), (7, 1, false), (8, 1, false)] [.nl .int, .i .i64, .i .i64, .i .i64, .i .i64, .i .i64, .i .i64, .i .i64, .i .i64] false),
  (26, .st 9 [(0, 1, false), (1, 1, false), (2, 1, false), (3, 1, false), (4, 1, false), (5, 1, false), (6, 1, false), (7, 1, false), (8, 1, false)] [.nl .int, .i .i64, .i .i64, .i .i64, .i .i64, .i .i64, .i .i64, .i .i64, .i .i64] false),
  (27, .sl .pty 64 80),
  (28, .sl .cab 49 88),
  (30, .st 15 [(0, 9, true), (9, 1, false), (10, 1, false), (11, 1, false), (12, 1, false), (13, 1, false), (14, 1, false)] [.nl .int, .i .i64, .i .i64, .i .i64, .i .i64, .i .i64, .i .i64, .i .i64, .i .i64, .i .i64, .i .i64, .nl .pty, .nl .cab, .nl .int, .nl .int] false),
  (43, .st 5 [(0, 1, false), (1, 1, false), (2, 1, false), (3, 1, false), (4, 1, false)] [.i .i64, .i .i64, .i .i64, .i .i64, .i .i64] true),
  (44, .sl .ent 74 32),
  (45, .sl .spk 69 24),
  (47, .st 1 [(0, 1, false)] [.nl .spk] false),
  (49, .st 7 [(0, 5, true), (5, 1, false), (6, 1, true)] [.i .i64, .i .i64, .i .i64, .i .i64, .i .i64, .nl .ent, .nl .spk] false),
  (64, .st 10 [(0, 1, false), (1, 1, false), (2, 1, false), (3, 1, false), (4, 1, false), (5, 1, false), (6, 1, false), (7, 1, false), (8, 1, false), (9, 1, false)] [.i .i64, .i .i64, .i .i64, .i .i64, .i .i64, .i .i64, .i .i64, .i .i64, .i .i64, .i .i64] true),
  (69, .sl .pin 79 16),
  (74, .st 4 [(0, 1, false), (1, 1, false), (2, 1, false), (3, 1, false)] [.i .i64, .i .i64, .i .i64, .i .i64] true),
  (79, .st 2 [(0, 1, false), (1, 1, false)] [.i .i64, .i .i64] true)],
  [(10, [true]), (11, [true]), (24, [true]), (25, [true]), (26, [true]), (40, [true]), (41, [true]), (49, [true])]⟩

theorem tabOk : tabB Try.prog tab = true := by kernel_rfl

end Go.Proofs.Ytmigflddbhiajaa
