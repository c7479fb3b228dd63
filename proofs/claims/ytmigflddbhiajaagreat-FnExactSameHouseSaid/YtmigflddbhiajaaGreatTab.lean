/-
  The table of the program's types. No conditions.
-/
import Derived.Test.YtmigflddbhiajaaGreatG04
import Derived.Test.YtmigflddbhiajaaGreatChecked
import Derived.KernelRfl
set_option linter.unusedSimpArgs false
set_option linter.unusedVariables false

namespace Go.Proofs.YtmigflddbhiajaaGreat
open Go

def tab : Tab := ⟨[
  (3, .it .i64),
  (4, .bt),
  (5, .it .u8),
  (9, .ss),
  (22, .sl .byte 5 1),
  (24, .sl .int 3 8),
  (26, .st 9 [(0, 1, false), (1, 1, false), (2, 1, false), (3, 1, false), (4, 1, false), (5, 1, false), (6, 1, false), (7, 1, false), (8, 1, false)] [.nl .int, .i .i64, .i .i64, .i .i64, .i .i64, .i .i64, .i .i64, .i .i64, .i .i64] false),
  (28, .sl .pty 81 80),
  (29, .sl .cab 74 88),
  (31, .st 15 [(0, 9, true), (9, 1, false), (10, 1, false), (11, 1, false), (12, 1, false), (13, 1, false), (14, 1, false)] [.nl .int, .i .i64, .i .i64, .i .i64, .i .i64, .i .i64, .i .i64, .i .i64, .i .i64, .i .i64, .i .i64, .nl .pty, .nl .cab, .nl .int, .nl .int] false),
  (38, .st 9 [(0, 1, false), (1, 1, false), (2, 1, false), (3, 1, false), (4, 1, false), (5, 1, false), (6, 1, false), (7, 1, false), (8, 1, false)] [.nl .int, .i .i64, .i .i64, .i .i64, .i .i64, .i .i64, .i .i64, .i .i64, .i .i64] false),
  (39, .sl .pty 131 80),
  (40, .sl .cab 129 88),
  (42, .st 15 [(0, 9, true), (9, 1, false), (10, 1, false), (11, 1, false), (12, 1, false), (13, 1, false), (14, 1, false)] [.nl .int, .i .i64, .i .i64, .i .i64, .i .i64, .i .i64, .i .i64, .i .i64, .i .i64, .i .i64, .i .i64, .nl .pty, .nl .cab, .nl .int, .nl .int] false),
  (51, .st 2 [(0, 1, false), (1, 1, false)] [.i .i64, .i .i64] true),
  (57, .st 6 [(0, 1, false), (1, 1, false), (2, 1, false), (3, 1, false), (4, 1, false), (5, 1, false)] [.i .i64, .i .i64, .i .i64, .i .i64, .i .i64, .i .i64] true),
  (64, .sc .un),
  (68, .st 5 [(0, 1, false), (1, 1, false), (2, 1, false), (3, 1, false), (4, 1, false)] [.i .i64, .i .i64, .i .i64, .i .i64, .i .i64] true),
  (69, .sl .ent 102 32),
  (70, .sl .spk 118 24),
  (72, .st 1 [(0, 1, false)] [.nl .spk] false),
  (74, .st 7 [(0, 5, true), (5, 1, false), (6, 1, true)] [.i .i64, .i .i64, .i .i64, .i .i64, .i .i64, .nl .ent, .nl .spk] false),
  (81, .st 10 [(0, 1, false), (1, 1, false), (2, 1, false), (3, 1, false), (4, 1, false), (5, 1, false), (6, 1, false), (7, 1, false), (8, 1, false), (9, 1, false)] [.i .i64, .i .i64, .i .i64, .i .i64, .i .i64, .i .i64, .i .i64, .i .i64, .i .i64, .i .i64] true),
  (102, .st 4 [(0, 1, false), (1, 1, false), (2, 1, false), (3, 1, false)] [.i .i64, .i .i64, .i .i64, .i .i64] true),
  (110, .st 3 [(0, 1, false), (1, 1, false), (2, 1, false)] [.nl .byte, .i .i64, .i .i64] false),
  (118, .sl .pin 51 16),
  (123, .st 5 [(0, 1, false), (1, 1, false), (2, 1, false), (3, 1, false), (4, 1, false)] [.i .i64, .i .i64, .i .i64, .i .i64, .i .i64] true),
  (124, .sl .ent 170 32),
  (125, .sl .spk 189 24),
  (127, .st 1 [(0, 1, false)] [.nl .spk] false),
  (129, .st 7 [(0, 5, true), (5, 1, false), (6, 1, true)] [.i .i64, .i .i64, .i .i64, .i .i64, .i .i64, .nl .ent, .nl .spk] false),
  (131, .st 10 [(0, 1, false), (1, 1, false), (2, 1, false), (3, 1, false), (4, 1, false), (5, 1, false), (6, 1, false), (7, 1, false), (8, 1, false), (9, 1, false)] [.i .i64, .i .i64, .i .i64, .i .i64, .i .i64, .i .i64, .i .i64, .i .i64, .i .i64, .i .i64] true),
  (159, .it .u64),
  (162, .mp 3 3),
  (170, .st 4 [(0, 1, false), (1, 1, false), (2, 1, false), (3, 1, false)] [.i .i64, .i .i64, .i .i64, .i .i64] true),
  (187, .it .u64),
  (189, .sl .pin 198 16),
  (198, .st 2 [(0, 1, false), (1, 1, false)] [.i .i64, .i .i64] true)],
  [(45, [true]), (46, [true]), (100, [true]), (101, [true]), (102, [true]), (104, [true]), (105, [true]), (144, [true]), (145, [true]), (146, [true]), (158, [true]), (160, [true]), (162, [true]), (173, [true]), (179, [true]), (181, [true]), (183, [true]), (189, [true]), (192, [true])]⟩

theorem tabOk : tabB Tryz.prog tab = true := by kernel_rfl

end Go.Proofs.YtmigflddbhiajaaGreat
