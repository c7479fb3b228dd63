/- Parts of a proof. No conditions. -/

import Derived.Test.YtnenmkiabclncaaGreatG04
import Derived.Test.YtnenmkiabclncaaGreatChecked
import Derived.KernelRfl
set_option linter.unusedSimpArgs false
set_option linter.unusedVariables false
namespace Go.Proofs.YtnenmkiabclncaaGreat
open Go
def tab : Tab := ⟨[
  (3, .it .i64),
  (4, .bt),
  (5, .it .u8),
  (9, .ss),
  (22, .sl .int 3 8),
  (24, .st 9 [(0, 1, false), (1, 1, false), (2, 1, false), (3, 1, false), (4, 1, false), (5, 1, false), (6, 1, false), (7, 1, false), (8, 1, false)] [.nl .int, .i .i64, .i .i64, .i .i64, .i .i64, .i .i64, .i .i64, .i .i64, .i .i64] false),
  (25, .sl .pty 127 80),
  (26, .sl .cab 122 88),
  (28, .st 15 [(0, 9, true), (9, 1, false), (10, 1, false), (11, 1, false), (12, 1, false), (13, 1, false), (14, 1, false)] [.nl .int, .i .i64, .i .i64, .i .i64, .i .i64, .i .i64, .i .i64, .i .i64, .i .i64, .i .i64, .i .i64, .nl .pty, .nl .cab, .nl .int, .nl .int] false),
  (30, .sl .ent 75 32),
  (32, .st 9 [(0, 1, false), (1, 1, false), (2, 1, false), (3, 1, false), (4, 1, false), (5, 1, false), (6, 1, false), (7, 1, false), (8, 1, false)] [.nl .int, .i .i64, .i .i64, .i .i64, .i .i64, .i .i64, .i .i64, .i .i64, .i .i64] false),
  (33, .sl .pty 97 80),
  (34, .sl .cab 91 88),
  (36, .st 15 [(0, 9, true), (9, 1, false), (10, 1, false), (11, 1, false), (12, 1, false), (13, 1, false), (14, 1, false)] [.nl .int, .i .i64, .i .i64, .i .i64, .i .i64, .i .i64, .i .i64, .i .i64, .i .i64, .i .i64, .i .i64, .nl .pty, .nl .cab, .nl .int, .nl .int] false),
  (47, .st 6 [(0, 1, false), (1, 1, false), (2, 1, false), (3, 1, false), (4, 1, false), (5, 1, false)] [.i .i64, .i .i64, .i .i64, .i .i64, .i .i64, .i .i64] true),
  (49, .st 6 [(0, 1, false), (1, 1, false), (2, 1, false), (3, 1, false), (4, 1, false), (5, 1, false)] [.i .i64, .i .i64, .i .i64, .i .i64, .i .i64, .i .i64] true),
  (75, .st 4 [(0, 1, false), (1, 1, false), (2, 1, false), (3, 1, false)] [.i .i64, .i .i64, .i .i64, .i .i64] true),
  (83, .sl .pin 93 16),
  (86, .st 5 [(0, 1, false), (1, 1, false), (2, 1, false), (3, 1, false), (4, 1, false)] [.i .i64, .i .i64, .i .i64, .i .i64, .i .i64] true),
  (87, .sl .spk 83 24),
  (89, .st 1 [(0, 1, false)] [.nl .spk] false),
  (91, .st 7 [(0, 5, true), (5, 1, false), (6, 1, true)] [.i .i64, .i .i64, .i .i64, .i .i64, .i .i64, .nl .ent, .nl .spk] false),
  (93, .st 2 [(0, 1, false), (1, 1, false)] [.i .i64, .i .i64] true),
  (97, .st 10 [(0, 1, false), (1, 1, false), (2, 1, false), (3, 1, false), (4, 1, false), (5, 1, false), (6, 1, false), (7, 1, false), (8, 1, false), (9, 1, false)] [.i .i64, .i .i64, .i .i64, .i .i64, .i .i64, .i .i64, .i .i64, .i .i64, .i .i64, .i .i64] true),
  (104, .sc .un),
  (116, .st 5 [(0, 1, false), (1, 1, false), (2, 1, false), (3, 1, false), (4, 1, false)] [.i .i64, .i .i64, .i .i64, .i .i64, .i .i64] true),
  (117, .sl .ent 189 32),
  (118, .sl .spk 198 24),
  (120, .st 1 [(0, 1, false)] [.nl .spk] false),
  (122, .st 7 [(0, 5, true), (5, 1, false), (6, 1, true)] [.i .i64, .i .i64, .i .i64, .i .i64, .i .i64, .nl .ent, .nl .spk] false),
  (127, .st 10 [(0, 1, false), (1, 1, false), (2, 1, false), (3, 1, false), (4, 1, false), (5, 1, false), (6, 1, false), (7, 1, false), (8, 1, false), (9, 1, false)] [.i .i64, .i .i64, .i .i64, .i .i64, .i .i64, .i .i64, .i .i64, .i .i64, .i .i64, .i .i64] true),
  (141, .sc .un),
  (182, .mp 3 3),
  (189, .st 4 [(0, 1, false), (1, 1, false), (2, 1, false), (3, 1, false)] [.i .i64, .i .i64, .i .i64, .i .i64] true),
  (196, .it .u64),
  (198, .sl .pin 217 16),
  (212, .it .u64),
  (217, .st 2 [(0, 1, false), (1, 1, false)] [.i .i64, .i .i64] true)],
  [(21, [true]), (22, [true]), (27, [true]), (69, [true]), (70, [true]), (71, [true]), (95, [true]), (97, [true]), (105, [true]), (110, [true]), (113, [true]), (114, [true]), (116, [true]), (121, [true]), (135, [true]), (139, [true]), (156, [true]), (162, [true]), (165, [true]), (168, [true, false, true]), (173, [true, false, true]), (179, [true]), (181, [true]), (182, [true]), (183, [true]), (187, [true]), (191, [true, false, true]), (193, [true]), (217, [true]), (221, [true]), (222, [true]), (247, [true]), (248, [true]), (252, [true]), (260, [true]), (263, [true])]⟩
theorem tabOk : tabB Tryz.prog tab = true := by kernel_rfl
end Go.Proofs.YtnenmkiabclncaaGreat

