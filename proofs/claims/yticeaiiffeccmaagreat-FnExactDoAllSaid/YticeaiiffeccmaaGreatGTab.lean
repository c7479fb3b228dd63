/- Parts of a proof. No conditions. -/

import Derived.Test.YticeaiiffeccmaaGreatG04
import Derived.Test.YticeaiiffeccmaaGreatChecked
import Derived.KernelRfl
set_option linter.unusedSimpArgs false
set_option linter.unusedVariables false
namespace Go.Proofs.YticeaiiffeccmaaGreat
open Go
def tab : bj := ⟨[
 (3, .it .i64),
 (4, .bt),
 (5, .it .u8),
 (9, .ss),
 (22, .sl .int 3 8),
 (24, .st 9 [(0, 1, false), (1, 1, false), (2, 1, false), (3, 1, false), (4, 1, false), (5, 1, false), (6, 1, false), (7, 1, false), (8, 1, false)] [.nl .int, .i .i64, .i .i64, .i .i64, .i .i64, .i .i64, .i .i64, .i .i64, .i .i64] false),
 (25, .sl .aG 125 80),
 (26, .sl .ah 119 88),
 (28, .st 15 [(0, 9, true), (9, 1, false), (10, 1, false), (11, 1, false), (12, 1, false), (13, 1, false), (14, 1, false)] [.nl .int, .i .i64, .i .i64, .i .i64, .i .i64, .i .i64, .i .i64, .i .i64, .i .i64, .i .i64, .i .i64, .nl .aG, .nl .ah, .nl .int, .nl .int] false),
 (30, .st 9 [(0, 1, false), (1, 1, false), (2, 1, false), (3, 1, false), (4, 1, false), (5, 1, false), (6, 1, false), (7, 1, false), (8, 1, false)] [.nl .int, .i .i64, .i .i64, .i .i64, .i .i64, .i .i64, .i .i64, .i .i64, .i .i64] false),
 (31, .sl .aG 81 80),
 (32, .sl .ah 90 88),
 (34, .st 15 [(0, 9, true), (9, 1, false), (10, 1, false), (11, 1, false), (12, 1, false), (13, 1, false), (14, 1, false)] [.nl .int, .i .i64, .i .i64, .i .i64, .i .i64, .i .i64, .i .i64, .i .i64, .i .i64, .i .i64, .i .i64, .nl .aG, .nl .ah, .nl .int, .nl .int] false),
 (49, .st 6 [(0, 1, false), (1, 1, false), (2, 1, false), (3, 1, false), (4, 1, false), (5, 1, false)] [.i .i64, .i .i64, .i .i64, .i .i64, .i .i64, .i .i64] true),
 (51, .st 2 [(0, 1, false), (1, 1, false)] [.i .i64, .nl .int] false),
 (54, .st 6 [(0, 1, false), (1, 1, false), (2, 1, false), (3, 1, false), (4, 1, false), (5, 1, false)] [.i .i64, .i .i64, .i .i64, .i .i64, .i .i64, .i .i64] true),
 (59, .sl .cT 49 48),
 (61, .sl .rep 51 32),
 (64, .sl .cT 54 48),
 (81, .st 10 [(0, 1, false), (1, 1, false), (2, 1, false), (3, 1, false), (4, 1, false), (5, 1, false), (6, 1, false), (7, 1, false), (8, 1, false), (9, 1, false)] [.i .i64, .i .i64, .i .i64, .i .i64, .i .i64, .i .i64, .i .i64, .i .i64, .i .i64, .i .i64] true),
 (82, .sc .un),
 (84, .st 5 [(0, 1, false), (1, 1, false), (2, 1, false), (3, 1, false), (4, 1, false)] [.i .i64, .i .i64, .i .i64, .i .i64, .i .i64] true),
 (85, .sl .aH 130 32),
 (86, .sl .bZ 143 24),
 (88, .st 1 [(0, 1, false)] [.nl .bZ] false),
 (90, .st 7 [(0, 5, true), (5, 1, false), (6, 1, true)] [.i .i64, .i .i64, .i .i64, .i .i64, .i .i64, .nl .aH, .nl .bZ] false),
 (99, .st 2 [(0, 1, false), (1, 1, false)] [.i .i64, .i .i64] true),
 (113, .st 5 [(0, 1, false), (1, 1, false), (2, 1, false), (3, 1, false), (4, 1, false)] [.i .i64, .i .i64, .i .i64, .i .i64, .i .i64] true),
 (114, .sl .aH 202 32),
 (115, .sl .bZ 210 24),
 (117, .st 1 [(0, 1, false)] [.nl .bZ] false),
 (119, .st 7 [(0, 5, true), (5, 1, false), (6, 1, true)] [.i .i64, .i .i64, .i .i64, .i .i64, .i .i64, .nl .aH, .nl .bZ] false),
 (125, .st 10 [(0, 1, false), (1, 1, false), (2, 1, false), (3, 1, false), (4, 1, false), (5, 1, false), (6, 1, false), (7, 1, false), (8, 1, false), (9, 1, false)] [.i .i64, .i .i64, .i .i64, .i .i64, .i .i64, .i .i64, .i .i64, .i .i64, .i .i64, .i .i64] true),
 (130, .st 4 [(0, 1, false), (1, 1, false), (2, 1, false), (3, 1, false)] [.i .i64, .i .i64, .i .i64, .i .i64] true),
 (132, .sc .un),
 (143, .sl .aI 99 16),
 (176, .mp 3 3),
 (202, .st 4 [(0, 1, false), (1, 1, false), (2, 1, false), (3, 1, false)] [.i .i64, .i .i64, .i .i64, .i .i64] true),
 (210, .sl .aI 220 16),
 (216, .it .u64),
 (220, .st 2 [(0, 1, false), (1, 1, false)] [.i .i64, .i .i64] true),
 (232, .it .u64)],
 [(14, [true]), (21, [true]), (29, [true]), (37, [true]), (38, [true]), (46, [true]), (61, [true]), (62, [true]), (63, [true]), (67, [true]), (69, [true]), (106, [true]), (109, [true]), (112, [true, false, true]), (117, [true, false, true]), (120, [true]), (121, [true]), (125, [true]), (145, [true]), (148, [true]), (149, [true]), (150, [true]), (192, [true]), (197, [true]), (199, [true]), (203, [true, false, true]), (205, [true]), (206, [true]), (219, [true]), (220, [true]), (221, [true]), (222, [true]), (244, [true]), (256, [true]), (263, [true]), (266, [true]), (268, [true]), (272, [true]), (283, [true])]⟩
theorem au : eW Tryz.prog tab = true := by kernel_rfl
end Go.Proofs.YticeaiiffeccmaaGreat

