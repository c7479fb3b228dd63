/- Parts of a proof. No conditions. -/

import Derived.Test.YtehpbaiclfilaaaGreatG04
import Derived.Test.YtehpbaiclfilaaaGreatChecked
import Derived.KernelRfl
set_option linter.unusedSimpArgs false
set_option linter.unusedVariables false
namespace Go.Proofs.YtehpbaiclfilaaaGreat
open Go
def tab : bf := ⟨[
 (3, .it .i64),
 (4, .bt),
 (5, .it .u8),
 (9, .ss),
 (22, .sl .byte 5 1),
 (24, .sl .int 3 8),
 (26, .st 9 [(0, 1, false), (1, 1, false), (2, 1, false), (3, 1, false), (4, 1, false), (5, 1, false), (6, 1, false), (7, 1, false), (8, 1, false)] [.nl .int, .i .i64, .i .i64, .i .i64, .i .i64, .i .i64, .i .i64, .i .i64, .i .i64] false),
 (27, .sl .az 63 80),
 (28, .sl .cf 48 88),
 (30, .st 15 [(0, 9, true), (9, 1, false), (10, 1, false), (11, 1, false), (12, 1, false), (13, 1, false), (14, 1, false)] [.nl .int, .i .i64, .i .i64, .i .i64, .i .i64, .i .i64, .i .i64, .i .i64, .i .i64, .i .i64, .i .i64, .nl .az, .nl .cf, .nl .int, .nl .int] false),
 (34, .st 6 [(0, 1, false), (1, 1, false), (2, 1, false), (3, 1, false), (4, 1, false), (5, 1, false)] [.i .i64, .i .i64, .i .i64, .i .i64, .i .i64, .i .i64] true),
 (38, .st 2 [(0, 1, false), (1, 1, false)] [.i .i64, .i .i64] true),
 (42, .st 5 [(0, 1, false), (1, 1, false), (2, 1, false), (3, 1, false), (4, 1, false)] [.i .i64, .i .i64, .i .i64, .i .i64, .i .i64] true),
 (43, .sl .aD 50 32),
 (44, .sl .cF 116 24),
 (46, .st 1 [(0, 1, false)] [.nl .cF] false),
 (48, .st 7 [(0, 5, true), (5, 1, false), (6, 1, true)] [.i .i64, .i .i64, .i .i64, .i .i64, .i .i64, .nl .aD, .nl .cF] false),
 (50, .st 4 [(0, 1, false), (1, 1, false), (2, 1, false), (3, 1, false)] [.i .i64, .i .i64, .i .i64, .i .i64] true),
 (52, .st 6 [(0, 1, false), (1, 1, false), (2, 1, false), (3, 1, false), (4, 1, false), (5, 1, false)] [.i .i64, .i .i64, .i .i64, .i .i64, .i .i64, .i .i64] true),
 (63, .st 10 [(0, 1, false), (1, 1, false), (2, 1, false), (3, 1, false), (4, 1, false), (5, 1, false), (6, 1, false), (7, 1, false), (8, 1, false), (9, 1, false)] [.i .i64, .i .i64, .i .i64, .i .i64, .i .i64, .i .i64, .i .i64, .i .i64, .i .i64, .i .i64] true),
 (87, .sc .un),
 (110, .sc .un),
 (116, .sl .aF 38 16),
 (123, .st 3 [(0, 1, false), (1, 1, false), (2, 1, false)] [.nl .byte, .i .i64, .i .i64] false),
 (142, .sc .un),
 (165, .it .u64),
 (169, .mp 3 3),
 (201, .it .u64)],
 [(16, [true]), (20, [true]), (25, [true]), (34, [true]), (38, [true]), (45, [true]), (48, [true]), (54, [true]), (60, [true]), (61, [true]), (64, [true]), (77, [true]), (78, [true]), (79, [true]), (80, [true]), (94, [true]), (95, [true]), (96, [true]), (111, [true]), (115, [true]), (116, [true]), (135, [true]), (136, [true]), (137, [true]), (141, [true]), (145, [true]), (146, [true]), (149, [true, false, true]), (152, [true, false, true]), (155, [true]), (159, [true]), (164, [true]), (165, [true]), (166, [true]), (167, [true]), (168, [true]), (169, [true]), (189, [true]), (191, [true]), (197, [true]), (198, [true]), (199, [true]), (200, [true]), (201, [true]), (209, [true]), (212, [true]), (213, [true, false, true]), (214, [true]), (220, [true]), (221, [true]), (222, [true]), (223, [true]), (224, [true]), (225, [true]), (230, [true]), (235, [true]), (239, [true]), (243, [true])], [(105, 15, .aD)], []⟩
theorem ay : fw Tryz.prog tab = true := by kernel_rfl
end Go.Proofs.YtehpbaiclfilaaaGreat

