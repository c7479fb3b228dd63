/- Parts of a proof. No conditions. -/

import Derived.Test.YtpklefhdkkegiaaGreatG04
import Derived.Test.YtpklefhdkkegiaaGreatChecked
import Derived.KernelRfl
set_option linter.unusedSimpArgs false
set_option linter.unusedVariables false
namespace Go.Proofs.YtpklefhdkkegiaaGreat
open Go
def tab:aX:=⟨[
 (3, .it .i64),
 (4, .bt),
 (5, .it .u8),
 (9, .ss),
 (22, .sl .byte 5 1),
 (24, .sl .int 3 8),
 (26, .st 9 [(0,1,false),(1,1,false),(2,1,false),(3,1,false),(4,1,false),(5,1,false),(6,1,false),(7,1,false),(8,1,false)] [.nl .int, .i .i64, .i .i64, .i .i64, .i .i64, .i .i64, .i .i64, .i .i64, .i .i64] false),
 (28, .sl .aB 45 80),
 (29, .sl .ah 54 88),
 (31, .st 15 [(0,9,true),(9,1,false),(10,1,false),(11,1,false),(12,1,false),(13,1,false),(14,1,false)] [.nl .int, .i .i64, .i .i64, .i .i64, .i .i64, .i .i64, .i .i64, .i .i64, .i .i64, .i .i64, .i .i64, .nl .aB, .nl .ah, .nl .int, .nl .int] false),
 (45, .st 10 [(0,1,false),(1,1,false),(2,1,false),(3,1,false),(4,1,false),(5,1,false),(6,1,false),(7,1,false),(8,1,false),(9,1,false)] [.i .i64, .i .i64, .i .i64, .i .i64, .i .i64, .i .i64, .i .i64, .i .i64, .i .i64, .i .i64] true),
 (48, .st 5 [(0,1,false),(1,1,false),(2,1,false),(3,1,false),(4,1,false)] [.i .i64, .i .i64, .i .i64, .i .i64, .i .i64] true),
 (49, .sl .aH 105 32),
 (50, .sl .cw 101 24),
 (52, .st 1 [(0,1,false)] [.nl .cw] false),
 (54, .st 7 [(0,5,true),(5,1,false),(6,1,true)] [.i .i64, .i .i64, .i .i64, .i .i64, .i .i64, .nl .aH, .nl .cw] false),
 (57, .st 2 [(0,1,false),(1,1,false)] [.i .i64, .i .i64] true),
 (61, .sl .fC 69 48),
 (65, .st 2 [(0,1,false),(1,1,false)] [.i .i64, .nl .int] false),
 (69, .st 6 [(0,1,false),(1,1,false),(2,1,false),(3,1,false),(4,1,false),(5,1,false)] [.i .i64, .i .i64, .i .i64, .i .i64, .i .i64, .i .i64] true),
 (78, .sl .rep 65 32),
 (84, .sc .un),
 (101, .sl .aI 57 16),
 (105, .st 4 [(0,1,false),(1,1,false),(2,1,false),(3,1,false)] [.i .i64, .i .i64, .i .i64, .i .i64] true),
 (118, .sl .str 9 16),
 (122, .st 3 [(0,1,false),(1,1,false),(2,1,false)] [.nl .byte, .i .i64, .i .i64] false),
 (133, .sc .un),
 (166, .sc .un),
 (183, .it .u64),
 (191, .mp 3 3),
 (216, .it .u64)],
 [(12,[true]),(19,[true]),(30,[true]),(33,[true]),(36,[true]),(44,[true]),(45,[true]),(65,[true]),(78,[true]),(79,[true]),(81,[true]),(82,[true]),(83,[true]),(84,[true]),(85,[true]),(99,[true]),(100,[true]),(102,[true]),(108,[true]),(132,[true]),(143,[true]),(150,[true]),(152,[true]),(153,[true]),(154,[true]),(155,[true]),(156,[true]),(158,[true]),(184,[true]),(186,[true]),(188,[true]),(191,[true]),(194,[true]),(197,[true,false,true]),(200,[true,false,true]),(203,[true]),(205,[true]),(206,[true]),(211,[true]),(217,[true]),(218,[true]),(219,[true]),(220,[true]),(230,[true,false,true]),(231,[true]),(233,[true]),(234,[true]),(235,[true]),(236,[true]),(237,[true]),(238,[true]),(242,[true]),(244,[true]),(246,[true]),(258,[true]),(259,[true]),(260,[true]),(261,[true]),(262,[true]),(264,[true]),(270,[true]),(273,[true]),(287,[true])],[(99,5, .fC),(143,16, .ah)],[]⟩
theorem aD:eC Tryz.prog tab=true:=by kernel_rfl
end Go.Proofs.YtpklefhdkkegiaaGreat

