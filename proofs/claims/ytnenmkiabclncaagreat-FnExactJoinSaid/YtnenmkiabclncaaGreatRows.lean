/-
  No cell of these rows narrows 'for every input' (looked for: loops, veiled, ifaces, maps, wideKeys, modest, calm, conditions, laid).
  DERIVED. THE GIVEN ROWS OF THIS SEAT. 12 by the template 'for every input the law returns true; each argument reads behind the call as it read before'; 0 by the template 'total and deterministic' (their statements: YtnenmkiabclncaaGreatTotals.lean).
  GIVEN WITH THE SEED: the statements are not yours to turn. If you find one false, say at which input.
  Laid BY PROGRAM, IN A SANDBOX (cutbox-rows.mjs): the forced cells as the released guide's own fill.sh prints them over the translation 614aa72d3b8dfd7a… (all of the seat's roots in one cut). By AI agents, Wed Nov 11 2026. No macro, syntax, notation, axiom, sorry.
-/
import Derived.Test.YtnenmkiabclncaaGreatChecked
import GoSem.Claim
import GoSem.ClaimJoined
import GoSem.ClaimMapViews
import Derived.JoinedTies
import Derived.KernelRfl
namespace Go.Proofs.YtnenmkiabclncaaGreat
/- THE CELL 'sum', in the pinned program and in every row, IS THE sha256 OF THE DUMP (.gsa) THAT YtnenmkiabclncaaGreatProg.lean LOADS. Nothing in Lean hashes anything: it is a label: what it is worth is what the hold of that sum in a sandbox is worth. -/
noncomputable def Tryz.pinned : Pinned := { name := "ytnenmkiabclncaagreat", sum := "614aa72d3b8dfd7a597752edb641915a11d5992f705e25b3290cb5c3e25989e5", checked := Tryz.checked }
namespace Rows
def none {H : Type} : Left H := { results := [], args := [] }

/-- 'laws.FnExactAged': WHATEVER THE INPUT: true; the input reads as it did. -/
def fnExactAgedSpec : ChangeSpec := { name := "fnExactAged", fn := fun _ => fun
  | [d1, d2] => { results := [.lit (.bool true)], args := [d1, d2] }
  | _ => none }
def fnExactAgedRow : OpenClaim := { program := "ytnenmkiabclncaagreat", sum := "614aa72d3b8dfd7a597752edb641915a11d5992f705e25b3290cb5c3e25989e5", func := "loop.example/g00494/laws.FnExactAged", spec := "fnExactAged", unfollowed := true, recurses := true, apart := false }
def FnExactAgedSaid : Prop := fnExactAgedRow.holds Tryz.pinned (OpenSpec.ofChange fnExactAgedSpec)

/-- ITS FALSE NEIGHBOUR: 'it returns false'. Refute it at one input. -/
def fnExactAgedWrong : ChangeSpec := { name := "fnExactAged", fn := fun _ => fun
  | [d1, d2] => { results := [.lit (.bool false)], args := [d1, d2] }
  | _ => none }
def FnExactAgedWrongFalsely : Prop := fnExactAgedRow.holds Tryz.pinned (OpenSpec.ofChange fnExactAgedWrong)

/-- 'laws.FnExactDueIn': WHATEVER THE INPUT: true; the input reads as it did. -/
def fnExactDueInSpec : ChangeSpec := { name := "fnExactDueIn", fn := fun _ => fun
  | [d1, d2] => { results := [.lit (.bool true)], args := [d1, d2] }
  | _ => none }
def fnExactDueInRow : OpenClaim := { program := "ytnenmkiabclncaagreat", sum := "614aa72d3b8dfd7a597752edb641915a11d5992f705e25b3290cb5c3e25989e5", func := "loop.example/g00494/laws.FnExactDueIn", spec := "fnExactDueIn", unfollowed := true, recurses := true, apart := false }
def FnExactDueInSaid : Prop := fnExactDueInRow.holds Tryz.pinned (OpenSpec.ofChange fnExactDueInSpec)

/-- ITS FALSE NEIGHBOUR: 'it returns false'. Refute it at one input. -/
def fnExactDueInWrong : ChangeSpec := { name := "fnExactDueIn", fn := fun _ => fun
  | [d1, d2] => { results := [.lit (.bool false)], args := [d1, d2] }
  | _ => none }
def FnExactDueInWrongFalsely : Prop := fnExactDueInRow.holds Tryz.pinned (OpenSpec.ofChange fnExactDueInWrong)

/-- 'laws.FnExactVerdict': WHATEVER THE INPUT: true; the input reads as it did. -/
def fnExactVerdictSpec : ChangeSpec := { name := "fnExactVerdict", fn := fun _ => fun
  | [d1, d2] => { results := [.lit (.bool true)], args := [d1, d2] }
  | _ => none }
def fnExactVerdictRow : OpenClaim := { program := "ytnenmkiabclncaagreat", sum := "614aa72d3b8dfd7a597752edb641915a11d5992f705e25b3290cb5c3e25989e5", func := "loop.example/g00494/laws.FnExactVerdict", spec := "fnExactVerdict", unfollowed := true, recurses := true, apart := false }
def FnExactVerdictSaid : Prop := fnExactVerdictRow.holds Tryz.pinned (OpenSpec.ofChange fnExactVerdictSpec)

/-- ITS FALSE NEIGHBOUR: 'it returns false'. Refute it at one input. -/
def fnExactVerdictWrong : ChangeSpec := { name := "fnExactVerdict", fn := fun _ => fun
  | [d1, d2] => { results := [.lit (.bool false)], args := [d1, d2] }
  | _ => none }
def FnExactVerdictWrongFalsely : Prop := fnExactVerdictRow.holds Tryz.pinned (OpenSpec.ofChange fnExactVerdictWrong)

/-- 'laws.FnExactTick': WHATEVER THE INPUT: true; the input reads as it did. -/
def fnExactTickSpec : ChangeSpec := { name := "fnExactTick", fn := fun _ => fun
  | [d] => { results := [.lit (.bool true)], args := [d] }
  | _ => none }
def fnExactTickRow : OpenClaim := { program := "ytnenmkiabclncaagreat", sum := "614aa72d3b8dfd7a597752edb641915a11d5992f705e25b3290cb5c3e25989e5", func := "loop.example/g00494/laws.FnExactTick", spec := "fnExactTick", unfollowed := true, recurses := true, apart := false }
def FnExactTickSaid : Prop := fnExactTickRow.holds Tryz.pinned (OpenSpec.ofChange fnExactTickSpec)

/-- ITS FALSE NEIGHBOUR: 'it returns false'. Refute it at one input. -/
def fnExactTickWrong : ChangeSpec := { name := "fnExactTick", fn := fun _ => fun
  | [d] => { results := [.lit (.bool false)], args := [d] }
  | _ => none }
def FnExactTickWrongFalsely : Prop := fnExactTickRow.holds Tryz.pinned (OpenSpec.ofChange fnExactTickWrong)

/-- 'laws.FnExactFreeSeats': WHATEVER THE INPUT: true; the input reads as it did. -/
def fnExactFreeSeatsSpec : ChangeSpec := { name := "fnExactFreeSeats", fn := fun _ => fun
  | [d1, d2, d3] => { results := [.lit (.bool true)], args := [d1, d2, d3] }
  | _ => none }
def fnExactFreeSeatsRow : OpenClaim := { program := "ytnenmkiabclncaagreat", sum := "614aa72d3b8dfd7a597752edb641915a11d5992f705e25b3290cb5c3e25989e5", func := "loop.example/g00494/laws.FnExactFreeSeats", spec := "fnExactFreeSeats", unfollowed := true, recurses := true, apart := false }
def FnExactFreeSeatsSaid : Prop := fnExactFreeSeatsRow.holds Tryz.pinned (OpenSpec.ofChange fnExactFreeSeatsSpec)

/-- ITS FALSE NEIGHBOUR: 'it returns false'. Refute it at one input. -/
def fnExactFreeSeatsWrong : ChangeSpec := { name := "fnExactFreeSeats", fn := fun _ => fun
  | [d1, d2, d3] => { results := [.lit (.bool false)], args := [d1, d2, d3] }
  | _ => none }
def FnExactFreeSeatsWrongFalsely : Prop := fnExactFreeSeatsRow.holds Tryz.pinned (OpenSpec.ofChange fnExactFreeSeatsWrong)

/-- 'laws.FnExactOffer': WHATEVER THE INPUT: true; the input reads as it did. -/
def fnExactOfferSpec : ChangeSpec := { name := "fnExactOffer", fn := fun _ => fun
  | [d1, d2] => { results := [.lit (.bool true)], args := [d1, d2] }
  | _ => none }
def fnExactOfferRow : OpenClaim := { program := "ytnenmkiabclncaagreat", sum := "614aa72d3b8dfd7a597752edb641915a11d5992f705e25b3290cb5c3e25989e5", func := "loop.example/g00494/laws.FnExactOffer", spec := "fnExactOffer", inPlace := ["slices.overlaps[loop.example/g00494/impl.Party]", "slices.overlaps[loop.example/g00494/impl.Pin]"], unfollowed := true, recurses := true, apart := false }
def FnExactOfferSaid : Prop := fnExactOfferRow.holds Tryz.pinned (OpenSpec.ofChange fnExactOfferSpec)

/-- ITS FALSE NEIGHBOUR: 'it returns false'. Refute it at one input. -/
def fnExactOfferWrong : ChangeSpec := { name := "fnExactOffer", fn := fun _ => fun
  | [d1, d2] => { results := [.lit (.bool false)], args := [d1, d2] }
  | _ => none }
def FnExactOfferWrongFalsely : Prop := fnExactOfferRow.holds Tryz.pinned (OpenSpec.ofChange fnExactOfferWrong)

/-- 'laws.FnExactAccept': WHATEVER THE INPUT: true; the input reads as it did. -/
def fnExactAcceptSpec : ChangeSpec := { name := "fnExactAccept", fn := fun _ => fun
  | [d1, d2] => { results := [.lit (.bool true)], args := [d1, d2] }
  | _ => none }
def fnExactAcceptRow : OpenClaim := { program := "ytnenmkiabclncaagreat", sum := "614aa72d3b8dfd7a597752edb641915a11d5992f705e25b3290cb5c3e25989e5", func := "loop.example/g00494/laws.FnExactAccept", spec := "fnExactAccept", unfollowed := true, recurses := true, apart := false }
def FnExactAcceptSaid : Prop := fnExactAcceptRow.holds Tryz.pinned (OpenSpec.ofChange fnExactAcceptSpec)

/-- ITS FALSE NEIGHBOUR: 'it returns false'. Refute it at one input. -/
def fnExactAcceptWrong : ChangeSpec := { name := "fnExactAccept", fn := fun _ => fun
  | [d1, d2] => { results := [.lit (.bool false)], args := [d1, d2] }
  | _ => none }
def FnExactAcceptWrongFalsely : Prop := fnExactAcceptRow.holds Tryz.pinned (OpenSpec.ofChange fnExactAcceptWrong)

/-- 'laws.FnExactCancel': WHATEVER THE INPUT: true; the input reads as it did. -/
def fnExactCancelSpec : ChangeSpec := { name := "fnExactCancel", fn := fun _ => fun
  | [d1, d2] => { results := [.lit (.bool true)], args := [d1, d2] }
  | _ => none }
def fnExactCancelRow : OpenClaim := { program := "ytnenmkiabclncaagreat", sum := "614aa72d3b8dfd7a597752edb641915a11d5992f705e25b3290cb5c3e25989e5", func := "loop.example/g00494/laws.FnExactCancel", spec := "fnExactCancel", unfollowed := true, recurses := true, apart := false }
def FnExactCancelSaid : Prop := fnExactCancelRow.holds Tryz.pinned (OpenSpec.ofChange fnExactCancelSpec)

/-- ITS FALSE NEIGHBOUR: 'it returns false'. Refute it at one input. -/
def fnExactCancelWrong : ChangeSpec := { name := "fnExactCancel", fn := fun _ => fun
  | [d1, d2] => { results := [.lit (.bool false)], args := [d1, d2] }
  | _ => none }
def FnExactCancelWrongFalsely : Prop := fnExactCancelRow.holds Tryz.pinned (OpenSpec.ofChange fnExactCancelWrong)

/-- 'laws.FnExactExpire': WHATEVER THE INPUT: true; the input reads as it did. -/
def fnExactExpireSpec : ChangeSpec := { name := "fnExactExpire", fn := fun _ => fun
  | [d1, d2] => { results := [.lit (.bool true)], args := [d1, d2] }
  | _ => none }
def fnExactExpireRow : OpenClaim := { program := "ytnenmkiabclncaagreat", sum := "614aa72d3b8dfd7a597752edb641915a11d5992f705e25b3290cb5c3e25989e5", func := "loop.example/g00494/laws.FnExactExpire", spec := "fnExactExpire", inPlace := ["slices.overlaps[loop.example/g00494/impl.Party]", "slices.overlaps[loop.example/g00494/impl.Entry]"], unfollowed := true, recurses := true, apart := false }
def FnExactExpireSaid : Prop := fnExactExpireRow.holds Tryz.pinned (OpenSpec.ofChange fnExactExpireSpec)

/-- ITS FALSE NEIGHBOUR: 'it returns false'. Refute it at one input. -/
def fnExactExpireWrong : ChangeSpec := { name := "fnExactExpire", fn := fun _ => fun
  | [d1, d2] => { results := [.lit (.bool false)], args := [d1, d2] }
  | _ => none }
def FnExactExpireWrongFalsely : Prop := fnExactExpireRow.holds Tryz.pinned (OpenSpec.ofChange fnExactExpireWrong)

/-- 'laws.FnExactJoin': WHATEVER THE INPUT: true; the input reads as it did. -/
def fnExactJoinSpec : ChangeSpec := { name := "fnExactJoin", fn := fun _ => fun
  | [d1, d2, d3, d4, d5, d6] => { results := [.lit (.bool true)], args := [d1, d2, d3, d4, d5, d6] }
  | _ => none }
def fnExactJoinRow : OpenClaim := { program := "ytnenmkiabclncaagreat", sum := "614aa72d3b8dfd7a597752edb641915a11d5992f705e25b3290cb5c3e25989e5", func := "loop.example/g00494/laws.FnExactJoin", spec := "fnExactJoin", inPlace := ["slices.overlaps[loop.example/g00494/impl.Party]", "slices.overlaps[loop.example/g00494/impl.Entry]"], unfollowed := true, recurses := true, apart := false }
def FnExactJoinSaid : Prop := fnExactJoinRow.holds Tryz.pinned (OpenSpec.ofChange fnExactJoinSpec)

/-- ITS FALSE NEIGHBOUR: 'it returns false'. Refute it at one input. -/
def fnExactJoinWrong : ChangeSpec := { name := "fnExactJoin", fn := fun _ => fun
  | [d1, d2, d3, d4, d5, d6] => { results := [.lit (.bool false)], args := [d1, d2, d3, d4, d5, d6] }
  | _ => none }
def FnExactJoinWrongFalsely : Prop := fnExactJoinRow.holds Tryz.pinned (OpenSpec.ofChange fnExactJoinWrong)

/-- 'laws.FnExactScan': WHATEVER THE INPUT: true; the input reads as it did. -/
def fnExactScanSpec : ChangeSpec := { name := "fnExactScan", fn := fun _ => fun
  | [d1, d2] => { results := [.lit (.bool true)], args := [d1, d2] }
  | _ => none }
def fnExactScanRow : OpenClaim := { program := "ytnenmkiabclncaagreat", sum := "614aa72d3b8dfd7a597752edb641915a11d5992f705e25b3290cb5c3e25989e5", func := "loop.example/g00494/laws.FnExactScan", spec := "fnExactScan", inPlace := ["slices.overlaps[loop.example/g00494/impl.Party]", "slices.overlaps[loop.example/g00494/impl.Entry]", "slices.overlaps[loop.example/g00494/impl.Pin]"], unfollowed := true, recurses := true, apart := false }
def FnExactScanSaid : Prop := fnExactScanRow.holds Tryz.pinned (OpenSpec.ofChange fnExactScanSpec)

/-- ITS FALSE NEIGHBOUR: 'it returns false'. Refute it at one input. -/
def fnExactScanWrong : ChangeSpec := { name := "fnExactScan", fn := fun _ => fun
  | [d1, d2] => { results := [.lit (.bool false)], args := [d1, d2] }
  | _ => none }
def FnExactScanWrongFalsely : Prop := fnExactScanRow.holds Tryz.pinned (OpenSpec.ofChange fnExactScanWrong)

/-- 'laws.FnExactDecline': WHATEVER THE INPUT: true; the input reads as it did. -/
def fnExactDeclineSpec : ChangeSpec := { name := "fnExactDecline", fn := fun _ => fun
  | [d1, d2] => { results := [.lit (.bool true)], args := [d1, d2] }
  | _ => none }
def fnExactDeclineRow : OpenClaim := { program := "ytnenmkiabclncaagreat", sum := "614aa72d3b8dfd7a597752edb641915a11d5992f705e25b3290cb5c3e25989e5", func := "loop.example/g00494/laws.FnExactDecline", spec := "fnExactDecline", inPlace := ["slices.overlaps[loop.example/g00494/impl.Party]", "slices.overlaps[loop.example/g00494/impl.Entry]"], unfollowed := true, recurses := true, apart := false }
def FnExactDeclineSaid : Prop := fnExactDeclineRow.holds Tryz.pinned (OpenSpec.ofChange fnExactDeclineSpec)

/-- ITS FALSE NEIGHBOUR: 'it returns false'. Refute it at one input. -/
def fnExactDeclineWrong : ChangeSpec := { name := "fnExactDecline", fn := fun _ => fun
  | [d1, d2] => { results := [.lit (.bool false)], args := [d1, d2] }
  | _ => none }
def FnExactDeclineWrongFalsely : Prop := fnExactDeclineRow.holds Tryz.pinned (OpenSpec.ofChange fnExactDeclineWrong)

/- THE SECOND FORM. 'bulk': how many values and letters a reading holds, each counted each time it is reached (what is shared counts as often as it is met; a slice's spare places count too). A statement '..UptoSaid' is the law's where the arguments, and the package variables that the reading takes, are together of bulk at most 1048576: NARROWER than '..Said'. Prove '..Said' where nothing that the law and all that it calls make is longer than what came in: it says more and counts as full. Else prove '..UptoSaid'. A law counts once. -/
mutual
def uptoBulk {H : Type} : DataW H → Nat
  | .lit (.string bytes) => bytes.length + 1
  | .lit _ => 1
  | .nil => 1
  | .ptr d => uptoBulk d + 1
  | .slice elems spare => uptoBulkAll elems + uptoBulkAll spare + 1
  | .agg parts => uptoBulkAll parts + 1
  | .iface _ d => uptoBulk d + 1
  | .map entries => uptoBulkEntries entries + 1
  | .held _ => 1
def uptoBulkAll {H : Type} : List (DataW H) → Nat
  | [] => 0
  | d :: r => uptoBulk d + uptoBulkAll r
def uptoBulkEntries {H : Type} : List (Lit × DataW H) → Nat
  | [] => 0
  | x :: r => uptoBulkEntry x + uptoBulkEntries r
def uptoBulkEntry {H : Type} : Lit × DataW H → Nat
  | (.string bytes, d) => bytes.length + uptoBulk d + 1
  | (_, d) => uptoBulk d + 1
 end
def uptoSmall : (H : Type) → List (DataW H) → Bool := fun _ ds => decide (uptoBulkAll ds ≤ 1048576)
def OpenSpec.upto (s : _root_.Go.ChangeSpec) : _root_.Go.OpenSpec := { _root_.Go.OpenSpec.ofChange s with cond := some uptoSmall }

/-- 'laws.FnExactAged', WHERE WHAT IT READS IS OF BULK AT MOST 1048576: true; the input reads as it did. -/
def fnExactAgedUptoRow : OpenClaim := { program := "ytnenmkiabclncaagreat", sum := "614aa72d3b8dfd7a597752edb641915a11d5992f705e25b3290cb5c3e25989e5", func := "loop.example/g00494/laws.FnExactAged", spec := "fnExactAged", unfollowed := true, recurses := true, apart := false, narrowed := true }
def FnExactAgedUptoSaid : Prop := fnExactAgedUptoRow.holds Tryz.pinned (OpenSpec.upto fnExactAgedSpec)

/-- 'laws.FnExactDueIn', WHERE WHAT IT READS IS OF BULK AT MOST 1048576: true; the input reads as it did. -/
def fnExactDueInUptoRow : OpenClaim := { program := "ytnenmkiabclncaagreat", sum := "614aa72d3b8dfd7a597752edb641915a11d5992f705e25b3290cb5c3e25989e5", func := "loop.example/g00494/laws.FnExactDueIn", spec := "fnExactDueIn", unfollowed := true, recurses := true, apart := false, narrowed := true }
def FnExactDueInUptoSaid : Prop := fnExactDueInUptoRow.holds Tryz.pinned (OpenSpec.upto fnExactDueInSpec)

/-- 'laws.FnExactVerdict', WHERE WHAT IT READS IS OF BULK AT MOST 1048576: true; the input reads as it did. -/
def fnExactVerdictUptoRow : OpenClaim := { program := "ytnenmkiabclncaagreat", sum := "614aa72d3b8dfd7a597752edb641915a11d5992f705e25b3290cb5c3e25989e5", func := "loop.example/g00494/laws.FnExactVerdict", spec := "fnExactVerdict", unfollowed := true, recurses := true, apart := false, narrowed := true }
def FnExactVerdictUptoSaid : Prop := fnExactVerdictUptoRow.holds Tryz.pinned (OpenSpec.upto fnExactVerdictSpec)

/-- 'laws.FnExactTick', WHERE WHAT IT READS IS OF BULK AT MOST 1048576: true; the input reads as it did. -/
def fnExactTickUptoRow : OpenClaim := { program := "ytnenmkiabclncaagreat", sum := "614aa72d3b8dfd7a597752edb641915a11d5992f705e25b3290cb5c3e25989e5", func := "loop.example/g00494/laws.FnExactTick", spec := "fnExactTick", unfollowed := true, recurses := true, apart := false, narrowed := true }
def FnExactTickUptoSaid : Prop := fnExactTickUptoRow.holds Tryz.pinned (OpenSpec.upto fnExactTickSpec)

/-- 'laws.FnExactFreeSeats', WHERE WHAT IT READS IS OF BULK AT MOST 1048576: true; the input reads as it did. -/
def fnExactFreeSeatsUptoRow : OpenClaim := { program := "ytnenmkiabclncaagreat", sum := "614aa72d3b8dfd7a597752edb641915a11d5992f705e25b3290cb5c3e25989e5", func := "loop.example/g00494/laws.FnExactFreeSeats", spec := "fnExactFreeSeats", unfollowed := true, recurses := true, apart := false, narrowed := true }
def FnExactFreeSeatsUptoSaid : Prop := fnExactFreeSeatsUptoRow.holds Tryz.pinned (OpenSpec.upto fnExactFreeSeatsSpec)

/-- 'laws.FnExactOffer', WHERE WHAT IT READS IS OF BULK AT MOST 1048576: true; the input reads as it did. -/
def fnExactOfferUptoRow : OpenClaim := { program := "ytnenmkiabclncaagreat", sum := "614aa72d3b8dfd7a597752edb641915a11d5992f705e25b3290cb5c3e25989e5", func := "loop.example/g00494/laws.FnExactOffer", spec := "fnExactOffer", inPlace := ["slices.overlaps[loop.example/g00494/impl.Party]", "slices.overlaps[loop.example/g00494/impl.Pin]"], unfollowed := true, recurses := true, apart := false, narrowed := true }
def FnExactOfferUptoSaid : Prop := fnExactOfferUptoRow.holds Tryz.pinned (OpenSpec.upto fnExactOfferSpec)

/-- 'laws.FnExactAccept', WHERE WHAT IT READS IS OF BULK AT MOST 1048576: true; the input reads as it did. -/
def fnExactAcceptUptoRow : OpenClaim := { program := "ytnenmkiabclncaagreat", sum := "614aa72d3b8dfd7a597752edb641915a11d5992f705e25b3290cb5c3e25989e5", func := "loop.example/g00494/laws.FnExactAccept", spec := "fnExactAccept", unfollowed := true, recurses := true, apart := false, narrowed := true }
def FnExactAcceptUptoSaid : Prop := fnExactAcceptUptoRow.holds Tryz.pinned (OpenSpec.upto fnExactAcceptSpec)

/-- 'laws.FnExactCancel', WHERE WHAT IT READS IS OF BULK AT MOST 1048576: true; the input reads as it did. -/
def fnExactCancelUptoRow : OpenClaim := { program := "ytnenmkiabclncaagreat", sum := "614aa72d3b8dfd7a597752edb641915a11d5992f705e25b3290cb5c3e25989e5", func := "loop.example/g00494/laws.FnExactCancel", spec := "fnExactCancel", unfollowed := true, recurses := true, apart := false, narrowed := true }
def FnExactCancelUptoSaid : Prop := fnExactCancelUptoRow.holds Tryz.pinned (OpenSpec.upto fnExactCancelSpec)

/-- 'laws.FnExactExpire', WHERE WHAT IT READS IS OF BULK AT MOST 1048576: true; the input reads as it did. -/
def fnExactExpireUptoRow : OpenClaim := { program := "ytnenmkiabclncaagreat", sum := "614aa72d3b8dfd7a597752edb641915a11d5992f705e25b3290cb5c3e25989e5", func := "loop.example/g00494/laws.FnExactExpire", spec := "fnExactExpire", inPlace := ["slices.overlaps[loop.example/g00494/impl.Party]", "slices.overlaps[loop.example/g00494/impl.Entry]"], unfollowed := true, recurses := true, apart := false, narrowed := true }
def FnExactExpireUptoSaid : Prop := fnExactExpireUptoRow.holds Tryz.pinned (OpenSpec.upto fnExactExpireSpec)

/-- 'laws.FnExactJoin', WHERE WHAT IT READS IS OF BULK AT MOST 1048576: true; the input reads as it did. -/
def fnExactJoinUptoRow : OpenClaim := { program := "ytnenmkiabclncaagreat", sum := "614aa72d3b8dfd7a597752edb641915a11d5992f705e25b3290cb5c3e25989e5", func := "loop.example/g00494/laws.FnExactJoin", spec := "fnExactJoin", inPlace := ["slices.overlaps[loop.example/g00494/impl.Party]", "slices.overlaps[loop.example/g00494/impl.Entry]"], unfollowed := true, recurses := true, apart := false, narrowed := true }
def FnExactJoinUptoSaid : Prop := fnExactJoinUptoRow.holds Tryz.pinned (OpenSpec.upto fnExactJoinSpec)

/-- 'laws.FnExactScan', WHERE WHAT IT READS IS OF BULK AT MOST 1048576: true; the input reads as it did. -/
def fnExactScanUptoRow : OpenClaim := { program := "ytnenmkiabclncaagreat", sum := "614aa72d3b8dfd7a597752edb641915a11d5992f705e25b3290cb5c3e25989e5", func := "loop.example/g00494/laws.FnExactScan", spec := "fnExactScan", inPlace := ["slices.overlaps[loop.example/g00494/impl.Party]", "slices.overlaps[loop.example/g00494/impl.Entry]", "slices.overlaps[loop.example/g00494/impl.Pin]"], unfollowed := true, recurses := true, apart := false, narrowed := true }
def FnExactScanUptoSaid : Prop := fnExactScanUptoRow.holds Tryz.pinned (OpenSpec.upto fnExactScanSpec)

/-- 'laws.FnExactDecline', WHERE WHAT IT READS IS OF BULK AT MOST 1048576: true; the input reads as it did. -/
def fnExactDeclineUptoRow : OpenClaim := { program := "ytnenmkiabclncaagreat", sum := "614aa72d3b8dfd7a597752edb641915a11d5992f705e25b3290cb5c3e25989e5", func := "loop.example/g00494/laws.FnExactDecline", spec := "fnExactDecline", inPlace := ["slices.overlaps[loop.example/g00494/impl.Party]", "slices.overlaps[loop.example/g00494/impl.Entry]"], unfollowed := true, recurses := true, apart := false, narrowed := true }
def FnExactDeclineUptoSaid : Prop := fnExactDeclineUptoRow.holds Tryz.pinned (OpenSpec.upto fnExactDeclineSpec)

end Rows
end Go.Proofs.YtnenmkiabclncaaGreat
