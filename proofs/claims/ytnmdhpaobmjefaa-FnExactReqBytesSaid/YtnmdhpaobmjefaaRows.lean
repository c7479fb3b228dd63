/-
  No cell of these rows narrows 'for every input' (looked for: loops, veiled, ifaces, maps, wideKeys, modest, calm, conditions, laid).
  DERIVED. THE GIVEN ROWS OF THIS SEAT. 6 by the template 'for every input the law returns true; each argument reads behind the call as it read before'; 0 by the template 'total and deterministic' (their statements: YtnmdhpaobmjefaaTotals.lean).
  GIVEN WITH THE SEED: the statements are not yours to turn. If you find one false, say at which input.
  Laid BY PROGRAM, IN A SANDBOX (cutbox-rows.mjs): the forced cells as the released guide's own fill.sh prints them over the translation 22a059e13754d87a… (all of the seat's roots in one cut). By AI agents, Wed Nov 11 2026. No macro, syntax, notation, axiom, sorry.
-/
import Derived.Test.YtnmdhpaobmjefaaChecked
import GoSem.Claim
import GoSem.ClaimJoined
import GoSem.ClaimMapViews
import Derived.JoinedTies
import Derived.KernelRfl
namespace Go.Proofs.Ytnmdhpaobmjefaa
/- THE CELL 'sum', in the pinned program and in every row, IS THE sha256 OF THE DUMP (.gsa) THAT YtnmdhpaobmjefaaProg.lean LOADS. Nothing in Lean hashes anything: it is a label: what it is worth is what the hold of that sum in a sandbox is worth. -/
noncomputable def Try.pinned : Pinned := { name := "ytnmdhpaobmjefaa", sum := "22a059e13754d87a02f6538076c9e70c127102298c88984db2010cc659a58511", checked := Try.checked }
namespace Rows
def none {H : Type} : Left H := { results := [], args := [] }

/-- 'laws.FnExactCodeWord': WHATEVER THE INPUT: true; the input reads as it did. -/
def fnExactCodeWordSpec : ChangeSpec := { name := "fnExactCodeWord", fn := fun _ => fun
  | [d] => { results := [.lit (.bool true)], args := [d] }
  | _ => none }
def fnExactCodeWordRow : OpenClaim := { program := "ytnmdhpaobmjefaa", sum := "22a059e13754d87a02f6538076c9e70c127102298c88984db2010cc659a58511", func := "loop.example/g00494/laws.FnExactCodeWord", spec := "fnExactCodeWord", apart := false }
def FnExactCodeWordSaid : Prop := fnExactCodeWordRow.holds Try.pinned (OpenSpec.ofChange fnExactCodeWordSpec)

/-- ITS FALSE NEIGHBOUR: 'it returns false'. Refute it at one input. -/
def fnExactCodeWordWrong : ChangeSpec := { name := "fnExactCodeWord", fn := fun _ => fun
  | [d] => { results := [.lit (.bool false)], args := [d] }
  | _ => none }
def FnExactCodeWordWrongFalsely : Prop := fnExactCodeWordRow.holds Try.pinned (OpenSpec.ofChange fnExactCodeWordWrong)

/-- 'laws.FnExactReqOk': WHATEVER THE INPUT: true; the input reads as it did. -/
def fnExactReqOkSpec : ChangeSpec := { name := "fnExactReqOk", fn := fun _ => fun
  | [d] => { results := [.lit (.bool true)], args := [d] }
  | _ => none }
def fnExactReqOkRow : OpenClaim := { program := "ytnmdhpaobmjefaa", sum := "22a059e13754d87a02f6538076c9e70c127102298c88984db2010cc659a58511", func := "loop.example/g00494/laws.FnExactReqOk", spec := "fnExactReqOk", unfollowed := true, recurses := true, apart := false }
def FnExactReqOkSaid : Prop := fnExactReqOkRow.holds Try.pinned (OpenSpec.ofChange fnExactReqOkSpec)

/-- ITS FALSE NEIGHBOUR: 'it returns false'. Refute it at one input. -/
def fnExactReqOkWrong : ChangeSpec := { name := "fnExactReqOk", fn := fun _ => fun
  | [d] => { results := [.lit (.bool false)], args := [d] }
  | _ => none }
def FnExactReqOkWrongFalsely : Prop := fnExactReqOkRow.holds Try.pinned (OpenSpec.ofChange fnExactReqOkWrong)

/-- 'laws.FnExactSameReply': WHATEVER THE INPUT: true; the input reads as it did. -/
def fnExactSameReplySpec : ChangeSpec := { name := "fnExactSameReply", fn := fun _ => fun
  | [d1, d2] => { results := [.lit (.bool true)], args := [d1, d2] }
  | _ => none }
def fnExactSameReplyRow : OpenClaim := { program := "ytnmdhpaobmjefaa", sum := "22a059e13754d87a02f6538076c9e70c127102298c88984db2010cc659a58511", func := "loop.example/g00494/laws.FnExactSameReply", spec := "fnExactSameReply", apart := false }
def FnExactSameReplySaid : Prop := fnExactSameReplyRow.holds Try.pinned (OpenSpec.ofChange fnExactSameReplySpec)

/-- ITS FALSE NEIGHBOUR: 'it returns false'. Refute it at one input. -/
def fnExactSameReplyWrong : ChangeSpec := { name := "fnExactSameReply", fn := fun _ => fun
  | [d1, d2] => { results := [.lit (.bool false)], args := [d1, d2] }
  | _ => none }
def FnExactSameReplyWrongFalsely : Prop := fnExactSameReplyRow.holds Try.pinned (OpenSpec.ofChange fnExactSameReplyWrong)

/-- 'laws.FnExactReqBytes': WHATEVER THE INPUT: true; the input reads as it did. -/
def fnExactReqBytesSpec : ChangeSpec := { name := "fnExactReqBytes", fn := fun _ => fun
  | [d] => { results := [.lit (.bool true)], args := [d] }
  | _ => none }
def fnExactReqBytesRow : OpenClaim := { program := "ytnmdhpaobmjefaa", sum := "22a059e13754d87a02f6538076c9e70c127102298c88984db2010cc659a58511", func := "loop.example/g00494/laws.FnExactReqBytes", spec := "fnExactReqBytes", unfollowed := true, recurses := true, apart := false }
def FnExactReqBytesSaid : Prop := fnExactReqBytesRow.holds Try.pinned (OpenSpec.ofChange fnExactReqBytesSpec)

/-- ITS FALSE NEIGHBOUR: 'it returns false'. Refute it at one input. -/
def fnExactReqBytesWrong : ChangeSpec := { name := "fnExactReqBytes", fn := fun _ => fun
  | [d] => { results := [.lit (.bool false)], args := [d] }
  | _ => none }
def FnExactReqBytesWrongFalsely : Prop := fnExactReqBytesRow.holds Try.pinned (OpenSpec.ofChange fnExactReqBytesWrong)

/-- 'laws.FnExactCodes': WHATEVER THE INPUT: true; the input reads as it did. -/
def fnExactCodesSpec : ChangeSpec := { name := "fnExactCodes", fn := fun _ => fun
  | [d] => { results := [.lit (.bool true)], args := [d] }
  | _ => none }
def fnExactCodesRow : OpenClaim := { program := "ytnmdhpaobmjefaa", sum := "22a059e13754d87a02f6538076c9e70c127102298c88984db2010cc659a58511", func := "loop.example/g00494/laws.FnExactCodes", spec := "fnExactCodes", apart := false }
def FnExactCodesSaid : Prop := fnExactCodesRow.holds Try.pinned (OpenSpec.ofChange fnExactCodesSpec)

/-- ITS FALSE NEIGHBOUR: 'it returns false'. Refute it at one input. -/
def fnExactCodesWrong : ChangeSpec := { name := "fnExactCodes", fn := fun _ => fun
  | [d] => { results := [.lit (.bool false)], args := [d] }
  | _ => none }
def FnExactCodesWrongFalsely : Prop := fnExactCodesRow.holds Try.pinned (OpenSpec.ofChange fnExactCodesWrong)

/-- 'laws.FnExactNoteOf': WHATEVER THE INPUT: true; the input reads as it did. -/
def fnExactNoteOfSpec : ChangeSpec := { name := "fnExactNoteOf", fn := fun _ => fun
  | [d1, d2] => { results := [.lit (.bool true)], args := [d1, d2] }
  | _ => none }
def fnExactNoteOfRow : OpenClaim := { program := "ytnmdhpaobmjefaa", sum := "22a059e13754d87a02f6538076c9e70c127102298c88984db2010cc659a58511", func := "loop.example/g00494/laws.FnExactNoteOf", spec := "fnExactNoteOf", unfollowed := true, recurses := true, apart := false }
def FnExactNoteOfSaid : Prop := fnExactNoteOfRow.holds Try.pinned (OpenSpec.ofChange fnExactNoteOfSpec)

/-- ITS FALSE NEIGHBOUR: 'it returns false'. Refute it at one input. -/
def fnExactNoteOfWrong : ChangeSpec := { name := "fnExactNoteOf", fn := fun _ => fun
  | [d1, d2] => { results := [.lit (.bool false)], args := [d1, d2] }
  | _ => none }
def FnExactNoteOfWrongFalsely : Prop := fnExactNoteOfRow.holds Try.pinned (OpenSpec.ofChange fnExactNoteOfWrong)

/- THE SECOND FORM. 'bulk': how many values and letters a reading holds, each counted each time it is reached (what is shared counts as often as it is met; a slice's spare places count too). A statement '..UptoSaid' is the law's where the arguments, and the package variables that the reading takes, are together of bulk at most 1048576: NARROWER than '..Said'. Prove '..Said' where nothing that the law and all that it calls make is longer than what came in: it says more and counts as full. Else prove '..UptoSaid'. A law counts once. -/
mutual
def uptoBulk {H : Type} : DataW H → Nat
  | .lit (.string bytes) => bytes.length + 1
  | .lit _ => 1
  | .nil => 1
  | .ptr d => uptoBulk d + 1
  | .slice elems spare => uptoBulkAll elems + uptoBulkAll spare + 1
  | .agg parts => uptoBulkAll parts + 1
  | .iface _ d => uptoBulk d + 1
  | .map entries => uptoBulkEntries entries + 1
  | .held _ => 1
def uptoBulkAll {H : Type} : List (DataW H) → Nat
  | [] => 0
  | d :: r => uptoBulk d + uptoBulkAll r
def uptoBulkEntries {H : Type} : List (Lit × DataW H) → Nat
  | [] => 0
  | x :: r => uptoBulkEntry x + uptoBulkEntries r
def uptoBulkEntry {H : Type} : Lit × DataW H → Nat
  | (.string bytes, d) => bytes.length + uptoBulk d + 1
  | (_, d) => uptoBulk d + 1
 end
def uptoSmall : (H : Type) → List (DataW H) → Bool := fun _ ds => decide (uptoBulkAll ds ≤ 1048576)
def OpenSpec.upto (s : _root_.Go.ChangeSpec) : _root_.Go.OpenSpec := { _root_.Go.OpenSpec.ofChange s with cond := some uptoSmall }

/-- 'laws.FnExactCodeWord', WHERE WHAT IT READS IS OF BULK AT MOST 1048576: true; the input reads as it did. -/
def fnExactCodeWordUptoRow : OpenClaim := { program := "ytnmdhpaobmjefaa", sum := "22a059e13754d87a02f6538076c9e70c127102298c88984db2010cc659a58511", func := "loop.example/g00494/laws.FnExactCodeWord", spec := "fnExactCodeWord", apart := false, narrowed := true }
def FnExactCodeWordUptoSaid : Prop := fnExactCodeWordUptoRow.holds Try.pinned (OpenSpec.upto fnExactCodeWordSpec)

/-- 'laws.FnExactReqOk', WHERE WHAT IT READS IS OF BULK AT MOST 1048576: true; the input reads as it did. -/
def fnExactReqOkUptoRow : OpenClaim := { program := "ytnmdhpaobmjefaa", sum := "22a059e13754d87a02f6538076c9e70c127102298c88984db2010cc659a58511", func := "loop.example/g00494/laws.FnExactReqOk", spec := "fnExactReqOk", unfollowed := true, recurses := true, apart := false, narrowed := true }
def FnExactReqOkUptoSaid : Prop := fnExactReqOkUptoRow.holds Try.pinned (OpenSpec.upto fnExactReqOkSpec)

/-- 'laws.FnExactSameReply', WHERE WHAT IT READS IS OF BULK AT MOST 1048576: true; the input reads as it did. -/
def fnExactSameReplyUptoRow : OpenClaim := { program := "ytnmdhpaobmjefaa", sum := "22a059e13754d87a02f6538076c9e70c127102298c88984db2010cc659a58511", func := "loop.example/g00494/laws.FnExactSameReply", spec := "fnExactSameReply", apart := false, narrowed := true }
def FnExactSameReplyUptoSaid : Prop := fnExactSameReplyUptoRow.holds Try.pinned (OpenSpec.upto fnExactSameReplySpec)

/-- 'laws.FnExactReqBytes', WHERE WHAT IT READS IS OF BULK AT MOST 1048576: true; the input reads as it did. -/
def fnExactReqBytesUptoRow : OpenClaim := { program := "ytnmdhpaobmjefaa", sum := "22a059e13754d87a02f6538076c9e70c127102298c88984db2010cc659a58511", func := "loop.example/g00494/laws.FnExactReqBytes", spec := "fnExactReqBytes", unfollowed := true, recurses := true, apart := false, narrowed := true }
def FnExactReqBytesUptoSaid : Prop := fnExactReqBytesUptoRow.holds Try.pinned (OpenSpec.upto fnExactReqBytesSpec)

/-- 'laws.FnExactCodes', WHERE WHAT IT READS IS OF BULK AT MOST 1048576: true; the input reads as it did. -/
def fnExactCodesUptoRow : OpenClaim := { program := "ytnmdhpaobmjefaa", sum := "22a059e13754d87a02f6538076c9e70c127102298c88984db2010cc659a58511", func := "loop.example/g00494/laws.FnExactCodes", spec := "fnExactCodes", apart := false, narrowed := true }
def FnExactCodesUptoSaid : Prop := fnExactCodesUptoRow.holds Try.pinned (OpenSpec.upto fnExactCodesSpec)

/-- 'laws.FnExactNoteOf', WHERE WHAT IT READS IS OF BULK AT MOST 1048576: true; the input reads as it did. -/
def fnExactNoteOfUptoRow : OpenClaim := { program := "ytnmdhpaobmjefaa", sum := "22a059e13754d87a02f6538076c9e70c127102298c88984db2010cc659a58511", func := "loop.example/g00494/laws.FnExactNoteOf", spec := "fnExactNoteOf", unfollowed := true, recurses := true, apart := false, narrowed := true }
def FnExactNoteOfUptoSaid : Prop := fnExactNoteOfUptoRow.holds Try.pinned (OpenSpec.upto fnExactNoteOfSpec)

end Rows
end Go.Proofs.Ytnmdhpaobmjefaa
