/-
  No cell of these rows narrows 'for every input' (looked for: loops, veiled, ifaces, maps, wideKeys, modest, calm, conditions, laid).
  DERIVED. THE GIVEN ROWS OF THIS SEAT. 12 by the template 'for every input the law returns true; each argument reads behind the call as it read before'; 0 by the template 'total and deterministic' (their statements: YtehpbaiclfilaaaGreatTotals.lean).
  GIVEN WITH THE SEED: the statements are not yours to turn. If you find one false, say at which input.
  Laid BY PROGRAM, IN A SANDBOX (cutbox-rows.mjs): the forced cells as the released guide's own fill.sh prints them over the translation 751a2a5bcc52c0db… (all of the seat's roots in one cut). By AI agents, Wed Nov 11 2026. No macro, syntax, notation, axiom, sorry.
-/
import Derived.Test.YtehpbaiclfilaaaGreatChecked
import GoSem.Claim
import GoSem.ClaimJoined
import GoSem.ClaimMapViews
import Derived.JoinedTies
import Derived.KernelRfl
namespace Go.Proofs.YtehpbaiclfilaaaGreat
/- THE CELL 'sum', in the pinned program and in every row, IS THE sha256 OF THE DUMP (.gsa) THAT YtehpbaiclfilaaaGreatProg.lean LOADS. Nothing in Lean hashes anything: it is a label: what it is worth is what the hold of that sum in a sandbox is worth. -/
noncomputable def Tryz.pinned : Pinned := { name := "ytehpbaiclfilaaagreat", sum := "751a2a5bcc52c0dbf833c51a1fd577a279e908eb24bacfae01b1a604e0a04299", checked := Tryz.checked }
namespace Rows
def none {H : Type} : Left H := { results := [], args := [] }

/-- 'laws.FnAsk': WHATEVER THE INPUT: true; the input reads as it did. -/
def fnAskSpec : ChangeSpec := { name := "fnAsk", fn := fun _ => fun
  | [d] => { results := [.lit (.bool true)], args := [d] }
  | _ => none }
def fnAskRow : OpenClaim := { program := "ytehpbaiclfilaaagreat", sum := "751a2a5bcc52c0dbf833c51a1fd577a279e908eb24bacfae01b1a604e0a04299", func := "loop.example/g00494/laws.FnAsk", spec := "fnAsk", unfollowed := true, recurses := true, apart := false }
def FnAskSaid : Prop := fnAskRow.holds Tryz.pinned (OpenSpec.ofChange fnAskSpec)

/-- ITS FALSE NEIGHBOUR: 'it returns false'. Refute it at one input. -/
def fnAskWrong : ChangeSpec := { name := "fnAsk", fn := fun _ => fun
  | [d] => { results := [.lit (.bool false)], args := [d] }
  | _ => none }
def FnAskWrongFalsely : Prop := fnAskRow.holds Tryz.pinned (OpenSpec.ofChange fnAskWrong)

/-- 'laws.FnForms': WHATEVER THE INPUT: true; the input reads as it did. -/
def fnFormsSpec : ChangeSpec := { name := "fnForms", fn := fun _ => fun
  | [d] => { results := [.lit (.bool true)], args := [d] }
  | _ => none }
def fnFormsRow : OpenClaim := { program := "ytehpbaiclfilaaagreat", sum := "751a2a5bcc52c0dbf833c51a1fd577a279e908eb24bacfae01b1a604e0a04299", func := "loop.example/g00494/laws.FnForms", spec := "fnForms", unfollowed := true, recurses := true, apart := false }
def FnFormsSaid : Prop := fnFormsRow.holds Tryz.pinned (OpenSpec.ofChange fnFormsSpec)

/-- ITS FALSE NEIGHBOUR: 'it returns false'. Refute it at one input. -/
def fnFormsWrong : ChangeSpec := { name := "fnForms", fn := fun _ => fun
  | [d] => { results := [.lit (.bool false)], args := [d] }
  | _ => none }
def FnFormsWrongFalsely : Prop := fnFormsRow.holds Tryz.pinned (OpenSpec.ofChange fnFormsWrong)

/-- 'laws.FnTickTodo': WHATEVER THE INPUT: true; the input reads as it did. -/
def fnTickTodoSpec : ChangeSpec := { name := "fnTickTodo", fn := fun _ => fun
  | [d] => { results := [.lit (.bool true)], args := [d] }
  | _ => none }
def fnTickTodoRow : OpenClaim := { program := "ytehpbaiclfilaaagreat", sum := "751a2a5bcc52c0dbf833c51a1fd577a279e908eb24bacfae01b1a604e0a04299", func := "loop.example/g00494/laws.FnTickTodo", spec := "fnTickTodo", unfollowed := true, recurses := true, apart := false }
def FnTickTodoSaid : Prop := fnTickTodoRow.holds Tryz.pinned (OpenSpec.ofChange fnTickTodoSpec)

/-- ITS FALSE NEIGHBOUR: 'it returns false'. Refute it at one input. -/
def fnTickTodoWrong : ChangeSpec := { name := "fnTickTodo", fn := fun _ => fun
  | [d] => { results := [.lit (.bool false)], args := [d] }
  | _ => none }
def FnTickTodoWrongFalsely : Prop := fnTickTodoRow.holds Tryz.pinned (OpenSpec.ofChange fnTickTodoWrong)

/-- 'laws.FnTickOrder': WHATEVER THE INPUT: true; the input reads as it did. -/
def fnTickOrderSpec : ChangeSpec := { name := "fnTickOrder", fn := fun _ => fun
  | [d] => { results := [.lit (.bool true)], args := [d] }
  | _ => none }
def fnTickOrderRow : OpenClaim := { program := "ytehpbaiclfilaaagreat", sum := "751a2a5bcc52c0dbf833c51a1fd577a279e908eb24bacfae01b1a604e0a04299", func := "loop.example/g00494/laws.FnTickOrder", spec := "fnTickOrder", unfollowed := true, recurses := true, apart := false }
def FnTickOrderSaid : Prop := fnTickOrderRow.holds Tryz.pinned (OpenSpec.ofChange fnTickOrderSpec)

/-- ITS FALSE NEIGHBOUR: 'it returns false'. Refute it at one input. -/
def fnTickOrderWrong : ChangeSpec := { name := "fnTickOrder", fn := fun _ => fun
  | [d] => { results := [.lit (.bool false)], args := [d] }
  | _ => none }
def FnTickOrderWrongFalsely : Prop := fnTickOrderRow.holds Tryz.pinned (OpenSpec.ofChange fnTickOrderWrong)

/-- 'laws.FnAged': WHATEVER THE INPUT: true; the input reads as it did. -/
def fnAgedSpec : ChangeSpec := { name := "fnAged", fn := fun _ => fun
  | [d] => { results := [.lit (.bool true)], args := [d] }
  | _ => none }
def fnAgedRow : OpenClaim := { program := "ytehpbaiclfilaaagreat", sum := "751a2a5bcc52c0dbf833c51a1fd577a279e908eb24bacfae01b1a604e0a04299", func := "loop.example/g00494/laws.FnAged", spec := "fnAged", unfollowed := true, recurses := true, apart := false }
def FnAgedSaid : Prop := fnAgedRow.holds Tryz.pinned (OpenSpec.ofChange fnAgedSpec)

/-- ITS FALSE NEIGHBOUR: 'it returns false'. Refute it at one input. -/
def fnAgedWrong : ChangeSpec := { name := "fnAged", fn := fun _ => fun
  | [d] => { results := [.lit (.bool false)], args := [d] }
  | _ => none }
def FnAgedWrongFalsely : Prop := fnAgedRow.holds Tryz.pinned (OpenSpec.ofChange fnAgedWrong)

/-- 'laws.FnJoinedLast': WHATEVER THE INPUT: true; the input reads as it did. -/
def fnJoinedLastSpec : ChangeSpec := { name := "fnJoinedLast", fn := fun _ => fun
  | [d] => { results := [.lit (.bool true)], args := [d] }
  | _ => none }
def fnJoinedLastRow : OpenClaim := { program := "ytehpbaiclfilaaagreat", sum := "751a2a5bcc52c0dbf833c51a1fd577a279e908eb24bacfae01b1a604e0a04299", func := "loop.example/g00494/laws.FnJoinedLast", spec := "fnJoinedLast", inPlace := ["slices.overlaps[loop.example/g00494/impl.Party]", "slices.overlaps[loop.example/g00494/impl.Entry]"], unfollowed := true, recurses := true, apart := false }
def FnJoinedLastSaid : Prop := fnJoinedLastRow.holds Tryz.pinned (OpenSpec.ofChange fnJoinedLastSpec)

/-- ITS FALSE NEIGHBOUR: 'it returns false'. Refute it at one input. -/
def fnJoinedLastWrong : ChangeSpec := { name := "fnJoinedLast", fn := fun _ => fun
  | [d] => { results := [.lit (.bool false)], args := [d] }
  | _ => none }
def FnJoinedLastWrongFalsely : Prop := fnJoinedLastRow.holds Tryz.pinned (OpenSpec.ofChange fnJoinedLastWrong)

/-- 'laws.FnJoinCancel': WHATEVER THE INPUT: true; the input reads as it did. -/
def fnJoinCancelSpec : ChangeSpec := { name := "fnJoinCancel", fn := fun _ => fun
  | [d] => { results := [.lit (.bool true)], args := [d] }
  | _ => none }
def fnJoinCancelRow : OpenClaim := { program := "ytehpbaiclfilaaagreat", sum := "751a2a5bcc52c0dbf833c51a1fd577a279e908eb24bacfae01b1a604e0a04299", func := "loop.example/g00494/laws.FnJoinCancel", spec := "fnJoinCancel", inPlace := ["slices.overlaps[loop.example/g00494/impl.Party]", "slices.overlaps[loop.example/g00494/impl.Entry]"], unfollowed := true, recurses := true, apart := false }
def FnJoinCancelSaid : Prop := fnJoinCancelRow.holds Tryz.pinned (OpenSpec.ofChange fnJoinCancelSpec)

/-- ITS FALSE NEIGHBOUR: 'it returns false'. Refute it at one input. -/
def fnJoinCancelWrong : ChangeSpec := { name := "fnJoinCancel", fn := fun _ => fun
  | [d] => { results := [.lit (.bool false)], args := [d] }
  | _ => none }
def FnJoinCancelWrongFalsely : Prop := fnJoinCancelRow.holds Tryz.pinned (OpenSpec.ofChange fnJoinCancelWrong)

/-- 'laws.FnAccepted': WHATEVER THE INPUT: true; the input reads as it did. -/
def fnAcceptedSpec : ChangeSpec := { name := "fnAccepted", fn := fun _ => fun
  | [d] => { results := [.lit (.bool true)], args := [d] }
  | _ => none }
def fnAcceptedRow : OpenClaim := { program := "ytehpbaiclfilaaagreat", sum := "751a2a5bcc52c0dbf833c51a1fd577a279e908eb24bacfae01b1a604e0a04299", func := "loop.example/g00494/laws.FnAccepted", spec := "fnAccepted", unfollowed := true, recurses := true, apart := false }
def FnAcceptedSaid : Prop := fnAcceptedRow.holds Tryz.pinned (OpenSpec.ofChange fnAcceptedSpec)

/-- ITS FALSE NEIGHBOUR: 'it returns false'. Refute it at one input. -/
def fnAcceptedWrong : ChangeSpec := { name := "fnAccepted", fn := fun _ => fun
  | [d] => { results := [.lit (.bool false)], args := [d] }
  | _ => none }
def FnAcceptedWrongFalsely : Prop := fnAcceptedRow.holds Tryz.pinned (OpenSpec.ofChange fnAcceptedWrong)

/-- 'laws.FnExpired': WHATEVER THE INPUT: true; the input reads as it did. -/
def fnExpiredSpec : ChangeSpec := { name := "fnExpired", fn := fun _ => fun
  | [d] => { results := [.lit (.bool true)], args := [d] }
  | _ => none }
def fnExpiredRow : OpenClaim := { program := "ytehpbaiclfilaaagreat", sum := "751a2a5bcc52c0dbf833c51a1fd577a279e908eb24bacfae01b1a604e0a04299", func := "loop.example/g00494/laws.FnExpired", spec := "fnExpired", inPlace := ["slices.overlaps[loop.example/g00494/impl.Party]", "slices.overlaps[loop.example/g00494/impl.Entry]"], unfollowed := true, recurses := true, apart := false }
def FnExpiredSaid : Prop := fnExpiredRow.holds Tryz.pinned (OpenSpec.ofChange fnExpiredSpec)

/-- ITS FALSE NEIGHBOUR: 'it returns false'. Refute it at one input. -/
def fnExpiredWrong : ChangeSpec := { name := "fnExpired", fn := fun _ => fun
  | [d] => { results := [.lit (.bool false)], args := [d] }
  | _ => none }
def FnExpiredWrongFalsely : Prop := fnExpiredRow.holds Tryz.pinned (OpenSpec.ofChange fnExpiredWrong)

/-- 'laws.FnLate': WHATEVER THE INPUT: true; the input reads as it did. -/
def fnLateSpec : ChangeSpec := { name := "fnLate", fn := fun _ => fun
  | [d] => { results := [.lit (.bool true)], args := [d] }
  | _ => none }
def fnLateRow : OpenClaim := { program := "ytehpbaiclfilaaagreat", sum := "751a2a5bcc52c0dbf833c51a1fd577a279e908eb24bacfae01b1a604e0a04299", func := "loop.example/g00494/laws.FnLate", spec := "fnLate", inPlace := ["slices.overlaps[loop.example/g00494/impl.Party]", "slices.overlaps[loop.example/g00494/impl.Entry]", "slices.overlaps[loop.example/g00494/impl.Pin]"], unfollowed := true, recurses := true, apart := false }
def FnLateSaid : Prop := fnLateRow.holds Tryz.pinned (OpenSpec.ofChange fnLateSpec)

/-- ITS FALSE NEIGHBOUR: 'it returns false'. Refute it at one input. -/
def fnLateWrong : ChangeSpec := { name := "fnLate", fn := fun _ => fun
  | [d] => { results := [.lit (.bool false)], args := [d] }
  | _ => none }
def FnLateWrongFalsely : Prop := fnLateRow.holds Tryz.pinned (OpenSpec.ofChange fnLateWrong)

/-- 'laws.FnTooLate': WHATEVER THE INPUT: true; the input reads as it did. -/
def fnTooLateSpec : ChangeSpec := { name := "fnTooLate", fn := fun _ => fun
  | [d] => { results := [.lit (.bool true)], args := [d] }
  | _ => none }
def fnTooLateRow : OpenClaim := { program := "ytehpbaiclfilaaagreat", sum := "751a2a5bcc52c0dbf833c51a1fd577a279e908eb24bacfae01b1a604e0a04299", func := "loop.example/g00494/laws.FnTooLate", spec := "fnTooLate", inPlace := ["slices.overlaps[loop.example/g00494/impl.Party]", "slices.overlaps[loop.example/g00494/impl.Entry]"], unfollowed := true, recurses := true, apart := false }
def FnTooLateSaid : Prop := fnTooLateRow.holds Tryz.pinned (OpenSpec.ofChange fnTooLateSpec)

/-- ITS FALSE NEIGHBOUR: 'it returns false'. Refute it at one input. -/
def fnTooLateWrong : ChangeSpec := { name := "fnTooLate", fn := fun _ => fun
  | [d] => { results := [.lit (.bool false)], args := [d] }
  | _ => none }
def FnTooLateWrongFalsely : Prop := fnTooLateRow.holds Tryz.pinned (OpenSpec.ofChange fnTooLateWrong)

/-- 'laws.FnDeclined': WHATEVER THE INPUT: true; the input reads as it did. -/
def fnDeclinedSpec : ChangeSpec := { name := "fnDeclined", fn := fun _ => fun
  | [d] => { results := [.lit (.bool true)], args := [d] }
  | _ => none }
def fnDeclinedRow : OpenClaim := { program := "ytehpbaiclfilaaagreat", sum := "751a2a5bcc52c0dbf833c51a1fd577a279e908eb24bacfae01b1a604e0a04299", func := "loop.example/g00494/laws.FnDeclined", spec := "fnDeclined", inPlace := ["slices.overlaps[loop.example/g00494/impl.Party]", "slices.overlaps[loop.example/g00494/impl.Entry]"], unfollowed := true, recurses := true, apart := false }
def FnDeclinedSaid : Prop := fnDeclinedRow.holds Tryz.pinned (OpenSpec.ofChange fnDeclinedSpec)

/-- ITS FALSE NEIGHBOUR: 'it returns false'. Refute it at one input. -/
def fnDeclinedWrong : ChangeSpec := { name := "fnDeclined", fn := fun _ => fun
  | [d] => { results := [.lit (.bool false)], args := [d] }
  | _ => none }
def FnDeclinedWrongFalsely : Prop := fnDeclinedRow.holds Tryz.pinned (OpenSpec.ofChange fnDeclinedWrong)

/- THE SECOND FORM. 'bulk': how many values and letters a reading holds, each counted each time it is reached (what is shared counts as often as it is met; a slice's spare places count too). A statement '..UptoSaid' is the law's where the arguments, and the package variables that the reading takes, are together of bulk at most 1048576: NARROWER than '..Said'. Prove '..Said' where nothing that the law and all that it calls make is longer than what came in: it says more and counts as full. Else prove '..UptoSaid'. A law counts once. -/
mutual
def uptoBulk {H : Type} : DataW H → Nat
  | .lit (.string bytes) => bytes.length + 1
  | .lit _ => 1
  | .nil => 1
  | .ptr d => uptoBulk d + 1
  | .slice elems spare => uptoBulkAll elems + uptoBulkAll spare + 1
  | .agg parts => uptoBulkAll parts + 1
  | .iface _ d => uptoBulk d + 1
  | .map entries => uptoBulkEntries entries + 1
  | .held _ => 1
def uptoBulkAll {H : Type} : List (DataW H) → Nat
  | [] => 0
  | d :: r => uptoBulk d + uptoBulkAll r
def uptoBulkEntries {H : Type} : List (Lit × DataW H) → Nat
  | [] => 0
  | x :: r => uptoBulkEntry x + uptoBulkEntries r
def uptoBulkEntry {H : Type} : Lit × DataW H → Nat
  | (.string bytes, d) => bytes.length + uptoBulk d + 1
  | (_, d) => uptoBulk d + 1
 end
def uptoSmall : (H : Type) → List (DataW H) → Bool := fun _ ds => decide (uptoBulkAll ds ≤ 1048576)
def OpenSpec.upto (s : _root_.Go.ChangeSpec) : _root_.Go.OpenSpec := { _root_.Go.OpenSpec.ofChange s with cond := some uptoSmall }

/-- 'laws.FnAsk', WHERE WHAT IT READS IS OF BULK AT MOST 1048576: true; the input reads as it did. -/
def fnAskUptoRow : OpenClaim := { program := "ytehpbaiclfilaaagreat", sum := "751a2a5bcc52c0dbf833c51a1fd577a279e908eb24bacfae01b1a604e0a04299", func := "loop.example/g00494/laws.FnAsk", spec := "fnAsk", unfollowed := true, recurses := true, apart := false, narrowed := true }
def FnAskUptoSaid : Prop := fnAskUptoRow.holds Tryz.pinned (OpenSpec.upto fnAskSpec)

/-- 'laws.FnForms', WHERE WHAT IT READS IS OF BULK AT MOST 1048576: true; the input reads as it did. -/
def fnFormsUptoRow : OpenClaim := { program := "ytehpbaiclfilaaagreat", sum := "751a2a5bcc52c0dbf833c51a1fd577a279e908eb24bacfae01b1a604e0a04299", func := "loop.example/g00494/laws.FnForms", spec := "fnForms", unfollowed := true, recurses := true, apart := false, narrowed := true }
def FnFormsUptoSaid : Prop := fnFormsUptoRow.holds Tryz.pinned (OpenSpec.upto fnFormsSpec)

/-- 'laws.FnTickTodo', WHERE WHAT IT READS IS OF BULK AT MOST 1048576: true; the input reads as it did. -/
def fnTickTodoUptoRow : OpenClaim := { program := "ytehpbaiclfilaaagreat", sum := "751a2a5bcc52c0dbf833c51a1fd577a279e908eb24bacfae01b1a604e0a04299", func := "loop.example/g00494/laws.FnTickTodo", spec := "fnTickTodo", unfollowed := true, recurses := true, apart := false, narrowed := true }
def FnTickTodoUptoSaid : Prop := fnTickTodoUptoRow.holds Tryz.pinned (OpenSpec.upto fnTickTodoSpec)

/-- 'laws.FnTickOrder', WHERE WHAT IT READS IS OF BULK AT MOST 1048576: true; the input reads as it did. -/
def fnTickOrderUptoRow : OpenClaim := { program := "ytehpbaiclfilaaagreat", sum := "751a2a5bcc52c0dbf833c51a1fd577a279e908eb24bacfae01b1a604e0a04299", func := "loop.example/g00494/laws.FnTickOrder", spec := "fnTickOrder", unfollowed := true, recurses := true, apart := false, narrowed := true }
def FnTickOrderUptoSaid : Prop := fnTickOrderUptoRow.holds Tryz.pinned (OpenSpec.upto fnTickOrderSpec)

/-- 'laws.FnAged', WHERE WHAT IT READS IS OF BULK AT MOST 1048576: true; the input reads as it did. -/
def fnAgedUptoRow : OpenClaim := { program := "ytehpbaiclfilaaagreat", sum := "751a2a5bcc52c0dbf833c51a1fd577a279e908eb24bacfae01b1a604e0a04299", func := "loop.example/g00494/laws.FnAged", spec := "fnAged", unfollowed := true, recurses := true, apart := false, narrowed := true }
def FnAgedUptoSaid : Prop := fnAgedUptoRow.holds Tryz.pinned (OpenSpec.upto fnAgedSpec)

/-- 'laws.FnJoinedLast', WHERE WHAT IT READS IS OF BULK AT MOST 1048576: true; the input reads as it did. -/
def fnJoinedLastUptoRow : OpenClaim := { program := "ytehpbaiclfilaaagreat", sum := "751a2a5bcc52c0dbf833c51a1fd577a279e908eb24bacfae01b1a604e0a04299", func := "loop.example/g00494/laws.FnJoinedLast", spec := "fnJoinedLast", inPlace := ["slices.overlaps[loop.example/g00494/impl.Party]", "slices.overlaps[loop.example/g00494/impl.Entry]"], unfollowed := true, recurses := true, apart := false, narrowed := true }
def FnJoinedLastUptoSaid : Prop := fnJoinedLastUptoRow.holds Tryz.pinned (OpenSpec.upto fnJoinedLastSpec)

/-- 'laws.FnJoinCancel', WHERE WHAT IT READS IS OF BULK AT MOST 1048576: true; the input reads as it did. -/
def fnJoinCancelUptoRow : OpenClaim := { program := "ytehpbaiclfilaaagreat", sum := "751a2a5bcc52c0dbf833c51a1fd577a279e908eb24bacfae01b1a604e0a04299", func := "loop.example/g00494/laws.FnJoinCancel", spec := "fnJoinCancel", inPlace := ["slices.overlaps[loop.example/g00494/impl.Party]", "slices.overlaps[loop.example/g00494/impl.Entry]"], unfollowed := true, recurses := true, apart := false, narrowed := true }
def FnJoinCancelUptoSaid : Prop := fnJoinCancelUptoRow.holds Tryz.pinned (OpenSpec.upto fnJoinCancelSpec)

/-- 'laws.FnAccepted', WHERE WHAT IT READS IS OF BULK AT MOST 1048576: true; the input reads as it did. -/
def fnAcceptedUptoRow : OpenClaim := { program := "ytehpbaiclfilaaagreat", sum := "751a2a5bcc52c0dbf833c51a1fd577a279e908eb24bacfae01b1a604e0a04299", func := "loop.example/g00494/laws.FnAccepted", spec := "fnAccepted", unfollowed := true, recurses := true, apart := false, narrowed := true }
def FnAcceptedUptoSaid : Prop := fnAcceptedUptoRow.holds Tryz.pinned (OpenSpec.upto fnAcceptedSpec)

/-- 'laws.FnExpired', WHERE WHAT IT READS IS OF BULK AT MOST 1048576: true; the input reads as it did. -/
def fnExpiredUptoRow : OpenClaim := { program := "ytehpbaiclfilaaagreat", sum := "751a2a5bcc52c0dbf833c51a1fd577a279e908eb24bacfae01b1a604e0a04299", func := "loop.example/g00494/laws.FnExpired", spec := "fnExpired", inPlace := ["slices.overlaps[loop.example/g00494/impl.Party]", "slices.overlaps[loop.example/g00494/impl.Entry]"], unfollowed := true, recurses := true, apart := false, narrowed := true }
def FnExpiredUptoSaid : Prop := fnExpiredUptoRow.holds Tryz.pinned (OpenSpec.upto fnExpiredSpec)

/-- 'laws.FnLate', WHERE WHAT IT READS IS OF BULK AT MOST 1048576: true; the input reads as it did. -/
def fnLateUptoRow : OpenClaim := { program := "ytehpbaiclfilaaagreat", sum := "751a2a5bcc52c0dbf833c51a1fd577a279e908eb24bacfae01b1a604e0a04299", func := "loop.example/g00494/laws.FnLate", spec := "fnLate", inPlace := ["slices.overlaps[loop.example/g00494/impl.Party]", "slices.overlaps[loop.example/g00494/impl.Entry]", "slices.overlaps[loop.example/g00494/impl.Pin]"], unfollowed := true, recurses := true, apart := false, narrowed := true }
def FnLateUptoSaid : Prop := fnLateUptoRow.holds Tryz.pinned (OpenSpec.upto fnLateSpec)

/-- 'laws.FnTooLate', WHERE WHAT IT READS IS OF BULK AT MOST 1048576: true; the input reads as it did. -/
def fnTooLateUptoRow : OpenClaim := { program := "ytehpbaiclfilaaagreat", sum := "751a2a5bcc52c0dbf833c51a1fd577a279e908eb24bacfae01b1a604e0a04299", func := "loop.example/g00494/laws.FnTooLate", spec := "fnTooLate", inPlace := ["slices.overlaps[loop.example/g00494/impl.Party]", "slices.overlaps[loop.example/g00494/impl.Entry]"], unfollowed := true, recurses := true, apart := false, narrowed := true }
def FnTooLateUptoSaid : Prop := fnTooLateUptoRow.holds Tryz.pinned (OpenSpec.upto fnTooLateSpec)

/-- 'laws.FnDeclined', WHERE WHAT IT READS IS OF BULK AT MOST 1048576: true; the input reads as it did. -/
def fnDeclinedUptoRow : OpenClaim := { program := "ytehpbaiclfilaaagreat", sum := "751a2a5bcc52c0dbf833c51a1fd577a279e908eb24bacfae01b1a604e0a04299", func := "loop.example/g00494/laws.FnDeclined", spec := "fnDeclined", inPlace := ["slices.overlaps[loop.example/g00494/impl.Party]", "slices.overlaps[loop.example/g00494/impl.Entry]"], unfollowed := true, recurses := true, apart := false, narrowed := true }
def FnDeclinedUptoSaid : Prop := fnDeclinedUptoRow.holds Tryz.pinned (OpenSpec.upto fnDeclinedSpec)

end Rows
end Go.Proofs.YtehpbaiclfilaaaGreat
