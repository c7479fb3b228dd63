/-
  No cell of these rows narrows 'for every input' (looked for: loops, veiled, ifaces, maps, wideKeys, modest, calm, conditions, laid).
  DERIVED. THE GIVEN ROWS OF THIS SEAT. 11 by the template 'for every input the law returns true; each argument reads behind the call as it read before'; 0 by the template 'total and deterministic' (their statements: YtmigflddbhiajaaGreatTotals.lean).
  GIVEN WITH THE SEED: the statements are not yours to turn. If you find one false, say at which input.
  Laid BY PROGRAM, IN A SANDBOX (cutbox-rows.mjs): the forced cells as the released guide's own fill.sh prints them over the translation 9c4e27849fb241df… (all of the seat's roots in one cut). By AI agents, Wed Nov 11 2026. No macro, syntax, notation, axiom, sorry.
-/
import Derived.Test.YtmigflddbhiajaaGreatChecked
import GoSem.Claim
import GoSem.ClaimJoined
import GoSem.ClaimMapViews
import Derived.JoinedTies
import Derived.KernelRfl
namespace Go.Proofs.YtmigflddbhiajaaGreat
/- THE CELL 'sum', in the pinned program and in every row, IS THE sha256 OF THE DUMP (.gsa) THAT YtmigflddbhiajaaGreatProg.lean LOADS. Nothing in Lean hashes anything: it is a label: what it is worth is what the hold of that sum in a sandbox is worth. -/
noncomputable def Tryz.pinned : Pinned := { name := "ytmigflddbhiajaagreat", sum := "9c4e27849fb241dfeb3a572fff0ba9bac9a2ae77edd2194230356e36ce59806e", checked := Tryz.checked }
namespace Rows
def none {H : Type} : Left H := { results := [], args := [] }

/-- 'laws.FnNewHouse': WHATEVER THE INPUT: true; the input reads as it did. -/
def fnNewHouseSpec : ChangeSpec := { name := "fnNewHouse", fn := fun _ => fun
  | [d] => { results := [.lit (.bool true)], args := [d] }
  | _ => none }
def fnNewHouseRow : OpenClaim := { program := "ytmigflddbhiajaagreat", sum := "9c4e27849fb241dfeb3a572fff0ba9bac9a2ae77edd2194230356e36ce59806e", func := "loop.example/g00494/laws.FnNewHouse", spec := "fnNewHouse", unfollowed := true, recurses := true, apart := false }
def FnNewHouseSaid : Prop := fnNewHouseRow.holds Tryz.pinned (OpenSpec.ofChange fnNewHouseSpec)

/-- ITS FALSE NEIGHBOUR: 'it returns false'. Refute it at one input. -/
def fnNewHouseWrong : ChangeSpec := { name := "fnNewHouse", fn := fun _ => fun
  | [d] => { results := [.lit (.bool false)], args := [d] }
  | _ => none }
def FnNewHouseWrongFalsely : Prop := fnNewHouseRow.holds Tryz.pinned (OpenSpec.ofChange fnNewHouseWrong)

/-- 'laws.FnExactHouseOk': WHATEVER THE INPUT: true; the input reads as it did. -/
def fnExactHouseOkSpec : ChangeSpec := { name := "fnExactHouseOk", fn := fun _ => fun
  | [d] => { results := [.lit (.bool true)], args := [d] }
  | _ => none }
def fnExactHouseOkRow : OpenClaim := { program := "ytmigflddbhiajaagreat", sum := "9c4e27849fb241dfeb3a572fff0ba9bac9a2ae77edd2194230356e36ce59806e", func := "loop.example/g00494/laws.FnExactHouseOk", spec := "fnExactHouseOk", unfollowed := true, recurses := true, apart := false }
def FnExactHouseOkSaid : Prop := fnExactHouseOkRow.holds Tryz.pinned (OpenSpec.ofChange fnExactHouseOkSpec)

/-- ITS FALSE NEIGHBOUR: 'it returns false'. Refute it at one input. -/
def fnExactHouseOkWrong : ChangeSpec := { name := "fnExactHouseOk", fn := fun _ => fun
  | [d] => { results := [.lit (.bool false)], args := [d] }
  | _ => none }
def FnExactHouseOkWrongFalsely : Prop := fnExactHouseOkRow.holds Tryz.pinned (OpenSpec.ofChange fnExactHouseOkWrong)

/-- 'laws.FnExactCanHold': WHATEVER THE INPUT: true; the input reads as it did. -/
def fnExactCanHoldSpec : ChangeSpec := { name := "fnExactCanHold", fn := fun _ => fun
  | [d1, d2, d3] => { results := [.lit (.bool true)], args := [d1, d2, d3] }
  | _ => none }
def fnExactCanHoldRow : OpenClaim := { program := "ytmigflddbhiajaagreat", sum := "9c4e27849fb241dfeb3a572fff0ba9bac9a2ae77edd2194230356e36ce59806e", func := "loop.example/g00494/laws.FnExactCanHold", spec := "fnExactCanHold", unfollowed := true, recurses := true, apart := false }
def FnExactCanHoldSaid : Prop := fnExactCanHoldRow.holds Tryz.pinned (OpenSpec.ofChange fnExactCanHoldSpec)

/-- ITS FALSE NEIGHBOUR: 'it returns false'. Refute it at one input. -/
def fnExactCanHoldWrong : ChangeSpec := { name := "fnExactCanHold", fn := fun _ => fun
  | [d1, d2, d3] => { results := [.lit (.bool false)], args := [d1, d2, d3] }
  | _ => none }
def FnExactCanHoldWrongFalsely : Prop := fnExactCanHoldRow.holds Tryz.pinned (OpenSpec.ofChange fnExactCanHoldWrong)

/-- 'laws.FnExactLooseIn': WHATEVER THE INPUT: true; the input reads as it did. -/
def fnExactLooseInSpec : ChangeSpec := { name := "fnExactLooseIn", fn := fun _ => fun
  | [d1, d2] => { results := [.lit (.bool true)], args := [d1, d2] }
  | _ => none }
def fnExactLooseInRow : OpenClaim := { program := "ytmigflddbhiajaagreat", sum := "9c4e27849fb241dfeb3a572fff0ba9bac9a2ae77edd2194230356e36ce59806e", func := "loop.example/g00494/laws.FnExactLooseIn", spec := "fnExactLooseIn", unfollowed := true, recurses := true, apart := false }
def FnExactLooseInSaid : Prop := fnExactLooseInRow.holds Tryz.pinned (OpenSpec.ofChange fnExactLooseInSpec)

/-- ITS FALSE NEIGHBOUR: 'it returns false'. Refute it at one input. -/
def fnExactLooseInWrong : ChangeSpec := { name := "fnExactLooseIn", fn := fun _ => fun
  | [d1, d2] => { results := [.lit (.bool false)], args := [d1, d2] }
  | _ => none }
def FnExactLooseInWrongFalsely : Prop := fnExactLooseInRow.holds Tryz.pinned (OpenSpec.ofChange fnExactLooseInWrong)

/-- 'laws.FnExactIdle': WHATEVER THE INPUT: true; the input reads as it did. -/
def fnExactIdleSpec : ChangeSpec := { name := "fnExactIdle", fn := fun _ => fun
  | [d] => { results := [.lit (.bool true)], args := [d] }
  | _ => none }
def fnExactIdleRow : OpenClaim := { program := "ytmigflddbhiajaagreat", sum := "9c4e27849fb241dfeb3a572fff0ba9bac9a2ae77edd2194230356e36ce59806e", func := "loop.example/g00494/laws.FnExactIdle", spec := "fnExactIdle", unfollowed := true, recurses := true, apart := false }
def FnExactIdleSaid : Prop := fnExactIdleRow.holds Tryz.pinned (OpenSpec.ofChange fnExactIdleSpec)

/-- ITS FALSE NEIGHBOUR: 'it returns false'. Refute it at one input. -/
def fnExactIdleWrong : ChangeSpec := { name := "fnExactIdle", fn := fun _ => fun
  | [d] => { results := [.lit (.bool false)], args := [d] }
  | _ => none }
def FnExactIdleWrongFalsely : Prop := fnExactIdleRow.holds Tryz.pinned (OpenSpec.ofChange fnExactIdleWrong)

/-- 'laws.FnExactOfferOf': WHATEVER THE INPUT: true; the input reads as it did. -/
def fnExactOfferOfSpec : ChangeSpec := { name := "fnExactOfferOf", fn := fun _ => fun
  | [d1, d2] => { results := [.lit (.bool true)], args := [d1, d2] }
  | _ => none }
def fnExactOfferOfRow : OpenClaim := { program := "ytmigflddbhiajaagreat", sum := "9c4e27849fb241dfeb3a572fff0ba9bac9a2ae77edd2194230356e36ce59806e", func := "loop.example/g00494/laws.FnExactOfferOf", spec := "fnExactOfferOf", unfollowed := true, recurses := true, apart := false }
def FnExactOfferOfSaid : Prop := fnExactOfferOfRow.holds Tryz.pinned (OpenSpec.ofChange fnExactOfferOfSpec)

/-- ITS FALSE NEIGHBOUR: 'it returns false'. Refute it at one input. -/
def fnExactOfferOfWrong : ChangeSpec := { name := "fnExactOfferOf", fn := fun _ => fun
  | [d1, d2] => { results := [.lit (.bool false)], args := [d1, d2] }
  | _ => none }
def FnExactOfferOfWrongFalsely : Prop := fnExactOfferOfRow.holds Tryz.pinned (OpenSpec.ofChange fnExactOfferOfWrong)

/-- 'laws.FnExactPlaceOf': WHATEVER THE INPUT: true; the input reads as it did. -/
def fnExactPlaceOfSpec : ChangeSpec := { name := "fnExactPlaceOf", fn := fun _ => fun
  | [d1, d2] => { results := [.lit (.bool true)], args := [d1, d2] }
  | _ => none }
def fnExactPlaceOfRow : OpenClaim := { program := "ytmigflddbhiajaagreat", sum := "9c4e27849fb241dfeb3a572fff0ba9bac9a2ae77edd2194230356e36ce59806e", func := "loop.example/g00494/laws.FnExactPlaceOf", spec := "fnExactPlaceOf", unfollowed := true, recurses := true, apart := false }
def FnExactPlaceOfSaid : Prop := fnExactPlaceOfRow.holds Tryz.pinned (OpenSpec.ofChange fnExactPlaceOfSpec)

/-- ITS FALSE NEIGHBOUR: 'it returns false'. Refute it at one input. -/
def fnExactPlaceOfWrong : ChangeSpec := { name := "fnExactPlaceOf", fn := fun _ => fun
  | [d1, d2] => { results := [.lit (.bool false)], args := [d1, d2] }
  | _ => none }
def FnExactPlaceOfWrongFalsely : Prop := fnExactPlaceOfRow.holds Tryz.pinned (OpenSpec.ofChange fnExactPlaceOfWrong)

/-- 'laws.FnExactNextOffer': WHATEVER THE INPUT: true; the input reads as it did. -/
def fnExactNextOfferSpec : ChangeSpec := { name := "fnExactNextOffer", fn := fun _ => fun
  | [d1, d2] => { results := [.lit (.bool true)], args := [d1, d2] }
  | _ => none }
def fnExactNextOfferRow : OpenClaim := { program := "ytmigflddbhiajaagreat", sum := "9c4e27849fb241dfeb3a572fff0ba9bac9a2ae77edd2194230356e36ce59806e", func := "loop.example/g00494/laws.FnExactNextOffer", spec := "fnExactNextOffer", unfollowed := true, recurses := true, apart := false }
def FnExactNextOfferSaid : Prop := fnExactNextOfferRow.holds Tryz.pinned (OpenSpec.ofChange fnExactNextOfferSpec)

/-- ITS FALSE NEIGHBOUR: 'it returns false'. Refute it at one input. -/
def fnExactNextOfferWrong : ChangeSpec := { name := "fnExactNextOffer", fn := fun _ => fun
  | [d1, d2] => { results := [.lit (.bool false)], args := [d1, d2] }
  | _ => none }
def FnExactNextOfferWrongFalsely : Prop := fnExactNextOfferRow.holds Tryz.pinned (OpenSpec.ofChange fnExactNextOfferWrong)

/-- 'laws.FnExactSameHouse': WHATEVER THE INPUT: true; the input reads as it did. -/
def fnExactSameHouseSpec : ChangeSpec := { name := "fnExactSameHouse", fn := fun _ => fun
  | [d1, d2] => { results := [.lit (.bool true)], args := [d1, d2] }
  | _ => none }
def fnExactSameHouseRow : OpenClaim := { program := "ytmigflddbhiajaagreat", sum := "9c4e27849fb241dfeb3a572fff0ba9bac9a2ae77edd2194230356e36ce59806e", func := "loop.example/g00494/laws.FnExactSameHouse", spec := "fnExactSameHouse", unfollowed := true, recurses := true, apart := false }
def FnExactSameHouseSaid : Prop := fnExactSameHouseRow.holds Tryz.pinned (OpenSpec.ofChange fnExactSameHouseSpec)

/-- ITS FALSE NEIGHBOUR: 'it returns false'. Refute it at one input. -/
def fnExactSameHouseWrong : ChangeSpec := { name := "fnExactSameHouse", fn := fun _ => fun
  | [d1, d2] => { results := [.lit (.bool false)], args := [d1, d2] }
  | _ => none }
def FnExactSameHouseWrongFalsely : Prop := fnExactSameHouseRow.holds Tryz.pinned (OpenSpec.ofChange fnExactSameHouseWrong)

/-- 'laws.FnExactAsk': WHATEVER THE INPUT: true; the input reads as it did. -/
def fnExactAskSpec : ChangeSpec := { name := "fnExactAsk", fn := fun _ => fun
  | [d1, d2] => { results := [.lit (.bool true)], args := [d1, d2] }
  | _ => none }
def fnExactAskRow : OpenClaim := { program := "ytmigflddbhiajaagreat", sum := "9c4e27849fb241dfeb3a572fff0ba9bac9a2ae77edd2194230356e36ce59806e", func := "loop.example/g00494/laws.FnExactAsk", spec := "fnExactAsk", unfollowed := true, recurses := true, apart := false }
def FnExactAskSaid : Prop := fnExactAskRow.holds Tryz.pinned (OpenSpec.ofChange fnExactAskSpec)

/-- ITS FALSE NEIGHBOUR: 'it returns false'. Refute it at one input. -/
def fnExactAskWrong : ChangeSpec := { name := "fnExactAsk", fn := fun _ => fun
  | [d1, d2] => { results := [.lit (.bool false)], args := [d1, d2] }
  | _ => none }
def FnExactAskWrongFalsely : Prop := fnExactAskRow.holds Tryz.pinned (OpenSpec.ofChange fnExactAskWrong)

/-- 'laws.FnExactLate': WHATEVER THE INPUT: true; the input reads as it did. -/
def fnExactLateSpec : ChangeSpec := { name := "fnExactLate", fn := fun _ => fun
  | [d] => { results := [.lit (.bool true)], args := [d] }
  | _ => none }
def fnExactLateRow : OpenClaim := { program := "ytmigflddbhiajaagreat", sum := "9c4e27849fb241dfeb3a572fff0ba9bac9a2ae77edd2194230356e36ce59806e", func := "loop.example/g00494/laws.FnExactLate", spec := "fnExactLate", unfollowed := true, recurses := true, apart := false }
def FnExactLateSaid : Prop := fnExactLateRow.holds Tryz.pinned (OpenSpec.ofChange fnExactLateSpec)

/-- ITS FALSE NEIGHBOUR: 'it returns false'. Refute it at one input. -/
def fnExactLateWrong : ChangeSpec := { name := "fnExactLate", fn := fun _ => fun
  | [d] => { results := [.lit (.bool false)], args := [d] }
  | _ => none }
def FnExactLateWrongFalsely : Prop := fnExactLateRow.holds Tryz.pinned (OpenSpec.ofChange fnExactLateWrong)

/- THE SECOND FORM. 'bulk': how many values and letters a reading holds, each counted each time it is reached (what is shared counts as often as it is met; a slice's spare places count too). A statement '..UptoSaid' is the law's where the arguments, and the package variables that the reading takes, are together of bulk at most 1048576: NARROWER than '..Said'. Prove '..Said' where nothing that the law and all that it calls make is longer than what came in: it says more and counts as full. Else prove '..UptoSaid'. A law counts once. -/
mutual
def uptoBulk {H : Type} : DataW H → Nat
  | .lit (.string bytes) => bytes.length + 1
  | .lit _ => 1
  | .nil => 1
  | .ptr d => uptoBulk d + 1
  | .slice elems spare => uptoBulkAll elems + uptoBulkAll spare + 1
  | .agg parts => uptoBulkAll parts + 1
  | .iface _ d => uptoBulk d + 1
  | .map entries => uptoBulkEntries entries + 1
  | .held _ => 1
def uptoBulkAll {H : Type} : List (DataW H) → Nat
  | [] => 0
  | d :: r => uptoBulk d + uptoBulkAll r
def uptoBulkEntries {H : Type} : List (Lit × DataW H) → Nat
  | [] => 0
  | x :: r => uptoBulkEntry x + uptoBulkEntries r
def uptoBulkEntry {H : Type} : Lit × DataW H → Nat
  | (.string bytes, d) => bytes.length + uptoBulk d + 1
  | (_, d) => uptoBulk d + 1
 end
def uptoSmall : (H : Type) → List (DataW H) → Bool := fun _ ds => decide (uptoBulkAll ds ≤ 1048576)
def OpenSpec.upto (s : _root_.Go.ChangeSpec) : _root_.Go.OpenSpec := { _root_.Go.OpenSpec.ofChange s with cond := some uptoSmall }

/-- 'laws.FnNewHouse', WHERE WHAT IT READS IS OF BULK AT MOST 1048576: true; the input reads as it did. -/
def fnNewHouseUptoRow : OpenClaim := { program := "ytmigflddbhiajaagreat", sum := "9c4e27849fb241dfeb3a572fff0ba9bac9a2ae77edd2194230356e36ce59806e", func := "loop.example/g00494/laws.FnNewHouse", spec := "fnNewHouse", unfollowed := true, recurses := true, apart := false, narrowed := true }
def FnNewHouseUptoSaid : Prop := fnNewHouseUptoRow.holds Tryz.pinned (OpenSpec.upto fnNewHouseSpec)

/-- 'laws.FnExactHouseOk', WHERE WHAT IT READS IS OF BULK AT MOST 1048576: true; the input reads as it did. -/
def fnExactHouseOkUptoRow : OpenClaim := { program := "ytmigflddbhiajaagreat", sum := "9c4e27849fb241dfeb3a572fff0ba9bac9a2ae77edd2194230356e36ce59806e", func := "loop.example/g00494/laws.FnExactHouseOk", spec := "fnExactHouseOk", unfollowed := true, recurses := true, apart := false, narrowed := true }
def FnExactHouseOkUptoSaid : Prop := fnExactHouseOkUptoRow.holds Tryz.pinned (OpenSpec.upto fnExactHouseOkSpec)

/-- 'laws.FnExactCanHold', WHERE WHAT IT READS IS OF BULK AT MOST 1048576: true; the input reads as it did. -/
def fnExactCanHoldUptoRow : OpenClaim := { program := "ytmigflddbhiajaagreat", sum := "9c4e27849fb241dfeb3a572fff0ba9bac9a2ae77edd2194230356e36ce59806e", func := "loop.example/g00494/laws.FnExactCanHold", spec := "fnExactCanHold", unfollowed := true, recurses := true, apart := false, narrowed := true }
def FnExactCanHoldUptoSaid : Prop := fnExactCanHoldUptoRow.holds Tryz.pinned (OpenSpec.upto fnExactCanHoldSpec)

/-- 'laws.FnExactLooseIn', WHERE WHAT IT READS IS OF BULK AT MOST 1048576: true; the input reads as it did. -/
def fnExactLooseInUptoRow : OpenClaim := { program := "ytmigflddbhiajaagreat", sum := "9c4e27849fb241dfeb3a572fff0ba9bac9a2ae77edd2194230356e36ce59806e", func := "loop.example/g00494/laws.FnExactLooseIn", spec := "fnExactLooseIn", unfollowed := true, recurses := true, apart := false, narrowed := true }
def FnExactLooseInUptoSaid : Prop := fnExactLooseInUptoRow.holds Tryz.pinned (OpenSpec.upto fnExactLooseInSpec)

/-- 'laws.FnExactIdle', WHERE WHAT IT READS IS OF BULK AT MOST 1048576: true; the input reads as it did. -/
def fnExactIdleUptoRow : OpenClaim := { program := "ytmigflddbhiajaagreat", sum := "9c4e27849fb241dfeb3a572fff0ba9bac9a2ae77edd2194230356e36ce59806e", func := "loop.example/g00494/laws.FnExactIdle", spec := "fnExactIdle", unfollowed := true, recurses := true, apart := false, narrowed := true }
def FnExactIdleUptoSaid : Prop := fnExactIdleUptoRow.holds Tryz.pinned (OpenSpec.upto fnExactIdleSpec)

/-- 'laws.FnExactOfferOf', WHERE WHAT IT READS IS OF BULK AT MOST 1048576: true; the input reads as it did. -/
def fnExactOfferOfUptoRow : OpenClaim := { program := "ytmigflddbhiajaagreat", sum := "9c4e27849fb241dfeb3a572fff0ba9bac9a2ae77edd2194230356e36ce59806e", func := "loop.example/g00494/laws.FnExactOfferOf", spec := "fnExactOfferOf", unfollowed := true, recurses := true, apart := false, narrowed := true }
def FnExactOfferOfUptoSaid : Prop := fnExactOfferOfUptoRow.holds Tryz.pinned (OpenSpec.upto fnExactOfferOfSpec)

/-- 'laws.FnExactPlaceOf', WHERE WHAT IT READS IS OF BULK AT MOST 1048576: true; the input reads as it did. -/
def fnExactPlaceOfUptoRow : OpenClaim := { program := "ytmigflddbhiajaagreat", sum := "9c4e27849fb241dfeb3a572fff0ba9bac9a2ae77edd2194230356e36ce59806e", func := "loop.example/g00494/laws.FnExactPlaceOf", spec := "fnExactPlaceOf", unfollowed := true, recurses := true, apart := false, narrowed := true }
def FnExactPlaceOfUptoSaid : Prop := fnExactPlaceOfUptoRow.holds Tryz.pinned (OpenSpec.upto fnExactPlaceOfSpec)

/-- 'laws.FnExactNextOffer', WHERE WHAT IT READS IS OF BULK AT MOST 1048576: true; the input reads as it did. -/
def fnExactNextOfferUptoRow : OpenClaim := { program := "ytmigflddbhiajaagreat", sum := "9c4e27849fb241dfeb3a572fff0ba9bac9a2ae77edd2194230356e36ce59806e", func := "loop.example/g00494/laws.FnExactNextOffer", spec := "fnExactNextOffer", unfollowed := true, recurses := true, apart := false, narrowed := true }
def FnExactNextOfferUptoSaid : Prop := fnExactNextOfferUptoRow.holds Tryz.pinned (OpenSpec.upto fnExactNextOfferSpec)

/-- 'laws.FnExactSameHouse', WHERE WHAT IT READS IS OF BULK AT MOST 1048576: true; the input reads as it did. -/
def fnExactSameHouseUptoRow : OpenClaim := { program := "ytmigflddbhiajaagreat", sum := "9c4e27849fb241dfeb3a572fff0ba9bac9a2ae77edd2194230356e36ce59806e", func := "loop.example/g00494/laws.FnExactSameHouse", spec := "fnExactSameHouse", unfollowed := true, recurses := true, apart := false, narrowed := true }
def FnExactSameHouseUptoSaid : Prop := fnExactSameHouseUptoRow.holds Tryz.pinned (OpenSpec.upto fnExactSameHouseSpec)

/-- 'laws.FnExactAsk', WHERE WHAT IT READS IS OF BULK AT MOST 1048576: true; the input reads as it did. -/
def fnExactAskUptoRow : OpenClaim := { program := "ytmigflddbhiajaagreat", sum := "9c4e27849fb241dfeb3a572fff0ba9bac9a2ae77edd2194230356e36ce59806e", func := "loop.example/g00494/laws.FnExactAsk", spec := "fnExactAsk", unfollowed := true, recurses := true, apart := false, narrowed := true }
def FnExactAskUptoSaid : Prop := fnExactAskUptoRow.holds Tryz.pinned (OpenSpec.upto fnExactAskSpec)

/-- 'laws.FnExactLate', WHERE WHAT IT READS IS OF BULK AT MOST 1048576: true; the input reads as it did. -/
def fnExactLateUptoRow : OpenClaim := { program := "ytmigflddbhiajaagreat", sum := "9c4e27849fb241dfeb3a572fff0ba9bac9a2ae77edd2194230356e36ce59806e", func := "loop.example/g00494/laws.FnExactLate", spec := "fnExactLate", unfollowed := true, recurses := true, apart := false, narrowed := true }
def FnExactLateUptoSaid : Prop := fnExactLateUptoRow.holds Tryz.pinned (OpenSpec.upto fnExactLateSpec)

end Rows
end Go.Proofs.YtmigflddbhiajaaGreat
