/-
  No cell of these rows narrows 'for every input' (looked for: loops, veiled, ifaces, maps, wideKeys, modest, calm, conditions, laid).
  DERIVED. THE GIVEN ROWS OF THIS SEAT. 8 by the template 'for every input the law returns true; each argument reads behind the call as it read before'; 0 by the template 'total and deterministic' (their statements: YtpklefhdkkegiaaGreatTotals.lean).
  GIVEN WITH THE SEED: the statements are not yours to turn. If you find one false, say at which input.
  Laid BY PROGRAM, IN A SANDBOX (cutbox-rows.mjs): the forced cells as the released guide's own fill.sh prints them over the translation 25c47638728a1a31… (all of the seat's roots in one cut). By AI agents, Wed Nov 11 2026. No macro, syntax, notation, axiom, sorry.
-/
import Derived.Test.YtpklefhdkkegiaaGreatChecked
import GoSem.Claim
import GoSem.ClaimJoined
import GoSem.ClaimMapViews
import Derived.JoinedTies
import Derived.KernelRfl
namespace Go.Proofs.YtpklefhdkkegiaaGreat
/- THE CELL 'sum', in the pinned program and in every row, IS THE sha256 OF THE DUMP (.gsa) THAT YtpklefhdkkegiaaGreatProg.lean LOADS. Nothing in Lean hashes anything: it is a label: what it is worth is what the hold of that sum in a sandbox is worth. -/
noncomputable def Tryz.pinned : Pinned := { name := "ytpklefhdkkegiaagreat", sum := "25c47638728a1a31ea57e692c0acf7b7307ef752ce8308dd40ae5676d1720102", checked := Tryz.checked }
namespace Rows
def none {H : Type} : Left H := { results := [], args := [] }

/-- 'laws.FnNewHouse': WHATEVER THE INPUT: true; the input reads as it did. -/
def fnNewHouseSpec : ChangeSpec := { name := "fnNewHouse", fn := fun _ => fun
  | [d] => { results := [.lit (.bool true)], args := [d] }
  | _ => none }
def fnNewHouseRow : OpenClaim := { program := "ytpklefhdkkegiaagreat", sum := "25c47638728a1a31ea57e692c0acf7b7307ef752ce8308dd40ae5676d1720102", func := "loop.example/g00494/laws.FnNewHouse", spec := "fnNewHouse", unfollowed := true, recurses := true, apart := false }
def FnNewHouseSaid : Prop := fnNewHouseRow.holds Tryz.pinned (OpenSpec.ofChange fnNewHouseSpec)

/-- ITS FALSE NEIGHBOUR: 'it returns false'. Refute it at one input. -/
def fnNewHouseWrong : ChangeSpec := { name := "fnNewHouse", fn := fun _ => fun
  | [d] => { results := [.lit (.bool false)], args := [d] }
  | _ => none }
def FnNewHouseWrongFalsely : Prop := fnNewHouseRow.holds Tryz.pinned (OpenSpec.ofChange fnNewHouseWrong)

/-- 'laws.FnScanned': WHATEVER THE INPUT: true; the input reads as it did. -/
def fnScannedSpec : ChangeSpec := { name := "fnScanned", fn := fun _ => fun
  | [d] => { results := [.lit (.bool true)], args := [d] }
  | _ => none }
def fnScannedRow : OpenClaim := { program := "ytpklefhdkkegiaagreat", sum := "25c47638728a1a31ea57e692c0acf7b7307ef752ce8308dd40ae5676d1720102", func := "loop.example/g00494/laws.FnScanned", spec := "fnScanned", inPlace := ["slices.overlaps[loop.example/g00494/impl.Party]", "slices.overlaps[loop.example/g00494/impl.Entry]", "slices.overlaps[loop.example/g00494/impl.Pin]"], unfollowed := true, recurses := true, apart := false }
def FnScannedSaid : Prop := fnScannedRow.holds Tryz.pinned (OpenSpec.ofChange fnScannedSpec)

/-- ITS FALSE NEIGHBOUR: 'it returns false'. Refute it at one input. -/
def fnScannedWrong : ChangeSpec := { name := "fnScanned", fn := fun _ => fun
  | [d] => { results := [.lit (.bool false)], args := [d] }
  | _ => none }
def FnScannedWrongFalsely : Prop := fnScannedRow.holds Tryz.pinned (OpenSpec.ofChange fnScannedWrong)

/-- 'laws.FnScanOffers': WHATEVER THE INPUT: true; the input reads as it did. -/
def fnScanOffersSpec : ChangeSpec := { name := "fnScanOffers", fn := fun _ => fun
  | [d] => { results := [.lit (.bool true)], args := [d] }
  | _ => none }
def fnScanOffersRow : OpenClaim := { program := "ytpklefhdkkegiaagreat", sum := "25c47638728a1a31ea57e692c0acf7b7307ef752ce8308dd40ae5676d1720102", func := "loop.example/g00494/laws.FnScanOffers", spec := "fnScanOffers", inPlace := ["slices.overlaps[loop.example/g00494/impl.Party]", "slices.overlaps[loop.example/g00494/impl.Entry]", "slices.overlaps[loop.example/g00494/impl.Pin]"], unfollowed := true, recurses := true, apart := false }
def FnScanOffersSaid : Prop := fnScanOffersRow.holds Tryz.pinned (OpenSpec.ofChange fnScanOffersSpec)

/-- ITS FALSE NEIGHBOUR: 'it returns false'. Refute it at one input. -/
def fnScanOffersWrong : ChangeSpec := { name := "fnScanOffers", fn := fun _ => fun
  | [d] => { results := [.lit (.bool false)], args := [d] }
  | _ => none }
def FnScanOffersWrongFalsely : Prop := fnScanOffersRow.holds Tryz.pinned (OpenSpec.ofChange fnScanOffersWrong)

/-- 'laws.FnResolved': WHATEVER THE INPUT: true; the input reads as it did. -/
def fnResolvedSpec : ChangeSpec := { name := "fnResolved", fn := fun _ => fun
  | [d] => { results := [.lit (.bool true)], args := [d] }
  | _ => none }
def fnResolvedRow : OpenClaim := { program := "ytpklefhdkkegiaagreat", sum := "25c47638728a1a31ea57e692c0acf7b7307ef752ce8308dd40ae5676d1720102", func := "loop.example/g00494/laws.FnResolved", spec := "fnResolved", inPlace := ["slices.overlaps[loop.example/g00494/impl.Party]", "slices.overlaps[loop.example/g00494/impl.Entry]", "slices.overlaps[loop.example/g00494/impl.Pin]"], unfollowed := true, recurses := true, apart := false }
def FnResolvedSaid : Prop := fnResolvedRow.holds Tryz.pinned (OpenSpec.ofChange fnResolvedSpec)

/-- ITS FALSE NEIGHBOUR: 'it returns false'. Refute it at one input. -/
def fnResolvedWrong : ChangeSpec := { name := "fnResolved", fn := fun _ => fun
  | [d] => { results := [.lit (.bool false)], args := [d] }
  | _ => none }
def FnResolvedWrongFalsely : Prop := fnResolvedRow.holds Tryz.pinned (OpenSpec.ofChange fnResolvedWrong)

/-- 'laws.FnPicks': WHATEVER THE INPUT: true; the input reads as it did. -/
def fnPicksSpec : ChangeSpec := { name := "fnPicks", fn := fun _ => fun
  | [d] => { results := [.lit (.bool true)], args := [d] }
  | _ => none }
def fnPicksRow : OpenClaim := { program := "ytpklefhdkkegiaagreat", sum := "25c47638728a1a31ea57e692c0acf7b7307ef752ce8308dd40ae5676d1720102", func := "loop.example/g00494/laws.FnPicks", spec := "fnPicks", inPlace := ["slices.overlaps[loop.example/g00494/impl.Party]", "slices.overlaps[loop.example/g00494/impl.Entry]", "slices.overlaps[loop.example/g00494/impl.Pin]"], unfollowed := true, recurses := true, apart := false }
def FnPicksSaid : Prop := fnPicksRow.holds Tryz.pinned (OpenSpec.ofChange fnPicksSpec)

/-- ITS FALSE NEIGHBOUR: 'it returns false'. Refute it at one input. -/
def fnPicksWrong : ChangeSpec := { name := "fnPicks", fn := fun _ => fun
  | [d] => { results := [.lit (.bool false)], args := [d] }
  | _ => none }
def FnPicksWrongFalsely : Prop := fnPicksRow.holds Tryz.pinned (OpenSpec.ofChange fnPicksWrong)

/-- 'laws.FnRefused': WHATEVER THE INPUT: true; the input reads as it did. -/
def fnRefusedSpec : ChangeSpec := { name := "fnRefused", fn := fun _ => fun
  | [d] => { results := [.lit (.bool true)], args := [d] }
  | _ => none }
def fnRefusedRow : OpenClaim := { program := "ytpklefhdkkegiaagreat", sum := "25c47638728a1a31ea57e692c0acf7b7307ef752ce8308dd40ae5676d1720102", func := "loop.example/g00494/laws.FnRefused", spec := "fnRefused", inPlace := ["slices.overlaps[loop.example/g00494/impl.Party]", "slices.overlaps[loop.example/g00494/impl.Entry]", "slices.overlaps[loop.example/g00494/impl.Pin]"], unfollowed := true, recurses := true, apart := false }
def FnRefusedSaid : Prop := fnRefusedRow.holds Tryz.pinned (OpenSpec.ofChange fnRefusedSpec)

/-- ITS FALSE NEIGHBOUR: 'it returns false'. Refute it at one input. -/
def fnRefusedWrong : ChangeSpec := { name := "fnRefused", fn := fun _ => fun
  | [d] => { results := [.lit (.bool false)], args := [d] }
  | _ => none }
def FnRefusedWrongFalsely : Prop := fnRefusedRow.holds Tryz.pinned (OpenSpec.ofChange fnRefusedWrong)

/-- 'laws.FnDoAll': WHATEVER THE INPUT: true; the input reads as it did. -/
def fnDoAllSpec : ChangeSpec := { name := "fnDoAll", fn := fun _ => fun
  | [d] => { results := [.lit (.bool true)], args := [d] }
  | _ => none }
def fnDoAllRow : OpenClaim := { program := "ytpklefhdkkegiaagreat", sum := "25c47638728a1a31ea57e692c0acf7b7307ef752ce8308dd40ae5676d1720102", func := "loop.example/g00494/laws.FnDoAll", spec := "fnDoAll", inPlace := ["slices.overlaps[loop.example/g00494/impl.Party]", "slices.overlaps[loop.example/g00494/impl.Entry]", "slices.overlaps[loop.example/g00494/impl.Pin]"], unfollowed := true, recurses := true, apart := false }
def FnDoAllSaid : Prop := fnDoAllRow.holds Tryz.pinned (OpenSpec.ofChange fnDoAllSpec)

/-- ITS FALSE NEIGHBOUR: 'it returns false'. Refute it at one input. -/
def fnDoAllWrong : ChangeSpec := { name := "fnDoAll", fn := fun _ => fun
  | [d] => { results := [.lit (.bool false)], args := [d] }
  | _ => none }
def FnDoAllWrongFalsely : Prop := fnDoAllRow.holds Tryz.pinned (OpenSpec.ofChange fnDoAllWrong)

/-- 'laws.FnPure': WHATEVER THE INPUT: true; the input reads as it did. -/
def fnPureSpec : ChangeSpec := { name := "fnPure", fn := fun _ => fun
  | [d] => { results := [.lit (.bool true)], args := [d] }
  | _ => none }
def fnPureRow : OpenClaim := { program := "ytpklefhdkkegiaagreat", sum := "25c47638728a1a31ea57e692c0acf7b7307ef752ce8308dd40ae5676d1720102", func := "loop.example/g00494/laws.FnPure", spec := "fnPure", inPlace := ["slices.overlaps[loop.example/g00494/impl.Party]", "slices.overlaps[loop.example/g00494/impl.Entry]", "slices.overlaps[loop.example/g00494/impl.Pin]"], unfollowed := true, recurses := true, apart := false }
def FnPureSaid : Prop := fnPureRow.holds Tryz.pinned (OpenSpec.ofChange fnPureSpec)

/-- ITS FALSE NEIGHBOUR: 'it returns false'. Refute it at one input. -/
def fnPureWrong : ChangeSpec := { name := "fnPure", fn := fun _ => fun
  | [d] => { results := [.lit (.bool false)], args := [d] }
  | _ => none }
def FnPureWrongFalsely : Prop := fnPureRow.holds Tryz.pinned (OpenSpec.ofChange fnPureWrong)

/- THE SECOND FORM. 'bulk': how many values and letters a reading holds, each counted each time it is reached (what is shared counts as often as it is met; a slice's spare places count too). A statement '..UptoSaid' is the law's where the arguments, and the package variables that the reading takes, are together of bulk at most 1048576: NARROWER than '..Said'. Prove '..Said' where nothing that the law and all that it calls make is longer than what came in: it says more and counts as full. Else prove '..UptoSaid'. A law counts once. -/
mutual
def uptoBulk {H : Type} : DataW H → Nat
  | .lit (.string bytes) => bytes.length + 1
  | .lit _ => 1
  | .nil => 1
  | .ptr d => uptoBulk d + 1
  | .slice elems spare => uptoBulkAll elems + uptoBulkAll spare + 1
  | .agg parts => uptoBulkAll parts + 1
  | .iface _ d => uptoBulk d + 1
  | .map entries => uptoBulkEntries entries + 1
  | .held _ => 1
def uptoBulkAll {H : Type} : List (DataW H) → Nat
  | [] => 0
  | d :: r => uptoBulk d + uptoBulkAll r
def uptoBulkEntries {H : Type} : List (Lit × DataW H) → Nat
  | [] => 0
  | x :: r => uptoBulkEntry x + uptoBulkEntries r
def uptoBulkEntry {H : Type} : Lit × DataW H → Nat
  | (.string bytes, d) => bytes.length + uptoBulk d + 1
  | (_, d) => uptoBulk d + 1
 end
def uptoSmall : (H : Type) → List (DataW H) → Bool := fun _ ds => decide (uptoBulkAll ds ≤ 1048576)
def OpenSpec.upto (s : _root_.Go.ChangeSpec) : _root_.Go.OpenSpec := { _root_.Go.OpenSpec.ofChange s with cond := some uptoSmall }

/-- 'laws.FnNewHouse', WHERE WHAT IT READS IS OF BULK AT MOST 1048576: true; the input reads as it did. -/
def fnNewHouseUptoRow : OpenClaim := { program := "ytpklefhdkkegiaagreat", sum := "25c47638728a1a31ea57e692c0acf7b7307ef752ce8308dd40ae5676d1720102", func := "loop.example/g00494/laws.FnNewHouse", spec := "fnNewHouse", unfollowed := true, recurses := true, apart := false, narrowed := true }
def FnNewHouseUptoSaid : Prop := fnNewHouseUptoRow.holds Tryz.pinned (OpenSpec.upto fnNewHouseSpec)

/-- 'laws.FnScanned', WHERE WHAT IT READS IS OF BULK AT MOST 1048576: true; the input reads as it did. -/
def fnScannedUptoRow : OpenClaim := { program := "ytpklefhdkkegiaagreat", sum := "25c47638728a1a31ea57e692c0acf7b7307ef752ce8308dd40ae5676d1720102", func := "loop.example/g00494/laws.FnScanned", spec := "fnScanned", inPlace := ["slices.overlaps[loop.example/g00494/impl.Party]", "slices.overlaps[loop.example/g00494/impl.Entry]", "slices.overlaps[loop.example/g00494/impl.Pin]"], unfollowed := true, recurses := true, apart := false, narrowed := true }
def FnScannedUptoSaid : Prop := fnScannedUptoRow.holds Tryz.pinned (OpenSpec.upto fnScannedSpec)

/-- 'laws.FnScanOffers', WHERE WHAT IT READS IS OF BULK AT MOST 1048576: true; the input reads as it did. -/
def fnScanOffersUptoRow : OpenClaim := { program := "ytpklefhdkkegiaagreat", sum := "25c47638728a1a31ea57e692c0acf7b7307ef752ce8308dd40ae5676d1720102", func := "loop.example/g00494/laws.FnScanOffers", spec := "fnScanOffers", inPlace := ["slices.overlaps[loop.example/g00494/impl.Party]", "slices.overlaps[loop.example/g00494/impl.Entry]", "slices.overlaps[loop.example/g00494/impl.Pin]"], unfollowed := true, recurses := true, apart := false, narrowed := true }
def FnScanOffersUptoSaid : Prop := fnScanOffersUptoRow.holds Tryz.pinned (OpenSpec.upto fnScanOffersSpec)

/-- 'laws.FnResolved', WHERE WHAT IT READS IS OF BULK AT MOST 1048576: true; the input reads as it did. -/
def fnResolvedUptoRow : OpenClaim := { program := "ytpklefhdkkegiaagreat", sum := "25c47638728a1a31ea57e692c0acf7b7307ef752ce8308dd40ae5676d1720102", func := "loop.example/g00494/laws.FnResolved", spec := "fnResolved", inPlace := ["slices.overlaps[loop.example/g00494/impl.Party]", "slices.overlaps[loop.example/g00494/impl.Entry]", "slices.overlaps[loop.example/g00494/impl.Pin]"], unfollowed := true, recurses := true, apart := false, narrowed := true }
def FnResolvedUptoSaid : Prop := fnResolvedUptoRow.holds Tryz.pinned (OpenSpec.upto fnResolvedSpec)

/-- 'laws.FnPicks', WHERE WHAT IT READS IS OF BULK AT MOST 1048576: true; the input reads as it did. -/
def fnPicksUptoRow : OpenClaim := { program := "ytpklefhdkkegiaagreat", sum := "25c47638728a1a31ea57e692c0acf7b7307ef752ce8308dd40ae5676d1720102", func := "loop.example/g00494/laws.FnPicks", spec := "fnPicks", inPlace := ["slices.overlaps[loop.example/g00494/impl.Party]", "slices.overlaps[loop.example/g00494/impl.Entry]", "slices.overlaps[loop.example/g00494/impl.Pin]"], unfollowed := true, recurses := true, apart := false, narrowed := true }
def FnPicksUptoSaid : Prop := fnPicksUptoRow.holds Tryz.pinned (OpenSpec.upto fnPicksSpec)

/-- 'laws.FnRefused', WHERE WHAT IT READS IS OF BULK AT MOST 1048576: true; the input reads as it did. -/
def fnRefusedUptoRow : OpenClaim := { program := "ytpklefhdkkegiaagreat", sum := "25c47638728a1a31ea57e692c0acf7b7307ef752ce8308dd40ae5676d1720102", func := "loop.example/g00494/laws.FnRefused", spec := "fnRefused", inPlace := ["slices.overlaps[loop.example/g00494/impl.Party]", "slices.overlaps[loop.example/g00494/impl.Entry]", "slices.overlaps[loop.example/g00494/impl.Pin]"], unfollowed := true, recurses := true, apart := false, narrowed := true }
def FnRefusedUptoSaid : Prop := fnRefusedUptoRow.holds Tryz.pinned (OpenSpec.upto fnRefusedSpec)

/-- 'laws.FnDoAll', WHERE WHAT IT READS IS OF BULK AT MOST 1048576: true; the input reads as it did. -/
def fnDoAllUptoRow : OpenClaim := { program := "ytpklefhdkkegiaagreat", sum := "25c47638728a1a31ea57e692c0acf7b7307ef752ce8308dd40ae5676d1720102", func := "loop.example/g00494/laws.FnDoAll", spec := "fnDoAll", inPlace := ["slices.overlaps[loop.example/g00494/impl.Party]", "slices.overlaps[loop.example/g00494/impl.Entry]", "slices.overlaps[loop.example/g00494/impl.Pin]"], unfollowed := true, recurses := true, apart := false, narrowed := true }
def FnDoAllUptoSaid : Prop := fnDoAllUptoRow.holds Tryz.pinned (OpenSpec.upto fnDoAllSpec)

/-- 'laws.FnPure', WHERE WHAT IT READS IS OF BULK AT MOST 1048576: true; the input reads as it did. -/
def fnPureUptoRow : OpenClaim := { program := "ytpklefhdkkegiaagreat", sum := "25c47638728a1a31ea57e692c0acf7b7307ef752ce8308dd40ae5676d1720102", func := "loop.example/g00494/laws.FnPure", spec := "fnPure", inPlace := ["slices.overlaps[loop.example/g00494/impl.Party]", "slices.overlaps[loop.example/g00494/impl.Entry]", "slices.overlaps[loop.example/g00494/impl.Pin]"], unfollowed := true, recurses := true, apart := false, narrowed := true }
def FnPureUptoSaid : Prop := fnPureUptoRow.holds Tryz.pinned (OpenSpec.upto fnPureSpec)

end Rows
end Go.Proofs.YtpklefhdkkegiaaGreat
