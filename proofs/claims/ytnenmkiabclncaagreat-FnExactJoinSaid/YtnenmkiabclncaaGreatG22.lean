/- Parts of a proof. No conditions. -/

import Derived.Test.YtnenmkiabclncaaGreatG16
import Derived.Test.YtnenmkiabclncaaGreatG20
import Derived.Test.YtnenmkiabclncaaGreatG19
import Derived.Test.YtnenmkiabclncaaGreatG07
import Derived.Test.YtnenmkiabclncaaGreatG21
set_option linter.unusedSimpArgs false
set_option linter.unusedVariables false
namespace Go.Proofs.YtnenmkiabclncaaGreat
open Go
set_option maxRecDepth 100000
theorem vd_zero {h : House} {q : Req} (hv : verdictOf h q = 0) : houseOkB h = true ∧ isIn q.kind 1 7 = true ∧ reqOk q = true := by
  cases h0 : houseOkB h with
  | false => rw [vd_bad h0] at hv; cases hv
  | true =>
    cases h1 : isIn q.kind 1 7 with
    | false => rw [vd_kind h0 h1] at hv; cases hv
    | true =>
      cases h2 : reqOk q with
      | false => rw [vd_form h0 h1 h2] at hv; cases hv
      | true => exact ⟨rfl, rfl, rfl⟩
def seatsIn (h : House) (k : Int) (n df dh ds dt : Int) : List Cabin := h.cabins.set k.toNat { cabOf h k with seats := seatsOf (cabOf h k).seats n df dh ds dt }
def freeTo (h : House) (k n : Int) : House := { h with cabins := seatsIn h k n 1 0 (-1) 0, todo := todoPut h.todo k }
end Go.Proofs.YtnenmkiabclncaaGreat
namespace Go.Proofs.YtnenmkiabclncaaGreat
open Go
set_option maxRecDepth 100000
theorem todoPut_len (l : List Int) (k : Int) : (todoPut l k).length ≤ l.length + 1 := by
  unfold todoPut; split
  · omega
  · simp
end Go.Proofs.YtnenmkiabclncaaGreat

