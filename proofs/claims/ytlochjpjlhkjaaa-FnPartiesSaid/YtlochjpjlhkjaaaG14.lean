/- Parts of a proof. No conditions. -/

import Derived.Test.YtlochjpjlhkjaaaG13
set_option linter.unusedSimpArgs false
set_option linter.unusedVariables false
namespace Go.Proofs.Ytlochjpjlhkjaaa
open Go
set_option maxRecDepth 100000
structure CabG (h : House) (k : Nat) (c : Cabin) : Prop where
  total : c.seats.total = h.rules.seats.getD k 0
  led : ledOkB c.seats = true
  q : queueOkB c.row = true
  w : wheelOkB c.spoke = true
  few : ((zAll (cntIn (k : Int)) h.parties : Nat) : Int) ≤ h.rules.room
  row : c.row = queueOf h.rules h.parties (k : Int) h.now
  pins : wheelPins c.spoke = pinsIn h.parties (k : Int)
  held : c.seats.held = ((zAll (heldZ (k : Int)) h.parties : Nat) : Int)
  tied : c.seats.tied = ((zAll (tiedZ (k : Int)) h.parties : Nat) : Int)
theorem HG.at_ {h : House} (hg : HG h) {k : Nat} (hk : k < h.cabins.length) : CabG h k h.cabins[k] := by
  have hc := hg.cab k _ (List.getElem?_eq_getElem hk)
  simp only [cabAtB, agreesB, cabinOkB, Bool.and_eq_true, decide_eq_true_eq, beq_iff_eq] at hc
  obtain ⟨a, b, ⟨c, d, e⟩, f, g, i, j⟩ := hc
  exact ⟨a, c, d, e, b, f, g, i, j⟩
end Go.Proofs.Ytlochjpjlhkjaaa
namespace Go.Proofs.Ytlochjpjlhkjaaa
open Go
set_option maxRecDepth 100000
end Go.Proofs.Ytlochjpjlhkjaaa

