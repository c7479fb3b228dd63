/- Parts of a proof. No conditions. -/

import Derived.Test.YtehpbaiclfilaaaGreatG16
import Derived.Test.YtehpbaiclfilaaaGreatG20
import Derived.Test.YtehpbaiclfilaaaGreatG19
import Derived.Test.YtehpbaiclfilaaaGreatG07
import Derived.Test.YtehpbaiclfilaaaGreatG21
set_option linter.unusedSimpArgs false
set_option linter.unusedVariables false
namespace Go.Proofs.YtehpbaiclfilaaaGreat
open Go
set_option maxRecDepth 100000
theorem tZ {h : ai} {q : dL} (hv : bM h q = 0) : aW h = true ∧ aj q.kind 1 7 = true ∧ dN q = true := by
 cases h0 : aW h with
 | false => rw [Au h0] at hv; cases hv
 | true =>
   cases h1 : aj q.kind 1 7 with
   | false => rw [Av h0 h1] at hv; cases hv
   | true =>
     cases h2 : dN q with
     | false => rw [Aw h0 h1 h2] at hv; cases hv
     | true => exact ⟨rfl, rfl, rfl⟩
def AM (h : ai) (k : Int) (n df dh ds dt : Int) : List a_ := h.cabins.set k.toNat { aC h k with ah := bz (aC h k).ah n df dh ds dt }
def t_ (h : ai) (k n : Int) : ai := { h with cabins := AM h k n 1 0 (-1) 0, todo := fG h.todo k }
def lu : dL := ⟨6, 0, 0, 0, 0, 0⟩
def EU (h : ai) (k : Nat) (c : a_) : a_ := { c with row := cH h.rules h.ae (k : Int) (h.now + 1) }
def hX (h : ai) (i : Nat) : List a_ := h.cabins.mapIdx fun k c => if k < i then EU h k c else c
def iL (h : ai) : Nat → List Int
 | 0 => h.todo
 | i + 1 => if ja h (i : Int) > 0 then fG (iL h i) (i : Int) else iL h i
def vQ (h : ai) (i : Nat) : ai := { h with now := h.now + 1, cabins := hX h i, todo := iL h i }
def gw (h : ai) : ai := if bM h lu = 0 then vQ h h.cabins.length else h
theorem sN (h : ai) (i : Nat) : (hX h i).length = h.cabins.length := by simp [hX]
theorem Ap (l : List Int) (k : Int) : (fG l k).length ≤ l.length + 1 := by
 unfold fG; split
 · omega
 · simp
end Go.Proofs.YtehpbaiclfilaaaGreat

