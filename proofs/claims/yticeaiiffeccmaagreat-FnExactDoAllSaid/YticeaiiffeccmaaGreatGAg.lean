/- Parts of a proof. No conditions. -/

import Derived.Test.YticeaiiffeccmaaGreatGLaw
import Derived.Test.YticeaiiffeccmaaGreatG06
set_option linter.unusedSimpArgs false
set_option linter.unusedVariables false
namespace Go.Proofs.YticeaiiffeccmaaGreat
open Go Go.ChangeShapes Go.WideShapes
section
variable {H' : Type} {enc : TypeId × Value → H'} {P : Program} {tab : bj} {w W' : World} {base F1 : Nat} {sp : Nat → Bool} {held : Bool}
theorem RE (hT : eW P tab = true) (hB : oZ P tab = true) {T : TypeId} {fs : Array Field} (ht : P.underlying T = some (.struct fs)) (hk : oY P tab 5 T = some [.sl .int, .i .i64, .i .i64, .i .i64, .i .i64, .i .i64, .i .i64, .i .i64, .i .i64, .i .i64, .i .i64, .sl .aG, .sl .ah, .sl .int, .sl .int]) {r : Reach} {v : Value} {d : DataW H'} {ps : List MemPlace}
   (ck : Value.okWide P w r F1 T v) (h : DataW.Trod enc P w base sp held T v d ps) : ∃ x : an, RV (fun b => w.heap[b]?) (fun _ => default) (fun _ => False) (cw x) v := by
 obtain ⟨cs, rfl, _⟩ := okWide_struct ht ck;obtain ⟨fuel, h⟩ := h;obtain ⟨hl, hx⟩ := x_ hT hB rfl fuel h hk
 have e : ∀ j, (Value.agg cs).cells.toList.getD j Go.undef = cs.getD j Go.undef := fun j => by
   rw [List.getD_eq_getElem?_getD, Array.getD_eq_getD_getElem?]; simp [Value.cells]
 obtain ⟨x0, h0⟩ := hx 0 _ rfl;rw [e] at h0;obtain ⟨x1, h1⟩ := hx 1 _ rfl;rw [e] at h1;obtain ⟨x2, h2⟩ := hx 2 _ rfl;rw [e] at h2;obtain ⟨x3, h3⟩ := hx 3 _ rfl;rw [e] at h3;obtain ⟨x4, h4⟩ := hx 4 _ rfl;rw [e] at h4;obtain ⟨x5, h5⟩ := hx 5 _ rfl;rw [e] at h5;obtain ⟨x6, h6⟩ := hx 6 _ rfl;rw [e] at h6;obtain ⟨x7, h7⟩ := hx 7 _ rfl;rw [e] at h7;obtain ⟨x8, h8⟩ := hx 8 _ rfl;rw [e] at h8;obtain ⟨x9, h9⟩ := hx 9 _ rfl;rw [e] at h9;obtain ⟨RG, bM⟩ := hx 10 _ rfl;rw [e] at bM;obtain ⟨RH, ie⟩ := hx 11 _ rfl;rw [e] at ie;obtain ⟨RI, zr⟩ := hx 12 _ rfl;rw [e] at zr;obtain ⟨RJ, Ee⟩ := hx 13 _ rfl;rw [e] at Ee;obtain ⟨RK, RF⟩ := hx 14 _ rfl;rw [e] at RF;refine ⟨⟨⟨x0, x1, x2, x3, x4, x5, x6, x7, x8⟩, x9, RG, RH, RI, RJ, RK⟩, cs, rfl, ?_, fun j c hj => ?_⟩
 · have : cs.toList.length = 15 := by simpa [Value.cells] using hl
   simpa using this
 · match j, hj with
   | 0, hj => cases hj; exact h0
   | 1, hj => cases hj; exact h1
   | 2, hj => cases hj; exact h2
   | 3, hj => cases hj; exact h3
   | 4, hj => cases hj; exact h4
   | 5, hj => cases hj; exact h5
   | 6, hj => cases hj; exact h6
   | 7, hj => cases hj; exact h7
   | 8, hj => cases hj; exact h8
   | 9, hj => cases hj; exact h9
   | 10, hj => cases hj; exact bM
   | 11, hj => cases hj; exact ie
   | 12, hj => cases hj; exact zr
   | 13, hj => cases hj; exact Ee
   | 14, hj => cases hj; exact RF
end
end Go.Proofs.YticeaiiffeccmaaGreat

