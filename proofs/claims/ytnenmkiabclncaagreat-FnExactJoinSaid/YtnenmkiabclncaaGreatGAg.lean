/- Parts of a proof. No conditions. -/

import Derived.Test.YtnenmkiabclncaaGreatGLaw
import Derived.Test.YtnenmkiabclncaaGreatG06
set_option linter.unusedSimpArgs false
set_option linter.unusedVariables false
namespace Go.Proofs.YtnenmkiabclncaaGreat
open Go Go.ChangeShapes Go.WideShapes
section
variable {H' : Type} {enc : TypeId × Value → H'} {P : Program} {tab : Tab} {w W' : World} {base base' : Nat} {sp : Nat → Bool} {held : Bool}
theorem arg_House (hT : tabB P tab = true) (hB : kindsB P tab = true) {T : TypeId} {fs : Array Field} (ht : P.underlying T = some (.struct fs)) (hk : kindsT P tab 5 T = some [.sl .int, .i .i64, .i .i64, .i .i64, .i .i64, .i .i64, .i .i64, .i .i64, .i .i64, .i .i64, .i .i64, .sl .pty, .sl .cab, .sl .int, .sl .int]) {r : Reach} {v : Value} {d : DataW H'} {ps : List MemPlace}
    (hval : Value.okWide P w r base' T v) (h : DataW.Trod enc P w base sp held T v d ps) : ∃ x : House, RV (fun b => w.heap[b]?) (fun _ => default) (fun _ => False) (hoA x) v := by
  obtain ⟨cs, rfl, _⟩ := okWide_struct ht hval
  obtain ⟨fuel, h⟩ := h
  obtain ⟨hl, hx⟩ := trod_cells hT hB rfl fuel h hk
  have e : ∀ j, (Value.agg cs).cells.toList.getD j Go.undef = cs.getD j Go.undef := fun j => by
    rw [List.getD_eq_getElem?_getD, Array.getD_eq_getD_getElem?]; simp [Value.cells]
  obtain ⟨x0, h0⟩ := hx 0 _ rfl
  rw [e] at h0
  obtain ⟨x1, h1⟩ := hx 1 _ rfl
  rw [e] at h1
  obtain ⟨x2, h2⟩ := hx 2 _ rfl
  rw [e] at h2
  obtain ⟨x3, h3⟩ := hx 3 _ rfl
  rw [e] at h3
  obtain ⟨x4, h4⟩ := hx 4 _ rfl
  rw [e] at h4
  obtain ⟨x5, h5⟩ := hx 5 _ rfl
  rw [e] at h5
  obtain ⟨x6, h6⟩ := hx 6 _ rfl
  rw [e] at h6
  obtain ⟨x7, h7⟩ := hx 7 _ rfl
  rw [e] at h7
  obtain ⟨x8, h8⟩ := hx 8 _ rfl
  rw [e] at h8
  obtain ⟨x9, h9⟩ := hx 9 _ rfl
  rw [e] at h9
  obtain ⟨x10, h10⟩ := hx 10 _ rfl
  rw [e] at h10
  obtain ⟨x11, h11⟩ := hx 11 _ rfl
  rw [e] at h11
  obtain ⟨x12, h12⟩ := hx 12 _ rfl
  rw [e] at h12
  obtain ⟨x13, h13⟩ := hx 13 _ rfl
  rw [e] at h13
  obtain ⟨x14, h14⟩ := hx 14 _ rfl
  rw [e] at h14
  refine ⟨⟨⟨x0, x1, x2, x3, x4, x5, x6, x7, x8⟩, x9, x10, x11, x12, x13, x14⟩, cs, rfl, ?_, fun j c hj => ?_⟩
  · have : cs.toList.length = 15 := by simpa [Value.cells] using hl
    simpa using this
  · match j, hj with
    | 0, hj => cases hj; exact h0
    | 1, hj => cases hj; exact h1
    | 2, hj => cases hj; exact h2
    | 3, hj => cases hj; exact h3
    | 4, hj => cases hj; exact h4
    | 5, hj => cases hj; exact h5
    | 6, hj => cases hj; exact h6
    | 7, hj => cases hj; exact h7
    | 8, hj => cases hj; exact h8
    | 9, hj => cases hj; exact h9
    | 10, hj => cases hj; exact h10
    | 11, hj => cases hj; exact h11
    | 12, hj => cases hj; exact h12
    | 13, hj => cases hj; exact h13
    | 14, hj => cases hj; exact h14
end
end Go.Proofs.YtnenmkiabclncaaGreat

