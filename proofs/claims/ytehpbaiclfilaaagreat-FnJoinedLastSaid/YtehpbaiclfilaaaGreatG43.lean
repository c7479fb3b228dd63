/- Parts of a proof. No conditions. -/

import Derived.Test.YtehpbaiclfilaaaGreatGHo
import Derived.Test.YtehpbaiclfilaaaGreatG12
import Derived.Test.YtehpbaiclfilaaaGreatG14
set_option linter.unusedSimpArgs false
set_option linter.unusedVariables false
namespace Go.Proofs.YtehpbaiclfilaaaGreat
open Go
set_option maxRecDepth 100000
theorem KX (x : bA) : sb x x = true := by simp [sb]
theorem KZ (x : bp) : mI x x = true := by simp [mI]
theorem HG.K0 {h : ai} (hg : HG h) {j : Nat} {c : a_} (hj : h.cabins[j]? = some c) : im c = true := by
 have := hg.cab j c hj;simp only [iC, fQ, Bool.and_eq_true] at this;exact this.2.2.1
theorem K2 {c : a_} (h : im c = true) : om c c = true := by
 have hw : br c.spoke = true := by simp only [im, Bool.and_eq_true] at h; exact h.2.2
 simp [om, h, KX, pw, hw]
theorem w5 {h : ai} (hg : HG h) : jN h h = true := by
 have hc : pd h.cabins h.cabins = true := by
  rw [pd, decide_eq_true rfl, xX rfl fun j x hx y hy => by rw [hx] at hy; cases hy; exact K2 (hg.K0 hx)]; rfl
 simp [jN, cI.2 hg, KZ, hc]
end Go.Proofs.YtehpbaiclfilaaaGreat

