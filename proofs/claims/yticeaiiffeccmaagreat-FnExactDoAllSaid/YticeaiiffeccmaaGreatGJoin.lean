/- Parts of a proof. No conditions. -/

import Derived.Test.YticeaiiffeccmaaGreatG04
import Derived.RowKit3
set_option linter.unusedSimpArgs false
set_option linter.unusedVariables false
namespace Go.Proofs.YticeaiiffeccmaaGreat
open Go
theorem Grown.of {w w' : World} (he : Ext w w') (hh : ∀ (b : Nat) o, w.heap[b]? = some o → w'.heap[b]? = some o) : RowKit.Grown w w' := by
 refine ⟨⟨he.os, he.out, fun i hi => ?_⟩, he.fz, he.sz⟩;have h1 := hh i _ (Array.getElem?_eq_getElem hi);rw [h1, Array.getElem?_eq_getElem hi];cases w.heap[i] with
 | cells c t fr => exact ⟨rfl, rfl, rfl, fun _ _ => rfl⟩
 | map es clock => exact .inr ⟨rfl, rfl⟩
 | _ => rfl
theorem vr {k : IntKind} {n : Int} (hw : (Lit.int k n).wf = true) {H : Hp} {ρ : aL} {D : Nat → Prop} : RV H ρ D (.c (.lf (.int k fun _ => n))) (.int k n) := by
 refine RL.int (t := fun _ => n) ?_;simpa [Lit.wf, IntKind.has] using hw
end Go.Proofs.YticeaiiffeccmaaGreat

