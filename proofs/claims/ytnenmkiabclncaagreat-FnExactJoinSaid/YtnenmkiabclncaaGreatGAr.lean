/- Parts of a proof. No conditions. -/

import Derived.Test.YtnenmkiabclncaaGreatGLaw
set_option linter.unusedSimpArgs false
set_option linter.unusedVariables false
namespace Go.Proofs.YtnenmkiabclncaaGreat
open Go
theorem args_six {H : Hp} {ρ : Rho} {D : Nat → Prop} {c0 c1 c2 c3 c4 c5 : V} {v0 v1 v2 v3 v4 v5 : Value} (h0 : RV H ρ D c0 v0) (h1 : RV H ρ D c1 v1) (h2 : RV H ρ D c2 v2) (h3 : RV H ρ D c3 v3) (h4 : RV H ρ D c4 v4) (h5 : RV H ρ D c5 v5) : args H ρ D [c0, c1, c2, c3, c4, c5] #[v0, v1, v2, v3, v4, v5] :=
  ⟨rfl, fun j x hj => by
    match j, hj with
    | 0, hj => cases hj; exact h0
    | 1, hj => cases hj; exact h1
    | 2, hj => cases hj; exact h2
    | 3, hj => cases hj; exact h3
    | 4, hj => cases hj; exact h4
    | 5, hj => cases hj; exact h5⟩
end Go.Proofs.YtnenmkiabclncaaGreat

