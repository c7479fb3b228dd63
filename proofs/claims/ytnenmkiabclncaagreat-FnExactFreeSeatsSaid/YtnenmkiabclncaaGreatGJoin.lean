/-
  From a contract to the frame of a given statement. No conditions.
-/
import Derived.Test.YtnenmkiabclncaaGreatG04
import Derived.RowKit3
set_option linter.unusedSimpArgs false
set_option linter.unusedVariables false

namespace Go.Proofs.YtnenmkiabclncaaGreat
open Go

theorem Grown.of {w w' : World} (he : Ext w w') (hh : ∀ (b : Nat) o, w.heap[b]? = some o → w'.heap[b]? = some o) : RowKit.Grown w w' := by
  refine ⟨⟨he.os, he.out, fun i hi => ?_⟩, he.fz, he.sz⟩
  have h1 := hh i _ (Array.getElem?_eq_getElem hi)
  rw [h1, Array.getElem?_eq_getElem hi]
  cases w.heap[i] with
  | cells c t fr => exact ⟨rfl, rfl, rfl, fun _ _ => rfl⟩
  | map es clock => exact .inr ⟨rfl, rfl⟩
  | _ => rfl

/-- a law's contract, as the frame asks for it -/
theorem Spec.law {P : Program} {f : FuncId} {as : List V} (h : Spec P f as (Ret (bR fun _ => true))) {w : World} {vs : Array Value} (ha : args (fun b => w.heap[b]?) (fun _ => default) (fun _ => False) as vs) :
    Calls P f vs w fun e w' => e = .returned (.bool true) ∧ RowKit.Grown w w' := by
  refine Calls.mono (h.can.2 w vs ha) fun e w' hw => ?_
  obtain ⟨v, r, nb, H', ρ, rfl, ⟨rfl, rfl⟩, _, hb, hv, hx⟩ := hw
  have : v = .bool true := RL.of_bool hv
  subst this
  exact ⟨rfl, Grown.of hx fun b o ho => hb.hh b o (hb.h0 b o ho)⟩

/-- an integer as an argument -/
theorem arg_int {k : IntKind} {n : Int} (hw : (Lit.int k n).wf = true) {H : Hp} {ρ : Rho} {D : Nat → Prop} : RV H ρ D (.c (.lf (.int k fun _ => n))) (.int k n) := by
  refine RL.int (t := fun _ => n) ?_
  simpa [Lit.wf, IntKind.has] using hw

end Go.Proofs.YtnenmkiabclncaaGreat
