/-
 The statement on FnAged, by its contract. The frame is the kit's. No conditions.
-/
import Derived.Test.YtehpbaiclfilaaaGreatRows
import Derived.WalkKit
import Derived.ProofKit
import Derived.OpenShut
import Derived.Test.YtehpbaiclfilaaaGreatGLaw
import Derived.Test.YtehpbaiclfilaaaGreatGTab
import Derived.Test.YtehpbaiclfilaaaGreatGWt
set_option linter.unusedSimpArgs false
set_option linter.unusedVariables false

namespace Go.Proofs.YtehpbaiclfilaaaGreat.fnAged
open Go.ChangeShapes Go.WideShapes Go.ChangeAt Go.RowKit

theorem own : ownKnob Tryz.prog.godebug = none := by kernel_rfl
theorem laidOut : laidOutB Tryz.prog = true := by kernel_rfl
theorem gT : kZ Tryz.prog tab = true := by kernel_rfl

set_option maxRecDepth 100000 in
theorem lifted (os : Os) (started : os.Started) (H : Type) (enc : TypeId × Value → H) :
  ReturnsInHanded {} Tryz.checked os 7 .any (Rows.fnAgedSpec.pre6 enc Tryz.prog Tryz.f7 Rows.fnAgedRow.domain false) (Rows.fnAgedSpec.post enc Tryz.prog Tryz.f7 false true false false) := by
 refine returnsInHanded_of_change (C := Tryz.checked) own started (by kernel_rfl) Tryz.func7
  (ChangeSpec.witness6 (enc := enc) (C := Tryz.checked) false ⟨#[], #[.slice none 0 0], []⟩ 8 (by kernel_rfl) (by kernel_rfl) (by kernel_rfl) (by kernel_rfl)) ?_
 intro W base args ds gs before eG hW nI _;have bS : ∀ (j : Nat) t v, Tryz.f7.params[j]? = some t → args[j]? = some v → Value.okWide Tryz.prog W .any base t v := eG;have c_ := hW;obtain ⟨p, q, eI, hV, rfl, jE, fW⟩ := hW;have hA : DataW.TrodAll enc Tryz.prog W 0 (fun _ => true) true Tryz.f7.params.toList args.toList ds p := eI;rw [Tryz.params7] at hA bS;have dW := hA;obtain ⟨v0, nJ, d0, nK, p0, q0, di, rfl, rfl, h0, r0⟩ := trodAll_cons hA;obtain ⟨rfl, rfl, rfl⟩ := trodAll_nil r0;obtain rfl : args = #[v0] := by cases args; simp_all
 obtain ⟨rfl, rfl⟩ := trodVars_none hV;have aL := c_.lt;obtain ⟨a0, x0⟩ := mn ay gT .byte 2 Tryz.underlying22 (by kernel_rfl) (bS 0 22 v0 rfl rfl) h0;clear eI eG;simp only [List.append_nil] at c_ aL;refine ((K6 a0).mo (mq x0)).mono fun e W' ⟨he, hg, hs⟩ => ?_;subst he
 exact ⟨_, rfl, mm (pv := []) c_ (fun _ _ _ => (trodAll_cons_mk (shut_bool Tryz.underlying4 _) trodAll_mk0))
  (fun sp gU => lP laidOut (by kernel_rfl) dW (fun x hx => hs x (aL x (by simpa using hx))) fun x hx => gU x (by simpa using hx)) (fun _ _ => rfl) (by simp)
  hg (ok_one (by kernel_rfl) rfl (okWide_bool_mk Tryz.underlying4 _))⟩

theorem named : Tryz.pinned.checked.prog.funcNamed Rows.fnAgedRow.func = some 7 := by kernel_rfl
theorem inst : Tryz.f7.isInstance Tryz.pinned.checked.prog Rows.fnAgedRow.origin Rows.fnAgedRow.targs := of_decide_eq_true (by kernel_rfl)
theorem wrap : Tryz.f7.isWrapper Tryz.pinned.checked.prog Rows.fnAgedRow.wrapper Rows.fnAgedRow.mainSum := by unfold Func.isWrapper; first | (rw [if_pos (by decide +kernel)]; kernel_rfl) | (rw [if_neg (by decide +kernel)]; exact ⟨rfl, rfl⟩)
set_option maxHeartbeats 20000000 in
theorem closed : joinedFacts Tryz.pinned.checked.prog 7 Tryz.f7 Rows.fnAgedSpec Rows.fnAgedRow = true := by
 unfold joinedFacts
 repeat' (with_reducible refine Bool.and_eq_true_iff.2 ⟨?_, ?_⟩)
 all_goals (as_aux_lemma => kernel_rfl)

theorem over : Rows.fnAgedRow.holds Tryz.pinned (OpenSpec.ofChange Rows.fnAgedSpec) :=
 OpenClaim.holds_of_wide 7 Tryz.f7 rfl rfl rfl rfl rfl rfl rfl ⟨rfl, rfl, rfl, rfl, rfl⟩ rfl rfl rfl rfl rfl named Tryz.func7 closed inst wrap
  (fun os started H enc _ => lifted os started H enc)

theorem proved : Rows.FnAgedSaid := over
#print axioms proved
end Go.Proofs.YtehpbaiclfilaaaGreat.fnAged
