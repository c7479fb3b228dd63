/-
 The statement on FnExactDoAll, by its contract. The frame is the kit's. No conditions.
-/
import Derived.Test.YticeaiiffeccmaaGreatRows
import Derived.WalkKit
import Derived.ProofKit
import Derived.OpenShut
import Derived.Test.YticeaiiffeccmaaGreatGLaw
import Derived.Test.YticeaiiffeccmaaGreatGTab
import Derived.Test.YticeaiiffeccmaaGreatGAg
import Derived.Test.YticeaiiffeccmaaGreatGSl
set_option linter.unusedSimpArgs false
set_option linter.unusedVariables false

namespace Go.Proofs.YticeaiiffeccmaaGreat.fnExactDoAll
open Go.ChangeShapes Go.WideShapes Go.ChangeAt Go.RowKit

theorem own : ownKnob Tryz.prog.godebug = none := by kernel_rfl
theorem laidOut : laidOutB Tryz.prog = true := by kernel_rfl
theorem lz : oZ Tryz.prog tab = true := by kernel_rfl

set_option maxRecDepth 100000 in
theorem lifted (os : Os) (started : os.Started) (H : Type) (enc : TypeId × Value → H) :
  ReturnsInHanded {} Tryz.checked os 8 .any (Rows.fnExactDoAllSpec.pre6 enc Tryz.prog Tryz.f8 Rows.fnExactDoAllRow.domain false) (Rows.fnExactDoAllSpec.post enc Tryz.prog Tryz.f8 false true false false) := by
 refine returnsInHanded_of_change (C := Tryz.checked) own started (by kernel_rfl) Tryz.func8
  (ChangeSpec.witness6 (enc := enc) (C := Tryz.checked) false ⟨#[], #[.agg #[.slice none 0 0, .int .i64 0, .int .i64 0, .int .i64 0, .int .i64 0, .int .i64 0, .int .i64 0, .int .i64 0, .int .i64 0, .int .i64 0, .int .i64 0, .slice none 0 0, .slice none 0 0, .slice none 0 0, .slice none 0 0], .slice none 0 0], []⟩ 8 (by kernel_rfl) (by kernel_rfl) (by kernel_rfl) (by kernel_rfl)) ?_
 intro W base args ds gs before ji hW wB _;have ck : ∀ (j : Nat) t v, Tryz.f8.params[j]? = some t → args[j]? = some v → Value.okWide Tryz.prog W .any base t v := ji;have gD := hW;obtain ⟨p, q, jk, hV, rfl, mW, iL⟩ := hW;have hA : DataW.TrodAll enc Tryz.prog W 0 (fun _ => true) true Tryz.f8.params.toList args.toList ds p := jk;rw [Tryz.params8] at hA ck;have na := hA;obtain ⟨v0, wC, d0, wD, p0, q0, dO, rfl, rfl, h0, r0⟩ := trodAll_cons hA;obtain ⟨v1, wE, d1, wF, p1, q1, rfl, rfl, rfl, h1, r1⟩ := trodAll_cons r0;obtain ⟨rfl, rfl, rfl⟩ := trodAll_nil r1;obtain rfl : args = #[v0, v1] := by cases args; simp_all
 obtain ⟨rfl, rfl⟩ := trodVars_none hV;have aR := gD.lt;obtain ⟨a0, x0⟩ := RE au lz Tryz.underlying28 (by kernel_rfl) (ck 0 28 v0 rfl rfl) h0;obtain ⟨a1, x1⟩ := Mj au lz .cT 2 Tryz.underlying59 (by kernel_rfl) (ck 1 59 v1 rfl rfl) h1;clear jk ji;simp only [List.append_nil] at gD aR;refine ((Q5 a0 a1).tq (tu x0 x1)).mono fun e W' ⟨he, hg, hs⟩ => ?_;subst he
 exact ⟨_, rfl, post_of_same (pv := []) gD (fun _ _ _ => (trodAll_cons_mk (shut_bool Tryz.underlying4 _) trodAll_mk0))
  (fun sp nf => rz laidOut (by kernel_rfl) na (fun x hx => hs x (aR x (by simpa using hx))) fun x hx => nf x (by simpa using hx)) (fun _ _ => rfl) (by simp)
  (hg.frame _) hg.2.1 (ok_one (by kernel_rfl) rfl (okWide_bool_mk Tryz.underlying4 _))⟩

theorem named : Tryz.pinned.checked.prog.funcNamed Rows.fnExactDoAllRow.func = some 8 := by kernel_rfl
theorem inst : Tryz.f8.isInstance Tryz.pinned.checked.prog Rows.fnExactDoAllRow.origin Rows.fnExactDoAllRow.targs := of_decide_eq_true (by kernel_rfl)
theorem wrap : Tryz.f8.isWrapper Tryz.pinned.checked.prog Rows.fnExactDoAllRow.wrapper Rows.fnExactDoAllRow.mainSum := by unfold Func.isWrapper; first | (rw [if_pos (by decide +kernel)]; kernel_rfl) | (rw [if_neg (by decide +kernel)]; exact ⟨rfl, rfl⟩)
set_option maxHeartbeats 20000000 in
theorem closed : joinedFacts Tryz.pinned.checked.prog 8 Tryz.f8 Rows.fnExactDoAllSpec Rows.fnExactDoAllRow = true := by
 unfold joinedFacts
 repeat' (with_reducible refine Bool.and_eq_true_iff.2 ⟨?_, ?_⟩)
 all_goals (as_aux_lemma => kernel_rfl)

theorem over : Rows.fnExactDoAllRow.holds Tryz.pinned (OpenSpec.ofChange Rows.fnExactDoAllSpec) :=
 OpenClaim.holds_of_wide 8 Tryz.f8 rfl rfl rfl rfl rfl rfl rfl ⟨rfl, rfl, rfl, rfl, rfl⟩ rfl rfl rfl rfl rfl named Tryz.func8 closed inst wrap
  (fun os started H enc _ => lifted os started H enc)

theorem proved : Rows.FnExactDoAllSaid := over
#print axioms proved
end Go.Proofs.YticeaiiffeccmaaGreat.fnExactDoAll
