/-
 The statement on FnResolved,by its contract. The frame is the kit's. No conditions.
-/
import Derived.Test.YtpklefhdkkegiaaGreatRows
import Derived.WalkKit
import Derived.ProofKit
import Derived.OpenShut
import Derived.Test.YtpklefhdkkegiaaGreatGLaw
import Derived.Test.YtpklefhdkkegiaaGreatGTab
import Derived.Test.YtpklefhdkkegiaaGreatGXd
set_option linter.unusedSimpArgs false
set_option linter.unusedVariables false

namespace Go.Proofs.YtpklefhdkkegiaaGreat.fnResolved
open Go.ChangeShapes Go.WideShapes Go.ChangeAt Go.RowKit

theorem own:ownKnob Tryz.prog.godebug=none:=by kernel_rfl
theorem laidOut:laidOutB Tryz.prog=true:=by kernel_rfl
theorem mB:qB Tryz.prog tab=true:=by kernel_rfl

set_option maxRecDepth 100000 in
theorem lifted (os:Os) (started:os.Started) (H:Type) (enc:TypeId × Value→H) :
  ReturnsInHanded {} Tryz.checked os 6 .any (Rows.fnResolvedSpec.pre6 enc Tryz.prog Tryz.f6 Rows.fnResolvedRow.domain false) (Rows.fnResolvedSpec.post enc Tryz.prog Tryz.f6 false true false false):=by
 refine returnsInHanded_of_change (C:=Tryz.checked) own started (by kernel_rfl) Tryz.func6
  (ChangeSpec.witness6 (enc:=enc) (C:=Tryz.checked) false ⟨#[], #[.slice none 0 0],[]⟩ 8 (by kernel_rfl) (by kernel_rfl) (by kernel_rfl) (by kernel_rfl)) ?_
 intro W base args ds gs before ja hW wj _;have cF:∀(j:Nat) t v,Tryz.f6.params[j]? = some t→args[j]? = some v→Value.okWide Tryz.prog W .any base t v:=ja;have gh:=hW;obtain⟨p,q,jc,hV,rfl,nn,jy⟩:=hW;have hA:DataW.TrodAll enc Tryz.prog W 0 (fun _=>true) true Tryz.f6.params.toList args.toList ds p:=jc;rw[Tryz.params6] at hA cF;have g_:=hA;obtain⟨v0,wo,d0,wq,p0,q0,dN,rfl,rfl,h0,r0⟩:=trodAll_cons hA;obtain⟨rfl,rfl,rfl⟩:=trodAll_nil r0;obtain rfl:args = #[v0]:=by cases args; simp_all
 obtain⟨rfl,rfl⟩:=trodVars_none hV;have aQ:=gh.lt;obtain⟨a0,x0⟩:=tR au mB .byte 2 Tryz.underlying22 (by kernel_rfl) (cF 0 22 v0 rfl rfl) h0;clear jc ja;simp only[List.append_nil] at gh aQ;refine((VO a0).tS (tT x0)).mono fun e W' ⟨he,hg,hs⟩=> ?_;subst he
 exact⟨_,rfl,tQ (pv:=[]) gh (fun _ _ _=>(trodAll_cons_mk (shut_bool Tryz.underlying4 _) trodAll_mk0))
  (fun sp mD=>sq laidOut (by kernel_rfl) g_ (fun x hx=>hs x (aQ x (by simpa using hx))) fun x hx=>mD x (by simpa using hx)) (fun _ _=>rfl) (by simp)
  hg (ok_one (by kernel_rfl) rfl (okWide_bool_mk Tryz.underlying4 _))⟩

theorem named:Tryz.pinned.checked.prog.funcNamed Rows.fnResolvedRow.func=some 6:=by kernel_rfl
theorem inst:Tryz.f6.isInstance Tryz.pinned.checked.prog Rows.fnResolvedRow.origin Rows.fnResolvedRow.targs:=of_decide_eq_true (by kernel_rfl)
theorem wrap:Tryz.f6.isWrapper Tryz.pinned.checked.prog Rows.fnResolvedRow.wrapper Rows.fnResolvedRow.mainSum:=by unfold Func.isWrapper; first | (rw[if_pos (by decide +kernel)]; kernel_rfl) | (rw[if_neg (by decide +kernel)]; exact⟨rfl,rfl⟩)
set_option maxHeartbeats 20000000 in
theorem closed:joinedFacts Tryz.pinned.checked.prog 6 Tryz.f6 Rows.fnResolvedSpec Rows.fnResolvedRow=true:=by
 unfold joinedFacts
 repeat' (with_reducible refine Bool.and_eq_true_iff.2 ⟨?_, ?_⟩)
 all_goals (as_aux_lemma=>kernel_rfl)

theorem over:Rows.fnResolvedRow.holds Tryz.pinned (OpenSpec.ofChange Rows.fnResolvedSpec):=
 OpenClaim.holds_of_wide 6 Tryz.f6 rfl rfl rfl rfl rfl rfl rfl ⟨rfl,rfl,rfl,rfl,rfl⟩ rfl rfl rfl rfl rfl named Tryz.func6 closed inst wrap
  (fun os started H enc _=>lifted os started H enc)

theorem proved:Rows.FnResolvedSaid:=over
#print axioms proved
end Go.Proofs.YtpklefhdkkegiaaGreat.fnResolved
