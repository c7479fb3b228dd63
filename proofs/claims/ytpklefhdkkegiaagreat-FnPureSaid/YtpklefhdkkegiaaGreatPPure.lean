/-
 The statement on FnPure,by its contract. The frame is the kit's. No conditions.
-/
import Derived.Test.YtpklefhdkkegiaaGreatRows
import Derived.WalkKit
import Derived.ProofKit
import Derived.OpenShut
import Derived.Test.YtpklefhdkkegiaaGreatGLaw
import Derived.Test.YtpklefhdkkegiaaGreatGTab
import Derived.Test.YtpklefhdkkegiaaGreatGXf
set_option linter.unusedSimpArgs false
set_option linter.unusedVariables false

namespace Go.Proofs.YtpklefhdkkegiaaGreat.fnPure
open Go.ChangeShapes Go.WideShapes Go.ChangeAt Go.RowKit

theorem own:ownKnob Tryz.prog.godebug=none:=by kernel_rfl
theorem laidOut:laidOutB Tryz.prog=true:=by kernel_rfl
theorem QW:AT Tryz.prog tab=true:=by kernel_rfl

set_option maxRecDepth 100000 in
theorem lifted (os:Os) (started:os.Started) (H:Type) (enc:TypeId × Value→H) :
  ReturnsInHanded {} Tryz.checked os 10 .any (Rows.fnPureSpec.pre6 enc Tryz.prog Tryz.f10 Rows.fnPureRow.domain false) (Rows.fnPureSpec.post enc Tryz.prog Tryz.f10 false true false false):=by
 refine returnsInHanded_of_change (C:=Tryz.checked) own started (by kernel_rfl) Tryz.func10
  (ChangeSpec.witness6 (enc:=enc) (C:=Tryz.checked) false ⟨#[], #[.slice none 0 0],[]⟩ 8 (by kernel_rfl) (by kernel_rfl) (by kernel_rfl) (by kernel_rfl)) ?_
 intro W base args ds gs before IQ hW RB _;have dq:∀(j:Nat) t v,Tryz.f10.params[j]? = some t→args[j]? = some v→Value.okWide Tryz.prog W .any base t v:=IQ;have Cz:=hW;obtain⟨p,q,IS,hV,rfl,mM,kM⟩:=hW;have hA:DataW.TrodAll enc Tryz.prog W 0 (fun _=>true) true Tryz.f10.params.toList args.toList ds p:=IS;rw[Tryz.params10] at hA dq;have QX:=hA;obtain⟨v0,RD,d0,RE,p0,q0,du,rfl,rfl,h0,r0⟩:=trodAll_cons hA;obtain⟨rfl,rfl,rfl⟩:=trodAll_nil r0;obtain rfl:args = #[v0]:=by cases args; simp_all
 obtain⟨rfl,rfl⟩:=trodVars_none hV;have aR:=Cz.lt;obtain⟨a0,x0⟩:=L4 aD QW .byte 2 Tryz.underlying22 (by kernel_rfl) (dq 0 22 v0 rfl rfl) h0;clear IS IQ;simp only[List.append_nil] at Cz aR;refine((QV a0).L5 (L6 x0)).mono fun e W' ⟨he,hg,hs⟩=> ?_;subst he
 exact⟨_,rfl,LP (pv:=[]) Cz (fun _ _ _=>(trodAll_cons_mk (shut_bool Tryz.underlying4 _) trodAll_mk0))
  (fun sp QY=>FI laidOut (by kernel_rfl) QX (fun x hx=>hs x (aR x (by simpa using hx))) fun x hx=>QY x (by simpa using hx)) (fun _ _=>rfl) (by simp)
  hg (ok_one (by kernel_rfl) rfl (okWide_bool_mk Tryz.underlying4 _))⟩

theorem named:Tryz.pinned.checked.prog.funcNamed Rows.fnPureRow.func=some 10:=by kernel_rfl
theorem inst:Tryz.f10.isInstance Tryz.pinned.checked.prog Rows.fnPureRow.origin Rows.fnPureRow.targs:=of_decide_eq_true (by kernel_rfl)
theorem wrap:Tryz.f10.isWrapper Tryz.pinned.checked.prog Rows.fnPureRow.wrapper Rows.fnPureRow.mainSum:=by unfold Func.isWrapper; first | (rw[if_pos (by decide +kernel)]; kernel_rfl) | (rw[if_neg (by decide +kernel)]; exact⟨rfl,rfl⟩)
set_option maxHeartbeats 20000000 in
theorem closed:joinedFacts Tryz.pinned.checked.prog 10 Tryz.f10 Rows.fnPureSpec Rows.fnPureRow=true:=by
 unfold joinedFacts
 repeat' (with_reducible refine Bool.and_eq_true_iff.2 ⟨?_, ?_⟩)
 all_goals (as_aux_lemma=>kernel_rfl)

theorem over:Rows.fnPureRow.holds Tryz.pinned (OpenSpec.ofChange Rows.fnPureSpec):=
 OpenClaim.holds_of_wide 10 Tryz.f10 rfl rfl rfl rfl rfl rfl rfl ⟨rfl,rfl,rfl,rfl,rfl⟩ rfl rfl rfl rfl rfl named Tryz.func10 closed inst wrap
  (fun os started H enc _=>lifted os started H enc)

theorem proved:Rows.FnPureSaid:=over
#print axioms proved
end Go.Proofs.YtpklefhdkkegiaaGreat.fnPure
