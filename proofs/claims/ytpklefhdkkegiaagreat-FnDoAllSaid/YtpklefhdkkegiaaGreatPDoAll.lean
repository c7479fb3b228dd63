/-
 The statement on FnDoAll,by its contract. The frame is the kit's. No conditions.
-/
import Derived.Test.YtpklefhdkkegiaaGreatRows
import Derived.WalkKit
import Derived.ProofKit
import Derived.OpenShut
import Derived.Test.YtpklefhdkkegiaaGreatGLaw
import Derived.Test.YtpklefhdkkegiaaGreatGTab
import Derived.Test.YtpklefhdkkegiaaGreatGXe
set_option linter.unusedSimpArgs false
set_option linter.unusedVariables false

namespace Go.Proofs.YtpklefhdkkegiaaGreat.fnDoAll
open Go.ChangeShapes Go.WideShapes Go.ChangeAt Go.RowKit

theorem own:ownKnob Tryz.prog.godebug=none:=by kernel_rfl
theorem laidOut:laidOutB Tryz.prog=true:=by kernel_rfl
theorem mB:qB Tryz.prog tab=true:=by kernel_rfl

set_option maxRecDepth 100000 in
theorem lifted (os:Os) (started:os.Started) (H:Type) (enc:TypeId × Value→H) :
  ReturnsInHanded {} Tryz.checked os 9 .any (Rows.fnDoAllSpec.pre6 enc Tryz.prog Tryz.f9 Rows.fnDoAllRow.domain false) (Rows.fnDoAllSpec.post enc Tryz.prog Tryz.f9 false true false false):=by
 refine returnsInHanded_of_change (C:=Tryz.checked) own started (by kernel_rfl) Tryz.func9
  (ChangeSpec.witness6 (enc:=enc) (C:=Tryz.checked) false ⟨#[], #[.slice none 0 0],[]⟩ 8 (by kernel_rfl) (by kernel_rfl) (by kernel_rfl) (by kernel_rfl)) ?_
 intro W base args ds gs before ja hW wj _;have cF:∀(j:Nat) t v,Tryz.f9.params[j]? = some t→args[j]? = some v→Value.okWide Tryz.prog W .any base t v:=ja;have gh:=hW;obtain⟨p,q,jc,hV,rfl,nn,jy⟩:=hW;have hA:DataW.TrodAll enc Tryz.prog W 0 (fun _=>true) true Tryz.f9.params.toList args.toList ds p:=jc;rw[Tryz.params9] at hA cF;have g_:=hA;obtain⟨v0,wo,d0,wq,p0,q0,dN,rfl,rfl,h0,r0⟩:=trodAll_cons hA;obtain⟨rfl,rfl,rfl⟩:=trodAll_nil r0;obtain rfl:args = #[v0]:=by cases args; simp_all
 obtain⟨rfl,rfl⟩:=trodVars_none hV;have aQ:=gh.lt;obtain⟨a0,x0⟩:=tR au mB .byte 2 Tryz.underlying22 (by kernel_rfl) (cF 0 22 v0 rfl rfl) h0;clear jc ja;simp only[List.append_nil] at gh aQ;refine((Ve a0).tS (tT x0)).mono fun e W' ⟨he,hg,hs⟩=> ?_;subst he
 exact⟨_,rfl,tQ (pv:=[]) gh (fun _ _ _=>(trodAll_cons_mk (shut_bool Tryz.underlying4 _) trodAll_mk0))
  (fun sp mD=>sq laidOut (by kernel_rfl) g_ (fun x hx=>hs x (aQ x (by simpa using hx))) fun x hx=>mD x (by simpa using hx)) (fun _ _=>rfl) (by simp)
  hg (ok_one (by kernel_rfl) rfl (okWide_bool_mk Tryz.underlying4 _))⟩

theorem named:Tryz.pinned.checked.prog.funcNamed Rows.fnDoAllRow.func=some 9:=by kernel_rfl
theorem inst:Tryz.f9.isInstance Tryz.pinned.checked.prog Rows.fnDoAllRow.origin Rows.fnDoAllRow.targs:=of_decide_eq_true (by kernel_rfl)
theorem wrap:Tryz.f9.isWrapper Tryz.pinned.checked.prog Rows.fnDoAllRow.wrapper Rows.fnDoAllRow.mainSum:=by unfold Func.isWrapper; first | (rw[if_pos (by decide +kernel)]; kernel_rfl) | (rw[if_neg (by decide +kernel)]; exact⟨rfl,rfl⟩)
set_option maxHeartbeats 20000000 in
theorem closed:joinedFacts Tryz.pinned.checked.prog 9 Tryz.f9 Rows.fnDoAllSpec Rows.fnDoAllRow=true:=by
 unfold joinedFacts
 repeat' (with_reducible refine Bool.and_eq_true_iff.2 ⟨?_, ?_⟩)
 all_goals (as_aux_lemma=>kernel_rfl)

theorem over:Rows.fnDoAllRow.holds Tryz.pinned (OpenSpec.ofChange Rows.fnDoAllSpec):=
 OpenClaim.holds_of_wide 9 Tryz.f9 rfl rfl rfl rfl rfl rfl rfl ⟨rfl,rfl,rfl,rfl,rfl⟩ rfl rfl rfl rfl rfl named Tryz.func9 closed inst wrap
  (fun os started H enc _=>lifted os started H enc)

theorem proved:Rows.FnDoAllSaid:=over
#print axioms proved
end Go.Proofs.YtpklefhdkkegiaaGreat.fnDoAll
