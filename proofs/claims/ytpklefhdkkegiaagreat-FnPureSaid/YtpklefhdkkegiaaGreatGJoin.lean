/- Parts of a proof. No conditions. -/

import Derived.Test.YtpklefhdkkegiaaGreatG04
import Derived.RowKit3
import Derived.ChangeSame
set_option linter.unusedSimpArgs false
set_option linter.unusedVariables false
namespace Go.Proofs.YtpklefhdkkegiaaGreat
open Go
structure Kept (w w':World):Prop where
 but:∀may:MemPlace→Prop,w.keptBut w' may
 fz:∀a:Addr,a.block<w.heap.size→w'.frozen? a=w.frozen? a
theorem Kept.of {w w':World} (he:Ext w w') (hh:∀(b:Nat) o,w.heap[b]? = some o→w'.heap[b]? = some o):Kept w w':=by
 refine⟨fun may=>⟨he.os,he.out,fun i hi=> ?_⟩,he.fz⟩;have h1:=hh i _ (Array.getElem?_eq_getElem hi);rw[h1,Array.getElem?_eq_getElem hi];cases w.heap[i] with
 | cells c t fr=>exact⟨rfl,rfl,rfl,fun _ _=>rfl⟩
 | map es clock=>exact .inr ⟨rfl,rfl⟩
 | _=>rfl
section
open Go.ChangeShapes Go.WideShapes
variable {H : Type} {enc : TypeId × Value → H} {P : Program}
theorem LP {f:Func} {s:ChangeSpec} {apart fresh handsOn again:Bool} {W W':World} {args:Array Value} {v:Value} {ds gs:List (DataW H)} {before pa pv:List MemPlace}
   (hW:DataW.Whole enc P f.params.toList s.vars apart W args.toList ds gs before)
   (pQ:∀(b:Nat) (sp:Nat→Bool) (hd:Bool),DataW.TrodAll enc P W' b sp hd f.resultTypes.toList (v.resultList f.resultTypes.size) (s.fn H (ds++gs)).results [])
   (du:∀sp:Nat→Bool,(∀p∈before,sp p.block=true)→DataW.TrodAll enc P W' 0 sp true f.params.toList args.toList (s.fn H (ds++gs)).args pa)
   (FE:∀sp:Nat→Bool,(∀p∈before,sp p.block=true)→DataW.TrodVars enc P W' sp s.vars (s.fn H (ds++gs)).vars pv)
   (pX:before=pa++pv) (hk:Kept W W')
   (cj:∀(j:Nat) (t:TypeId) (r:Value),f.resultTypes[j]? = some t→(v.resultList f.resultTypes.size)[j]? = some r→Value.okWide P W' .any 0 t r) :
   s.post enc P f apart fresh handsOn again W args v W':=by
 have hold:∀p∈before,(fun b=>decide (b<W.heap.size)) p.block=true:=fun p hp=>by simpa using hW.lt p hp
 have aR:=hW.lt;refine⟨ds,gs,before,[],pa,pv,hW,pQ _ _ _,du _ hold,FE _ hold,World.keptBut_mono (fun p hp=>⟨hp, ?_⟩) (hk.but (· ∈before)),fun _=> ?_⟩
 · rw[pX,List.mem_append] at hp;exact Or.inr hp
 · obtain⟨_,_,_,_,_,hz,hn⟩:=hW;refine⟨cj,_,_,([]++pa)++pv,⟨[]++pa,pv,trodAll_append (du _ (fun _ _=>rfl)) (pQ _ _ _),FE _ (fun _ _=>rfl),rfl, ?_, ?_⟩, ?_⟩
   · intro b off hp;have hm:MemPlace.cell b off∈before:=by rw[pX]; simpa using hp
     rw[hk.fz _ (aR _ hm)];exact hz b off hm
   · intro ha;have:=hn ha;rw[pX] at this;simpa using this
   · intro p hp _;rw[pX];simpa using hp
end
theorem LQ {k:IntKind} {n:Int} (hw:(Lit.int k n).wf=true) {H:Hp} {ρ:aF} {D:Nat→Prop}:RV H ρ D (.c (.lf (.int k fun _=>n))) (.int k n):=by
 refine RL.int (t:=fun _=>n) ?_;simpa [Lit.wf,IntKind.has] using hw
end Go.Proofs.YtpklefhdkkegiaaGreat

