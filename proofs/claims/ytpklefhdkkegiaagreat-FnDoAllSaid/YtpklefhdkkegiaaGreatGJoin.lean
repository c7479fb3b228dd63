/- Parts of a proof. No conditions. -/

import Derived.Test.YtpklefhdkkegiaaGreatG04
import Derived.RowKit3
import Derived.ChangeSame
set_option linter.unusedSimpArgs false
set_option linter.unusedVariables false
namespace Go.Proofs.YtpklefhdkkegiaaGreat
open Go
structure Kept (w w':World):Prop where
 but:∀may:MemPlace→Prop,w.keptBut w' may
 fz:∀a:Addr,a.block<w.heap.size→w'.frozen? a=w.frozen? a
theorem Kept.of {w w':World} (he:Ext w w') (hh:∀(b:Nat) o,w.heap[b]? = some o→w'.heap[b]? = some o):Kept w w':=by
 refine⟨fun may=>⟨he.os,he.out,fun i hi=> ?_⟩,he.fz⟩;have h1:=hh i _ (Array.getElem?_eq_getElem hi);rw[h1,Array.getElem?_eq_getElem hi];cases w.heap[i] with
 | cells c t fr=>exact⟨rfl,rfl,rfl,fun _ _=>rfl⟩
 | map es clock=>exact .inr ⟨rfl,rfl⟩
 | _=>rfl
section
open Go.ChangeShapes Go.WideShapes
variable {H : Type} {enc : TypeId × Value → H} {P : Program}
theorem tQ {f:Func} {s:ChangeSpec} {apart fresh handsOn again:Bool} {W W':World} {args:Array Value} {v:Value} {ds gs:List (DataW H)} {before pa pv:List MemPlace}
   (hW:DataW.Whole enc P f.params.toList s.vars apart W args.toList ds gs before)
   (sb:∀(b:Nat) (sp:Nat→Bool) (hd:Bool),DataW.TrodAll enc P W' b sp hd f.resultTypes.toList (v.resultList f.resultTypes.size) (s.fn H (ds++gs)).results [])
   (dN:∀sp:Nat→Bool,(∀p∈before,sp p.block=true)→DataW.TrodAll enc P W' 0 sp true f.params.toList args.toList (s.fn H (ds++gs)).args pa)
   (Jm:∀sp:Nat→Bool,(∀p∈before,sp p.block=true)→DataW.TrodVars enc P W' sp s.vars (s.fn H (ds++gs)).vars pv)
   (sj:before=pa++pv) (hk:Kept W W')
   (cL:∀(j:Nat) (t:TypeId) (r:Value),f.resultTypes[j]? = some t→(v.resultList f.resultTypes.size)[j]? = some r→Value.okWide P W' .any 0 t r) :
   s.post enc P f apart fresh handsOn again W args v W':=by
 have hold:∀p∈before,(fun b=>decide (b<W.heap.size)) p.block=true:=fun p hp=>by simpa using hW.lt p hp
 have aQ:=hW.lt;refine⟨ds,gs,before,[],pa,pv,hW,sb _ _ _,dN _ hold,Jm _ hold,World.keptBut_mono (fun p hp=>⟨hp, ?_⟩) (hk.but (· ∈before)),fun _=> ?_⟩
 · rw[sj,List.mem_append] at hp;exact Or.inr hp
 · obtain⟨_,_,_,_,_,hz,hn⟩:=hW;refine⟨cL,_,_,([]++pa)++pv,⟨[]++pa,pv,trodAll_append (dN _ (fun _ _=>rfl)) (sb _ _ _),Jm _ (fun _ _=>rfl),rfl, ?_, ?_⟩, ?_⟩
   · intro b off hp;have hm:MemPlace.cell b off∈before:=by rw[sj]; simpa using hp
     rw[hk.fz _ (aQ _ hm)];exact hz b off hm
   · intro ha;have:=hn ha;rw[sj] at this;simpa using this
   · intro p hp _;rw[sj];simpa using hp
end
theorem P1 {k:IntKind} {n:Int} (hw:(Lit.int k n).wf=true) {H:Hp} {ρ:aK} {D:Nat→Prop}:RV H ρ D (.c (.lf (.int k fun _=>n))) (.int k n):=by
 refine RL.int (t:=fun _=>n) ?_;simpa [Lit.wf,IntKind.has] using hw
end Go.Proofs.YtpklefhdkkegiaaGreat

