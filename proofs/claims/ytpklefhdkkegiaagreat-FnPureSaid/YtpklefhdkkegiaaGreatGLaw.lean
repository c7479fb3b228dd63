/- Parts of a proof. No conditions. -/

import Derived.Test.YtpklefhdkkegiaaGreatGOpen
import Derived.WideKeyArgs
import Derived.OpenShut
set_option linter.unusedSimpArgs false
set_option linter.unusedVariables false
namespace Go.Proofs.YtpklefhdkkegiaaGreat
open Go Go.ChangeShapes Go.WideShapes
section
variable {H' : Type} {enc : TypeId × Value → H'} {P : Program} {tab : aX} {w W' : World} {base L3 : Nat} {sp : Nat → Bool} {held : Bool}
theorem L4 (hT:eC P tab=true) (hB:AT P tab=true) (E:an) {T e:TypeId} (n:Nat) (ht:P.underlying T=some (.slice e)) (hk:pY P tab n T=some [.sl E]) {r:Reach} {v:Value} {d:DataW H'} {ps:List MemPlace}
  (dq:Value.okWide P w r L3 T v) (h:DataW.Trod enc P w base sp held T v d ps):∃xs:List E.α,RV (fun b=>w.heap[b]?) (fun _=>default) (fun _=>False) (lA E xs) v:=by
 obtain⟨a,len,cap,rfl⟩:=okWide_slice ht dq;obtain⟨fuel,h⟩:=h;have hc:=AU hT hB rfl fuel h hk;obtain⟨x,c,cs,he,hx,_⟩:=hc.head;have:c = .slice a len cap:=by simpa [Value.cells] using (List.cons.inj he).1.symm
 subst this;exact⟨x,hx⟩
theorem FI (hl:laidOutB P=true):∀{ts:List TypeId} {vs:List Value} {ds:List (DataW H')} {ps:List MemPlace},(ts.all fun t=>P.readableRec t && decide (t<P.types.size))=true→
   DataW.TrodAll enc P w base (fun _=>true) true ts vs ds ps→(∀p∈ps,w.sameAt W' p)→(∀p∈ps,sp p.block=true)→DataW.TrodAll enc P W' base sp true ts vs ds ps
 | [],[],[],_,_,h,_,_=>h
 | [],_::_,_,_,_,h,_,_=>by simp[DataW.TrodAll] at h
 | [],[],_::_,_,_,h,_,_=>by simp[DataW.TrodAll] at h
 | t ::ts,vs,ds,ps,xy,h,hs,hp=>by
   obtain⟨v,Rc,d,Rd,p,q,rfl,rfl,rfl,h0,h1⟩:=trodAll_cons h;simp only[List.all_cons,Bool.and_eq_true,decide_eq_true_eq] at xy
   exact trodAll_cons_mk (WideElems.Trod_stays hl xy.1.1 xy.1.2 h0 (fun x hx=>hs x (List.mem_append_left _ hx)) fun x hx=>hp x (List.mem_append_left _ hx))
    (FI hl xy.2 h1 (fun x hx=>hs x (List.mem_append_right _ hx)) fun x hx=>hp x (List.mem_append_right _ hx))
end
theorem Spec.L5 {P:Program} {f:FuncId} {as:List V} (h:Spec P f as (aM (bR fun _=>true))) {w:World} {vs:Array Value} (ha:args (fun b=>w.heap[b]?) (fun _=>default) (fun _=>False) as vs) :
   Calls P f vs w fun e w'=>e = .returned (.bool true)∧Kept w w'∧∀p:MemPlace,p.block<w.heap.size→w.sameAt w' p:=by
 refine Calls.mono (h.can.2 w vs ha) fun e w' hw=> ?_;obtain⟨v,r,nb,H',ρ,rfl,⟨rfl,rfl⟩,_,hb,hv,hx⟩:=hw;have:v = .bool true:=RL.of_bool hv;subst this;have hh:∀(b:Nat) o,w.heap[b]? = some o→w'.heap[b]? = some o:=fun b o ho=>hb.hh b o (hb.h0 b o ho);refine⟨rfl,Kept.of hx hh,fun p hp=> ?_⟩;cases p with
 | cell b off=>
   have dn:b<w.heap.size:=hp;have h1:=hh b _ (Array.getElem?_eq_getElem dn);have h2:=Array.getElem?_eq_getElem dn;show w'.cell? ⟨b,off,none⟩=w.cell? ⟨b,off,none⟩;unfold World.cell?;simp only[h1,h2]
 | map b=>
   have dn:b<w.heap.size:=hp;have h1:=hh b _ (Array.getElem?_eq_getElem dn);show w'.heap[b]? = w.heap[b]?;rw[h1,Array.getElem?_eq_getElem dn]
theorem L6 {H:Hp} {ρ:aF} {D:Nat→Prop} {c:V} {v:Value} (h:RV H ρ D c v):args H ρ D [c] #[v]:=
 ⟨rfl,fun j x hj=>by
  match j,hj with
  | 0,hj=>cases hj; exact h⟩
end Go.Proofs.YtpklefhdkkegiaaGreat

