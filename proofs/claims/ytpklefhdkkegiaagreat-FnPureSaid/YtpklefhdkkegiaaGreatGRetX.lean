/- Parts of a proof. No conditions. -/

import Derived.Test.YtpklefhdkkegiaaGreatGRetK
import Derived.Test.YtpklefhdkkegiaaGreatGJoin
set_option linter.unusedSimpArgs false
set_option linter.unusedVariables false
namespace Go.Proofs.YtpklefhdkkegiaaGreat
open Go
def u9 (X:Type) (φ:X→Prop) (s:X→cN) (kp:X→List (Nat × dw)) (r:V) (b:List (Nat × ak)):Prop:=∃x,φ x∧r=kx (s x)∧b=gZ (s x) (kp x)
theorem fu {P : Program} {tab : aX} (hT : eC P tab = true) {f : FuncId} {fn : Func} {c : Code} (hf : P.funcs[f]? = some fn) (hb : fn.body = some c) (eM : (fn.name == "runtime.NumGoroutine") = false) {fr : Bool} (d_ : fr = true → fG c = true)
  {as:List V} {bs:List (Nat × ak)} {X:Type} {φ:X→Prop} {s:X→cN} {kp:X→List (Nat × dw)} {pk:List Nat} (fP:∀x,(kp x).map (·.1)=pk) (ix:pk.all (fun k=>(bs.map (·.1)).contains k)=true)
  (aR:(bs.map (·.1)).all (fun k=>decide (k<100))=true)
  (h:∀P',P'=P→jK as→lg bs→pR P' tab fr fn c as bs pk (AS tab fn.results.toList X φ s kp)):bY P f as bs (u9 X φ s kp):=
 LO hT hf hb eM d_ fP ix aR (h P rfl)
theorem aJ.ex {P P0:Program} {f:FuncId} {as:List V} {bs:List (Nat × ak)} {K:V→List (Nat × ak)→Prop} {X:Type} {φ:X→Prop} {s:X→cN} {kp:X→List (Nat × dw)} (hP:P=P0) (h:bY P0 f as bs (u9 X φ s kp)) (hk:∀x,φ x→K (kx (s x)) (gZ (s x) (kp x))):aJ P f as bs K:=by
 subst hP;exact⟨_,h,fun r b ⟨x,h1,h2,h3⟩=>by rw[h2,h3]; exact hk x h1⟩
theorem Spec.Mc {P:Program} {f:FuncId} {E:an} {xs:List E.α} (h:bY P f [.c (.own 0)] [(0, .view E fun _=>xs)] (eV (bR fun _=>true) [])):Spec P f [lA E xs] (aM (bR fun _=>true)):=by
 refine⟨h.1,fun w vs ha=> ?_⟩;have h0:RL (fun b=>w.heap[b]?) (.list E fun _=>xs) (vs.getD 0 Go.undef):=ha.2 0 (lA E xs) rfl;obtain⟨b,c,hv,_⟩:=RL.slice h0
 let ρ:aF:=fun _=>(vs.getD 0 Go.undef,fun _=>0)
 have ht:aP ρ [(0,ak.view E fun _=>xs)]=fun _=>0:=by funext x; simp[aP,ρ]
 have hp:eI w (aP ρ [(0,ak.view E fun _=>xs)])=fun b=>w.heap[b]? :=by funext b; simp only[eI,ht,if_true]
 refine(h.2 w vs ρ ?_ ⟨ha.1,fun j c hj=> ?_⟩).mono fun e w' ⟨v,r,bX,H',ρ',h1,⟨h2,h3⟩,h4,h5,h6,_⟩=> ?_
 · rw[hp];refine⟨fun k hk=>by show(vs.getD 0 Go.undef).oneCell'=true; rw[hv]; rfl,by simp,fun _ _ h=>h,fun _ _ h=>h,fun k B hk=> ?_,fun x=>by rw[ht]; exact Nat.zero_le _,fun k B _ x hx=>by simp[ρ] at hx,fun k B hk x hx=> ?_⟩
   · cases List.mem_singleton.1 hk; exact⟨h0,rfl⟩
   · cases List.mem_singleton.1 hk; exact hx.elim
 · match j,hj with
   | 0,hj=>cases hj; exact⟨List.mem_singleton.2 rfl,rfl⟩
 · subst h2;rw[hp] at h4;refine⟨v, .c (.lf (.bool fun _=>true)),[],H',ρ',h1,⟨rfl,trivial⟩,rfl,⟨fun k hk=>by simp[num,av] at hk,by simp[num],h4.h0,h4.hh,fun k B hk=>by simp[num] at hk,fun x=>by simp[num,aP],fun k B hk=>by simp[num] at hk,fun k B hk=>by simp[num] at hk⟩, ?_,h6⟩;exact(RV.cl h5 rfl:_)
end Go.Proofs.YtpklefhdkkegiaaGreat

