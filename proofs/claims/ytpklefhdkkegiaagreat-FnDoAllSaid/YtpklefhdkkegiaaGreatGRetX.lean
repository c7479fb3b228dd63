/- Parts of a proof. No conditions. -/

import Derived.Test.YtpklefhdkkegiaaGreatGRetK
import Derived.Test.YtpklefhdkkegiaaGreatGJoin
set_option linter.unusedSimpArgs false
set_option linter.unusedVariables false
namespace Go.Proofs.YtpklefhdkkegiaaGreat
open Go
def pf (X:Type) (φ:X→Prop) (s:X→dg) (kp:X→List (Nat × dQ)) (r:V) (b:List (Nat × an)):Prop:=∃x,φ x∧r=mj (s x)∧b=jo (s x) (kp x)
theorem eP {P : Program} {tab : bh} (hT : fy P tab = true) {f : FuncId} {fn : Func} {c : Code} (hf : P.funcs[f]? = some fn) (hb : fn.body = some c) (fB : (fn.name == "runtime.NumGoroutine") = false) {fr : Bool} (eZ : fr = true → gF c = true)
  {as:List V} {bs:List (Nat × an)} {X:Type} {φ:X→Prop} {s:X→dg} {kp:X→List (Nat × dQ)} {pk:List Nat} (iu:∀x,(kp x).map (·.1)=pk) (jl:pk.all (fun k=>(bs.map (·.1)).contains k)=true)
  (aQ:(bs.map (·.1)).all (fun k=>decide (k<100))=true)
  (h:∀P',P'=P→ky as→lK bs→pd P' tab fr fn c as bs pk (xJ tab fn.results.toList X φ s kp)):bJ P f as bs (pf X φ s kp):=
 Jl hT hf hb fB eZ iu jl aQ (h P rfl)
theorem aD.ex {P P0:Program} {f:FuncId} {as:List V} {bs:List (Nat × an)} {K:V→List (Nat × an)→Prop} {X:Type} {φ:X→Prop} {s:X→dg} {kp:X→List (Nat × dQ)} (hP:P=P0) (h:bJ P0 f as bs (pf X φ s kp)) (hk:∀x,φ x→K (mj (s x)) (jo (s x) (kp x))):aD P f as bs K:=by
 subst hP;exact⟨_,h,fun r b ⟨x,h1,h2,h3⟩=>by rw[h2,h3]; exact hk x h1⟩
theorem Spec.tU {P:Program} {f:FuncId} {E:av} {xs:List E.α} (h:bJ P f [.c (.own 0)] [(0, .view E fun _=>xs)] (dx (bR fun _=>true) [])):Spec P f [lA E xs] (aG (bR fun _=>true)):=by
 refine⟨h.1,fun w vs ha=> ?_⟩;have h0:RL (fun b=>w.heap[b]?) (.list E fun _=>xs) (vs.getD 0 Go.undef):=ha.2 0 (lA E xs) rfl;obtain⟨b,c,hv,_⟩:=RL.slice h0
 let ρ:aK:=fun _=>(vs.getD 0 Go.undef,fun _=>0)
 have ht:aT ρ [(0,an.view E fun _=>xs)]=fun _=>0:=by funext x; simp[aT,ρ]
 have hp:fQ w (aT ρ [(0,an.view E fun _=>xs)])=fun b=>w.heap[b]? :=by funext b; simp only[fQ,ht,if_true]
 refine(h.2 w vs ρ ?_ ⟨ha.1,fun j c hj=> ?_⟩).mono fun e w' ⟨v,r,cm,H',ρ',h1,⟨h2,h3⟩,h4,h5,h6,_⟩=> ?_
 · rw[hp];refine⟨fun k hk=>by show(vs.getD 0 Go.undef).oneCell'=true; rw[hv]; rfl,by simp,fun _ _ h=>h,fun _ _ h=>h,fun k B hk=> ?_,fun x=>by rw[ht]; exact Nat.zero_le _,fun k B _ x hx=>by simp[ρ] at hx,fun k B hk x hx=> ?_⟩
   · cases List.mem_singleton.1 hk; exact⟨h0,rfl⟩
   · cases List.mem_singleton.1 hk; exact hx.elim
 · match j,hj with
   | 0,hj=>cases hj; exact⟨List.mem_singleton.2 rfl,rfl⟩
 · subst h2;rw[hp] at h4;refine⟨v, .c (.lf (.bool fun _=>true)),[],H',ρ',h1,⟨rfl,trivial⟩,rfl,⟨fun k hk=>by simp[num,ay] at hk,by simp[num],h4.h0,h4.hh,fun k B hk=>by simp[num] at hk,fun x=>by simp[num,aT],fun k B hk=>by simp[num] at hk,fun k B hk=>by simp[num] at hk⟩, ?_,h6⟩;exact(RV.cl h5 rfl:_)
end Go.Proofs.YtpklefhdkkegiaaGreat

