/- Parts of a proof. No conditions. -/

import Derived.Test.YtehpbaiclfilaaaGreatGRetK
import Derived.Test.YtehpbaiclfilaaaGreatGJoin
set_option linter.unusedSimpArgs false
set_option linter.unusedVariables false
namespace Go.Proofs.YtehpbaiclfilaaaGreat
open Go
def jZ (X : Type) (φ : X → Prop) (s : X → dj) (kp : X → List (Nat × dV)) (r : V) (b : List (Nat × ak)) : Prop := ∃ x, φ x ∧ r = lM (s x) ∧ b = iZ (s x) (kp x)
theorem d_ {P : Program} {tab : bf} (hT : fw P tab = true) {f : FuncId} {fn : Func} {c : Code} (hf : P.funcs[f]? = some fn) (hb : fn.body = some c) (fE : (fn.name == "runtime.NumGoroutine") = false) {fr : Bool} (dY : fr = true → gC c = true)
  {as : List V} {bs : List (Nat × ak)} {X : Type} {φ : X → Prop} {s : X → dj} {kp : X → List (Nat × dV)} {pk : List Nat} (ic : ∀ x, (kp x).map (·.1) = pk) (jA : pk.all (fun k => (bs.map (·.1)).contains k) = true)
  (aL : (bs.map (·.1)).all (fun k => decide (k < 100)) = true)
  (h : ∀ P', P' = P → kX as → ml bs → rD P' tab fr fn c as bs pk (Di tab fn.results.toList X φ s kp)) : bE P f as bs (jZ X φ s kp) :=
 OV hT hf hb fE dY ic jA aL (h P rfl)
theorem aB.ex {P P0 : Program} {f : FuncId} {as : List V} {bs : List (Nat × ak)} {K : V → List (Nat × ak) → Prop} {X : Type} {φ : X → Prop} {s : X → dj} {kp : X → List (Nat × dV)} (hP : P = P0) (h : bE P0 f as bs (jZ X φ s kp)) (hk : ∀ x, φ x → K (lM (s x)) (iZ (s x) (kp x))) : aB P f as bs K := by
 subst hP;exact ⟨_, h, fun r b ⟨x, h1, h2, h3⟩ => by rw [h2, h3]; exact hk x h1⟩
theorem Spec.mr {P : Program} {f : FuncId} {E : an} {xs : List E.α} (h : bE P f [.c (.own 0)] [(0, .view E fun _ => xs)] (dP (bR fun _ => true) [])) : Spec P f [lA E xs] (aE (bR fun _ => true)) := by
 refine ⟨h.1, fun w vs ha => ?_⟩;have h0 : RL (fun b => w.heap[b]?) (.list E fun _ => xs) (vs.getD 0 Go.undef) := ha.2 0 (lA E xs) rfl;obtain ⟨b, c, hv, _⟩ := RL.slice h0
 let ρ : aG := fun _ => (vs.getD 0 Go.undef, fun _ => 0)
 have ht : aS ρ [(0, ak.view E fun _ => xs)] = fun _ => 0 := by funext x; simp [aS, ρ]
 have hp : fC w (aS ρ [(0, ak.view E fun _ => xs)]) = fun b => w.heap[b]? := by funext b; simp only [fC, ht, if_true]
 refine (h.2 w vs ρ ?_ ⟨ha.1, fun j c hj => ?_⟩).mono fun e w' ⟨v, r, cd, H', ρ', h1, ⟨h2, h3⟩, h4, h5, h6, _⟩ => ?_
 · rw [hp];refine ⟨fun k hk => by show (vs.getD 0 Go.undef).oneCell' = true; rw [hv]; rfl, by simp, fun _ _ h => h, fun _ _ h => h, fun k B hk => ?_, fun x => by rw [ht]; exact Nat.zero_le _, fun k B _ x hx => by simp [ρ] at hx, fun k B hk x hx => ?_⟩
   · cases List.mem_singleton.1 hk; exact ⟨h0, rfl⟩
   · cases List.mem_singleton.1 hk; exact hx.elim
 · match j, hj with
   | 0, hj => cases hj; exact ⟨List.mem_singleton.2 rfl, rfl⟩
 · subst h2;rw [hp] at h4;refine ⟨v, .c (.lf (.bool fun _ => true)), [], H', ρ', h1, ⟨rfl, trivial⟩, rfl, ⟨fun k hk => by simp [num, av] at hk, by simp [num], h4.h0, h4.hh, fun k B hk => by simp [num] at hk, fun x => by simp [num, aS], fun k B hk => by simp [num] at hk, fun k B hk => by simp [num] at hk⟩, ?_, h6⟩;exact (RV.cl h5 rfl : _)
end Go.Proofs.YtehpbaiclfilaaaGreat

