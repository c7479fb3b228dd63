/- Parts of a proof. No conditions. -/

import Derived.Test.YtlochjpjlhkjaaaGRetK
import Derived.Test.YtlochjpjlhkjaaaGJoin
set_option linter.unusedSimpArgs false
set_option linter.unusedVariables false
namespace Go.Proofs.Ytlochjpjlhkjaaa
open Go
def RetX' (X : Type) (φ : X → Prop) (s : X → RSh) (kp : X → List (Nat × KSh)) (r : V) (b : List (Nat × Blk)) : Prop := ∃ x, φ x ∧ r = tgtV (s x) ∧ b = tgtB (s x) (kp x)
theorem specX_of {P : Program} {tab : Tab} (hT : tabB P tab = true) {f : FuncId} {fn : Func} {c : Code} (hf : P.funcs[f]? = some fn) (hb : fn.body = some c) (hnm : (fn.name == "runtime.NumGoroutine") = false) {fr : Bool} (hfr : fr = true → codeFree c = true)
    {as : List V} {bs : List (Nat × Blk)} {X : Type} {φ : X → Prop} {s : X → RSh} {kp : X → List (Nat × KSh)} {pk : List Nat} (hpk : ∀ x, (kp x).map (·.1) = pk) (hpb : pk.all (fun k => (bs.map (·.1)).contains k) = true)
    (hlt : (bs.map (·.1)).all (fun k => decide (k < 100)) = true)
    (h : ∀ P', P' = P → okAs as → okBs bs → vcFuncM P' tab fr fn c as bs pk (FinMT tab fn.results.toList X φ s kp)) : SpecM P f as bs (RetX' X φ s kp) :=
  specMT_of_vc hT hf hb hnm hfr hpk hpb hlt (h P rfl)
theorem CallM.ex {P P0 : Program} {f : FuncId} {as : List V} {bs : List (Nat × Blk)} {K : V → List (Nat × Blk) → Prop} {X : Type} {φ : X → Prop} {s : X → RSh} {kp : X → List (Nat × KSh)} (hP : P = P0) (h : SpecM P0 f as bs (RetX' X φ s kp)) (hk : ∀ x, φ x → K (tgtV (s x)) (tgtB (s x) (kp x))) : CallM P f as bs K := by
  subst hP
  exact ⟨_, h, fun r b ⟨x, h1, h2, h3⟩ => by rw [h2, h3]; exact hk x h1⟩
theorem Spec.ofView {P : Program} {f : FuncId} {E : ETy} {xs : List E.α} (h : SpecM P f [.c (.own 0)] [(0, .view E fun _ => xs)] (RetM (bR fun _ => true) [])) : Spec P f [lA E xs] (Ret (bR fun _ => true)) := by
  refine ⟨h.1, fun w vs ha => ?_⟩
  have h0 : RL (fun b => w.heap[b]?) (.list E fun _ => xs) (vs.getD 0 Go.undef) := ha.2 0 (lA E xs) rfl
  obtain ⟨b, c, hv, _⟩ := RL.slice h0
  let ρ : Rho := fun _ => (vs.getD 0 Go.undef, fun _ => 0)
  have ht : tot ρ [(0, Blk.view E fun _ => xs)] = fun _ => 0 := by funext x; simp [tot, ρ]
  have hp : hpOf w (tot ρ [(0, Blk.view E fun _ => xs)]) = fun b => w.heap[b]? := by funext b; simp only [hpOf, ht, if_true]
  refine (h.2 w vs ρ ?_ ⟨ha.1, fun j c hj => ?_⟩).mono fun e w' ⟨v, r, bs', H', ρ', h1, ⟨h2, h3⟩, h4, h5, h6, _⟩ => ?_
  · rw [hp]
    refine ⟨fun k hk => by show (vs.getD 0 Go.undef).oneCell' = true; rw [hv]; rfl, by simp, fun _ _ h => h, fun _ _ h => h, fun k B hk => ?_, fun x => by rw [ht]; exact Nat.zero_le _, fun k B _ x hx => by simp [ρ] at hx, fun k B hk x hx => ?_⟩
    · cases List.mem_singleton.1 hk; exact ⟨h0, rfl⟩
    · cases List.mem_singleton.1 hk; exact hx.elim
  · match j, hj with
    | 0, hj => cases hj; exact ⟨List.mem_singleton.2 rfl, rfl⟩
  · subst h2
    rw [hp] at h4
    refine ⟨v, .c (.lf (.bool fun _ => true)), [], H', ρ', h1, ⟨rfl, trivial⟩, rfl, ⟨fun k hk => by simp [num, dom] at hk, by simp [num], h4.h0, h4.hh, fun k B hk => by simp [num] at hk, fun x => by simp [num, tot], fun k B hk => by simp [num] at hk, fun k B hk => by simp [num] at hk⟩, ?_, h6⟩
    exact (RV.cl h5 rfl : _)
end Go.Proofs.Ytlochjpjlhkjaaa

