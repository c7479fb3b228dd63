/- Parts of a proof. No conditions. -/

import Derived.Test.YticeaiiffeccmaaGreatG04
set_option linter.unusedSimpArgs false
set_option linter.unusedVariables false
namespace Go.Proofs.YticeaiiffeccmaaGreat
open Go
def jC : List (Nat × dV) → List (Nat × dV)
 | [] => []
 | p :: r => match Nat.blt p.1 100 with | true => p :: jC r | false => jC r
def pw (kp : List (Nat × dV)) : List Nat → List Nat
 | [] => []
 | k :: ks => if (kp.map (·.1)).contains k then pw kp ks else k :: pw kp ks
theorem Qt {kp : List (Nat × dV)} {p : Nat × dV} (h : p ∈ kp) (hl : p.1 < 100) : p ∈ jC kp := by
 induction kp with
 | nil => cases h
 | cons q kp ih =>
   simp only [jC];rcases List.mem_cons.1 h with rfl | h
   · rw [show Nat.blt p.1 100 = true by simpa [Nat.blt_eq] using hl]; exact List.mem_cons_self
   · split
     · exact List.mem_cons_of_mem _ (ih h)
     · exact ih h
def wx (tab : bj) (rs : List ResultVar) (v0 : V) (kp : List (Nat × dV)) (σ : SS) : Prop :=
 match sA tab σ rs with
 | some r0 =>
   match qh (.c .any) r0 9000000 with
   | (r', l) =>
     match lZ l (closeAll (σ.ai.map (·.1)) σ.ai) with
     | some bs =>
       match nF bs (hX (hO (jC kp)) (gL (pw kp (eK r')) 100)) (hX (hO (jC kp)) (gL (pw kp (eK r')) 100)) with
       | some out =>
         if eB ((hX (hO (jC kp)) (gL (pw kp (eK r')) 100)).map (·.1)) = true ∧ eB ((hX (hO (jC kp)) (gL (pw kp (eK r')) 100)).map (·.2)) = true ∧ (r'.qm (hX (hO (jC kp)) (gL (pw kp (eK r')) 100))).cl = true then
          mO out (iQ kp) (mV (r'.qm (hX (hO (jC kp)) (gL (pw kp (eK r')) 100))) (v0) True)
         else False
       | none => False
     | none => False
 | none => False
section
variable {P : Program} {tab : bj} (hT : eW P tab = true) {Γ : Ctx} {H : Hp} {ρ : aL} {σ : SS} {a : Act} {w : World} (r : aM Γ H ρ σ a w)
include hT r
theorem Qu (bN : Γ.hd = []) {fn : Func} {v0 : V} {kp : List (Nat × dV)} (h : wx tab fn.results.toList v0 kp σ) :
   ∃ v, (results fn a.tmps).run P w = .ok v w ∧ ∃ H' ρ', fM w.heap Γ.H0 H' ρ' (iQ kp) ∧ RV fv ρ' (ax (iQ kp)) (v0) v ∧ ∀ p ∈ jC kp, ax σ.ai p.1 → (ρ' p.1).1 = (ρ p.1).1 := by
 unfold wx at h
 split at h
 · rename_i rv qU;obtain ⟨v, hv, vg⟩ := w5 hT r qU;cases hm : qh (.c .any) rv 9000000 with
   | mk vh l =>
   rw [hm] at h;simp only at h
   split at h
   · rename_i bs oV
     split at h
     · rename_i out vi
       split at h
       · rename_i hc;obtain ⟨ku, vj, fc⟩ := hc;obtain ⟨ρ1, r1, f1, f2⟩ := r.closeAll bN (ks := σ.ai.map (·.1));obtain ⟨ρ2, r2, f3, f4⟩ := aM.lZ (σ := { σ with ai := Go.Proofs.YticeaiiffeccmaaGreat.closeAll (σ.ai.map (·.1)) σ.ai }) r1 oV
         have hg : ∀ k, ax σ.ai k → ax bs k ∧ (ρ2 k).1 = (ρ k).1 := fun k hk => by
           obtain ⟨q1, q2⟩ := f3 k (by show ax (Go.Proofs.YticeaiiffeccmaaGreat.closeAll (σ.ai.map (·.1)) σ.ai) k; rw [f2]; exact hk);exact ⟨q1, by rw [q2, f1]⟩
         have mP := A2 hg hm f4 hv;obtain ⟨rb, vk, fX⟩ := fM.ik vi ku vj r2.b;have vl := RV.qm vk mP;obtain ⟨vm, nB, iO⟩ := oW h;obtain ⟨_, vn⟩ := xU vm;have kb : ax (iQ kp) = ax out := by funext k; simp only [ax, nB]
         refine ⟨v, vg, H, _, rb.as nB iO, ?_, fun p hp => ?_⟩
         · rw [kb];exact vn (vl.cl fc)
         · have de := A3 (l := gL (pw kp (eK vh)) 100) p hp;obtain ⟨q1, q2⟩ := fX _ _ de;intro hd;show (ρ2 (inv _ p.1)).1 = _;rw [q2, (hg _ hd).2]
       · cases h
     · cases h
   · cases h
 · cases h
end
def yO (tab : bj) (rs : List ResultVar) (X : Type) (φ : X → Prop) (s : X → V) (kp : X → List (Nat × dV)) (σ : SS) : Prop := ∃ x : X, φ x ∧ wx tab rs (s x) (kp x) σ
theorem Qv {P : Program} {tab : bj} (hT : eW P tab = true) {f : FuncId} {fn : Func} {c : Code} (hf : P.funcs[f]? = some fn) (hb : fn.body = some c) (hF : (fn.name == "runtime.NumGoroutine") = false) {fr : Bool} (eO : fr = true → fW c = true)
  {as : List V} {bs : List (Nat × ar)} {X : Type} {φ : X → Prop} {s : X → V} {kp : X → List (Nat × dV)} {pk : List Nat} (jq : ∀ x, (jC (kp x)).map (·.1) = pk) (jt : pk.all (fun k => (bs.map (·.1)).contains k) = true)
  (aR : (bs.map (·.1)).all (fun k => decide (k < 100)) = true)
  (h : jQ as → k8 bs → oX P tab fr fn c as bs pk (yO tab fn.results.toList X φ s kp)) : cB P f as bs fun r b => ∃ x, φ x ∧ r = s x ∧ b = iQ (kp x) := by
 refine ⟨⟨fn, hf, hF, by rw [hb]; rfl⟩, fun w vs ρ qj dO => ?_⟩;refine calls_of_wp hf hb ?_
 have vo : ∀ k ∈ pk, ax bs k := fun k hk => by
  have := List.all_eq_true.1 jt k hk;have : k ∈ bs.map (·.1) := List.contains_iff_mem.1 this;exact this
 let Γ : Ctx := ⟨fD w (aS ρ bs), [], w, pk.map fun k => (k, (ρ k).1)⟩
 have r : Rel Γ (nL as bs fn.ntmps) { tmps := vs ++ Array.replicate (fn.ntmps - vs.size) Go.undef, defers := [] } w := by
  refine ⟨fD w (aS ρ bs), ρ, ⟨qj, ⟨by simp [nL, dO.1], fun j c hj => ?_⟩, rfl, Ext.refl _, (fun p hp => by cases hp), fun p hp => ?_⟩⟩
  · simp only [nL] at hj;rcases Nat.lt_or_ge j as.length with aR | gK
    · rw [List.getElem?_append_left aR] at hj;have := dO.2 j c hj;rw [Array.getD_eq_getD_getElem?, Array.getElem?_append_left (by rw [dO.1]; exact aR), ← Array.getD_eq_getD_getElem?];exact this
    · rw [List.getElem?_append_right gK, List.getElem?_replicate] at hj
      split at hj
      · cases hj; trivial
      · cases hj
  · obtain ⟨k, hk, rfl⟩ := List.mem_map.1 hp;exact ⟨vo k hk, rfl⟩
 refine xL hT rfl (pk := pk) (fun p hp => by obtain ⟨k, hk, rfl⟩ := List.mem_map.1 hp; exact hk) c eO (h (xP dO.2) (A4 fun k B hk => qj.ai k B hk)) r fun e aD a' w' h' r' => ?_
 have done : yO tab fn.results.toList X φ s kp aD → ∃ v, (results fn a'.tmps).run P w' = .ok v w' ∧ ∃ v' r cf H' ρ', Ending.returned v = .returned v' ∧ (∃ x, φ x ∧ r = s x ∧ cf = iQ (kp x)) ∧ fM w'.heap (fD w (aS ρ bs)) H' ρ' cf ∧
    RV fv ρ' (ax cf) r v' ∧ Ext w w' ∧ ∀ k, ax cf k → ax bs k → (ρ' k).1 = (ρ k).1 := fun hf => by
  obtain ⟨x, hx, hf⟩ := hf;obtain ⟨H, ρ1, r'⟩ := r';obtain ⟨v, h1, H', ρ', h2, h3, h4⟩ := Qu hT r' rfl (fn := fn) hf;refine ⟨v, h1, v, _, _, H', ρ', rfl, ⟨x, hx, rfl, rfl⟩, h2, h3, r'.n, fun k hk oH => ?_⟩
  have de : ∃ q ∈ kp x, q.1 = k := by
    have bC : k ∈ (iQ (kp x)).map (·.1) := hk
    have key : ∀ (l : List (Nat × dV)), k ∈ (iQ l).map (·.1) → ∃ q ∈ l, q.1 = k := by
      intro l
      induction l with
      | nil => intro h; cases h
      | cons q l ih =>
        intro h;simp only [iQ, List.map_cons, List.mem_cons] at h;rcases h with h | h
        · exact ⟨q, List.mem_cons_self, h.symm⟩
        · obtain ⟨q', h1, h2⟩ := ih h;exact ⟨q', List.mem_cons_of_mem _ h1, h2⟩
    exact key _ bC
  obtain ⟨q, hq, rfl⟩ := de
  have Qw : q.1 < 100 := by
    obtain ⟨B, hB⟩ := L1 oH;have := List.all_eq_true.1 aR q.1 (List.mem_map.2 ⟨_, hB, rfl⟩);simpa using this
  have hq := Qt hq Qw;have vp : q.1 ∈ pk := by rw [← jq x]; exact List.mem_map.2 ⟨q, hq, rfl⟩
  have qk := r'.hm (q.1, (ρ q.1).1) (List.mem_map.2 ⟨q.1, vp, rfl⟩);rw [h4 q hq qk.1];exact qk.2
 have mM : a'.defers = [] := by obtain ⟨H, ρ, r'⟩ := r'; exact r'.d
 cases e with
 | normal => obtain ⟨v, h1, h2⟩ := done h'; exact ⟨mM, v, h1, h2⟩
 | ret => obtain ⟨v, h1, h2⟩ := done h'; exact ⟨mM, v, h1, h2⟩
 | exit id => cases h'
 | goto l => cases h'
 | panic ch => cases h'
 | outgrown => cases h'
def CI (v0 : V) (kp : List (Nat × dV)) (r : V) (b : List (Nat × ar)) : Prop := r = v0 ∧ b = iQ kp
theorem Qx {P : Program} {tab : bj} (hT : eW P tab = true) {f : FuncId} {fn : Func} {c : Code} (hf : P.funcs[f]? = some fn) (hb : fn.body = some c) (hF : (fn.name == "runtime.NumGoroutine") = false) {fr : Bool} (eO : fr = true → fW c = true)
  {as : List V} {bs : List (Nat × ar)} {v0 : V} {kp : List (Nat × dV)} (jt : ((jC kp).map (·.1)).all (fun k => (bs.map (·.1)).contains k) = true) (aR : (bs.map (·.1)).all (fun k => decide (k < 100)) = true)
  (h : ∀ P', P' = P → jQ as → k8 bs → oX P' tab fr fn c as bs ((jC kp).map (·.1)) (wx tab fn.results.toList v0 kp)) : cB P f as bs (CI v0 kp) := by
 have h1 : jQ as → k8 bs → oX P tab fr fn c as bs ((jC kp).map (·.1)) (yO tab fn.results.toList Unit (fun _ => True) (fun _ => v0) (fun _ => kp)) := by
  intro hA hB;have h0 := h P rfl hA hB
  have e : yO tab fn.results.toList Unit (fun _ => True) (fun _ => v0) (fun _ => kp) = wx tab fn.results.toList v0 kp := by
   funext σ
   exact propext ⟨fun ⟨_, _, h⟩ => h, fun h => ⟨(), trivial, h⟩⟩
  rw [e]; exact h0
 have h2 := Qv hT hf hb hF eO (X := Unit) (φ := fun _ => True) (s := fun _ => v0) (kp := fun _ => kp) (pk := (jC kp).map (·.1)) (fun _ => rfl) jt aR h1;refine ⟨h2.1, fun w vs ρ g1 g2 => (h2.2 w vs ρ g1 g2).mono fun e w' he => ?_⟩;obtain ⟨v, r, cf, H', ρ', q1, ⟨_, _, q2, q3⟩, q4⟩ := he;exact ⟨v, r, cf, H', ρ', q1, ⟨q2, q3⟩, q4⟩
theorem bB.Qy {P P0 : Program} {f : FuncId} {as : List V} {bs : List (Nat × ar)} {K : V → List (Nat × ar) → Prop} {v0 : V} {kp : List (Nat × dV)} (hP : P = P0) (h : cB P0 f as bs (CI v0 kp)) (hk : K v0 (iQ kp)) : bB P f as bs K := by
 subst hP;exact ⟨_, h, fun r b ⟨h1, h2⟩ => by rw [h1, h2]; exact hk⟩
end Go.Proofs.YticeaiiffeccmaaGreat

