/- Parts of a proof. No conditions. -/

import Derived.Test.YtehpbaiclfilaaaGreatG04
set_option linter.unusedSimpArgs false
set_option linter.unusedVariables false
namespace Go.Proofs.YtehpbaiclfilaaaGreat
open Go
def jY : List (Nat × dV) → List (Nat × dV)
 | [] => []
 | p :: r => match Nat.blt p.1 100 with | true => p :: jY r | false => jY r
def qk (kp : List (Nat × dV)) : List Nat → List Nat
 | [] => []
 | k :: ks => if (kp.map (·.1)).contains k then qk kp ks else k :: qk kp ks
theorem O9 {kp : List (Nat × dV)} {p : Nat × dV} (h : p ∈ kp) (hl : p.1 < 100) : p ∈ jY kp := by
 induction kp with
 | nil => cases h
 | cons q kp ih =>
   simp only [jY];rcases List.mem_cons.1 h with rfl | h
   · rw [show Nat.blt p.1 100 = true by simpa [Nat.blt_eq] using hl]; exact List.mem_cons_self
   · split
     · exact List.mem_cons_of_mem _ (ih h)
     · exact ih h
def xq (tab : bf) (rs : List ResultVar) (v0 : V) (kp : List (Nat × dV)) (σ : SS) : Prop :=
 match uy tab σ rs with
 | some r0 =>
   match rA (.c .any) r0 9000000 with
   | (r', l) =>
     match mj l (closeAll (σ.af.map (·.1)) σ.af) with
     | some bs =>
       match oy bs (iz (iy (jY kp)) (hC (qk kp (fg r')) 100)) (iz (iy (jY kp)) (hC (qk kp (fg r')) 100)) with
       | some out =>
         if eQ ((iz (iy (jY kp)) (hC (qk kp (fg r')) 100)).map (·.1)) = true ∧ eQ ((iz (iy (jY kp)) (hC (qk kp (fg r')) 100)).map (·.2)) = true ∧ (r'.rH (iz (iy (jY kp)) (hC (qk kp (fg r')) 100))).cl = true then
          na out (jB kp) (mV (r'.rH (iz (iy (jY kp)) (hC (qk kp (fg r')) 100))) (v0) True)
         else False
       | none => False
     | none => False
 | none => False
section
variable {P : Program} {tab : bf} (hT : fw P tab = true) {Γ : Ctx} {H : Hp} {ρ : aG} {σ : SS} {a : Act} {w : World} (r : aI Γ H ρ σ a w)
include hT r
theorem O_ (bK : Γ.hd = []) {fn : Func} {v0 : V} {kp : List (Nat × dV)} (h : xq tab fn.results.toList v0 kp σ) :
   ∃ v, (results fn a.tmps).run P w = .ok v w ∧ ∃ H' ρ', gf w.heap Γ.H0 H' ρ' (jB kp) ∧ RV fK ρ' (av (jB kp)) (v0) v ∧ ∀ p ∈ jY kp, av σ.af p.1 → (ρ' p.1).1 = (ρ p.1).1 := by
 unfold xq at h
 split at h
 · rename_i rv s8;obtain ⟨v, hv, rC⟩ := yL hT r s8;cases hm : rA (.c .any) rv 9000000 with
   | mk xh l =>
   rw [hm] at h;simp only at h
   split at h
   · rename_i bs qh
     split at h
     · rename_i out xi
       split at h
       · rename_i hc;obtain ⟨kY, vj, fh⟩ := hc;obtain ⟨ρ1, r1, f1, f2⟩ := r.closeAll bK (ks := σ.af.map (·.1));obtain ⟨ρ2, r2, f3, f4⟩ := aI.mj (σ := { σ with af := Go.Proofs.YtehpbaiclfilaaaGreat.closeAll (σ.af.map (·.1)) σ.af }) r1 qh
         have hg : ∀ k, av σ.af k → av bs k ∧ (ρ2 k).1 = (ρ k).1 := fun k hk => by
           obtain ⟨q1, q2⟩ := f3 k (by show av (Go.Proofs.YtehpbaiclfilaaaGreat.closeAll (σ.af.map (·.1)) σ.af) k; rw [f2]; exact hk);exact ⟨q1, by rw [q2, f1]⟩
         have lN := C9 hg hm f4 hv;obtain ⟨rb, xj, gD⟩ := gf.fj xi kY vj r2.b;have xk := RV.rH xj lN;obtain ⟨xl, ot, gX⟩ := qj h;obtain ⟨_, xm⟩ := zC xl;have kN : av (jB kp) = av out := by funext k; simp only [av, ot]
         refine ⟨v, rC, H, _, rb.as ot gX, ?_, fun p hp => ?_⟩
         · rw [kN];exact xm (xk.cl fh)
         · have cA := C_ (l := hC (qk kp (fg xh)) 100) p hp;obtain ⟨q1, q2⟩ := gD _ _ cA;intro hd;show (ρ2 (inv _ p.1)).1 = _;rw [q2, (hg _ hd).2]
       · cases h
     · cases h
   · cases h
 · cases h
end
def zK (tab : bf) (rs : List ResultVar) (X : Type) (φ : X → Prop) (s : X → V) (kp : X → List (Nat × dV)) (σ : SS) : Prop := ∃ x : X, φ x ∧ xq tab rs (s x) (kp x) σ
theorem Pb {P : Program} {tab : bf} (hT : fw P tab = true) {f : FuncId} {fn : Func} {c : Code} (hf : P.funcs[f]? = some fn) (hb : fn.body = some c) (fE : (fn.name == "runtime.NumGoroutine") = false) {fr : Bool} (dY : fr = true → gC c = true)
  {as : List V} {bs : List (Nat × ak)} {X : Type} {φ : X → Prop} {s : X → V} {kp : X → List (Nat × dV)} {pk : List Nat} (ic : ∀ x, (jY (kp x)).map (·.1) = pk) (jA : pk.all (fun k => (bs.map (·.1)).contains k) = true)
  (aL : (bs.map (·.1)).all (fun k => decide (k < 100)) = true)
  (h : kX as → ml bs → rD P tab fr fn c as bs pk (zK tab fn.results.toList X φ s kp)) : bE P f as bs fun r b => ∃ x, φ x ∧ r = s x ∧ b = jB (kp x) := by
 refine ⟨⟨fn, hf, fE, by rw [hb]; rfl⟩, fun w vs ρ rE di => ?_⟩;refine calls_of_wp hf hb ?_
 have xn : ∀ k ∈ pk, av bs k := fun k hk => by
  have := List.all_eq_true.1 jA k hk;have : k ∈ bs.map (·.1) := List.contains_iff_mem.1 this;exact this
 let Γ : Ctx := ⟨fC w (aS ρ bs), [], w, pk.map fun k => (k, (ρ k).1)⟩
 have r : Rel Γ (oH as bs fn.ntmps) { tmps := vs ++ Array.replicate (fn.ntmps - vs.size) Go.undef, defers := [] } w := by
  refine ⟨fC w (aS ρ bs), ρ, ⟨rE, ⟨by simp [oH, di.1], fun j c hj => ?_⟩, rfl, Ext.refl _, (fun p hp => by cases hp), fun p hp => ?_⟩⟩
  · simp only [oH] at hj;rcases Nat.lt_or_ge j as.length with aL | lL
    · rw [List.getElem?_append_left aL] at hj;have := di.2 j c hj;rw [Array.getD_eq_getD_getElem?, Array.getElem?_append_left (by rw [di.1]; exact aL), ← Array.getD_eq_getD_getElem?];exact this
    · rw [List.getElem?_append_right lL, List.getElem?_replicate] at hj
      split at hj
      · cases hj; trivial
      · cases hj
  · obtain ⟨k, hk, rfl⟩ := List.mem_map.1 hp;exact ⟨xn k hk, rfl⟩
 refine zt hT rfl (pk := pk) (fun p hp => by obtain ⟨k, hk, rfl⟩ := List.mem_map.1 hp; exact hk) c dY (h (zx di.2) (Da fun k B hk => rE.af k B hk)) r fun e ax a' w' h' r' => ?_
 have done : zK tab fn.results.toList X φ s kp ax → ∃ v, (results fn a'.tmps).run P w' = .ok v w' ∧ ∃ v' r cd H' ρ', Ending.returned v = .returned v' ∧ (∃ x, φ x ∧ r = s x ∧ cd = jB (kp x)) ∧ gf w'.heap (fC w (aS ρ bs)) H' ρ' cd ∧
    RV fK ρ' (av cd) r v' ∧ Ext w w' ∧ ∀ k, av cd k → av bs k → (ρ' k).1 = (ρ k).1 := fun hf => by
  obtain ⟨x, hx, hf⟩ := hf;obtain ⟨H, ρ1, r'⟩ := r';obtain ⟨v, h1, H', ρ', h2, h3, h4⟩ := O_ hT r' rfl (fn := fn) hf;refine ⟨v, h1, v, _, _, H', ρ', rfl, ⟨x, hx, rfl, rfl⟩, h2, h3, r'.n, fun k hk pV => ?_⟩
  have cA : ∃ q ∈ kp x, q.1 = k := by
    have bD : k ∈ (jB (kp x)).map (·.1) := hk
    have key : ∀ (l : List (Nat × dV)), k ∈ (jB l).map (·.1) → ∃ q ∈ l, q.1 = k := by
      intro l
      induction l with
      | nil => intro h; cases h
      | cons q l ih =>
        intro h;simp only [jB, List.map_cons, List.mem_cons] at h;rcases h with h | h
        · exact ⟨q, List.mem_cons_self, h.symm⟩
        · obtain ⟨q', h1, h2⟩ := ih h;exact ⟨q', List.mem_cons_of_mem _ h1, h2⟩
    exact key _ bD
  obtain ⟨q, hq, rfl⟩ := cA
  have Pc : q.1 < 100 := by
    obtain ⟨B, hB⟩ := OP pV;have := List.all_eq_true.1 aL q.1 (List.mem_map.2 ⟨_, hB, rfl⟩);simpa using this
  have hq := O9 hq Pc;have xo : q.1 ∈ pk := by rw [← ic x]; exact List.mem_map.2 ⟨q, hq, rfl⟩
  have rF := r'.hm (q.1, (ρ q.1).1) (List.mem_map.2 ⟨q.1, xo, rfl⟩);rw [h4 q hq rF.1];exact rF.2
 have m_ : a'.defers = [] := by obtain ⟨H, ρ, r'⟩ := r'; exact r'.d
 cases e with
 | normal => obtain ⟨v, h1, h2⟩ := done h'; exact ⟨m_, v, h1, h2⟩
 | ret => obtain ⟨v, h1, h2⟩ := done h'; exact ⟨m_, v, h1, h2⟩
 | exit id => cases h'
 | goto l => cases h'
 | panic ch => cases h'
 | outgrown => cases h'
def Dk (v0 : V) (kp : List (Nat × dV)) (r : V) (b : List (Nat × ak)) : Prop := r = v0 ∧ b = jB kp
theorem Pd {P : Program} {tab : bf} (hT : fw P tab = true) {f : FuncId} {fn : Func} {c : Code} (hf : P.funcs[f]? = some fn) (hb : fn.body = some c) (fE : (fn.name == "runtime.NumGoroutine") = false) {fr : Bool} (dY : fr = true → gC c = true)
  {as : List V} {bs : List (Nat × ak)} {v0 : V} {kp : List (Nat × dV)} (jA : ((jY kp).map (·.1)).all (fun k => (bs.map (·.1)).contains k) = true) (aL : (bs.map (·.1)).all (fun k => decide (k < 100)) = true)
  (h : ∀ P', P' = P → kX as → ml bs → rD P' tab fr fn c as bs ((jY kp).map (·.1)) (xq tab fn.results.toList v0 kp)) : bE P f as bs (Dk v0 kp) := by
 have h1 : kX as → ml bs → rD P tab fr fn c as bs ((jY kp).map (·.1)) (zK tab fn.results.toList Unit (fun _ => True) (fun _ => v0) (fun _ => kp)) := by
  intro hA hB;have h0 := h P rfl hA hB
  have e : zK tab fn.results.toList Unit (fun _ => True) (fun _ => v0) (fun _ => kp) = xq tab fn.results.toList v0 kp := by
   funext σ
   exact propext ⟨fun ⟨_, _, h⟩ => h, fun h => ⟨(), trivial, h⟩⟩
  rw [e]; exact h0
 have h2 := Pb hT hf hb fE dY (X := Unit) (φ := fun _ => True) (s := fun _ => v0) (kp := fun _ => kp) (pk := (jY kp).map (·.1)) (fun _ => rfl) jA aL h1;refine ⟨h2.1, fun w vs ρ g1 g2 => (h2.2 w vs ρ g1 g2).mono fun e w' he => ?_⟩;obtain ⟨v, r, cd, H', ρ', q1, ⟨_, _, q2, q3⟩, q4⟩ := he;exact ⟨v, r, cd, H', ρ', q1, ⟨q2, q3⟩, q4⟩
theorem aB.rL {P P0 : Program} {f : FuncId} {as : List V} {bs : List (Nat × ak)} {K : V → List (Nat × ak) → Prop} {v0 : V} {kp : List (Nat × dV)} (hP : P = P0) (h : bE P0 f as bs (Dk v0 kp)) (hk : K v0 (jB kp)) : aB P f as bs K := by
 subst hP;exact ⟨_, h, fun r b ⟨h1, h2⟩ => by rw [h1, h2]; exact hk⟩
end Go.Proofs.YtehpbaiclfilaaaGreat

