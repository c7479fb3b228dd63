/- Parts of a proof. No conditions. -/

import Derived.Test.YtlochjpjlhkjaaaG04
set_option linter.unusedSimpArgs false
set_option linter.unusedVariables false
namespace Go.Proofs.Ytlochjpjlhkjaaa
open Go
def oldK : List (Nat × KSh) → List (Nat × KSh)
  | [] => []
  | p :: r => match Nat.blt p.1 100 with | true => p :: oldK r | false => oldK r
def newNs (kp : List (Nat × KSh)) : List Nat → List Nat
  | [] => []
  | k :: ks => if (kp.map (·.1)).contains k then newNs kp ks else k :: newNs kp ks
theorem oldK_mem {kp : List (Nat × KSh)} {p : Nat × KSh} (h : p ∈ kp) (hl : p.1 < 100) : p ∈ oldK kp := by
  induction kp with
  | nil => cases h
  | cons q kp ih =>
    simp only [oldK]
    rcases List.mem_cons.1 h with rfl | h
    · rw [show Nat.blt p.1 100 = true by simpa [Nat.blt_eq] using hl]; exact List.mem_cons_self
    · split
      · exact List.mem_cons_of_mem _ (ih h)
      · exact ih h
def finMK (tab : Tab) (rs : List ResultVar) (v0 : V) (kp : List (Nat × KSh)) (σ : SS) : Prop :=
  match resultV tab σ rs with
  | some r0 =>
    match matV (.c .any) r0 9000000 with
    | (r', l) =>
      match insMat l (closeAll (σ.blk.map (·.1)) σ.blk) with
      | some bs =>
        match keepB bs (appN (selfN (oldK kp)) (newN (newNs kp (namesV r')) 100)) (appN (selfN (oldK kp)) (newN (newNs kp (namesV r')) 100)) with
        | some out =>
          if nodupB ((appN (selfN (oldK kp)) (newN (newNs kp (namesV r')) 100)).map (·.1)) = true ∧ nodupB ((appN (selfN (oldK kp)) (newN (newNs kp (namesV r')) 100)).map (·.2)) = true ∧ (r'.scrV (appN (selfN (oldK kp)) (newN (newNs kp (namesV r')) 100))).cl = true then
            mBs out (kblks kp) (mV (r'.scrV (appN (selfN (oldK kp)) (newN (newNs kp (namesV r')) 100))) (v0) True)
          else False
        | none => False
      | none => False
  | none => False
section
variable {P : Program} {tab : Tab} (hT : tabB P tab = true) {Γ : Ctx} {H : Hp} {ρ : Rho} {σ : SS} {a : Act} {w : World} (r : RelH Γ H ρ σ a w)
include hT r
theorem finMK_ok (hd0 : Γ.hd = []) {fn : Func} {v0 : V} {kp : List (Nat × KSh)} (h : finMK tab fn.results.toList v0 kp σ) :
    ∃ v, (results fn a.tmps).run P w = .ok v w ∧ ∃ H' ρ', RelB w.heap Γ.H0 H' ρ' (kblks kp) ∧ RV noH ρ' (dom (kblks kp)) (v0) v ∧ ∀ p ∈ oldK kp, dom σ.blk p.1 → (ρ' p.1).1 = (ρ p.1).1 := by
  unfold finMK at h
  split at h
  · rename_i rv hrv
    obtain ⟨v, hv, hres⟩ := run_result hT r hrv
    cases hm : matV (.c .any) rv 9000000 with
    | mk rv' l =>
    rw [hm] at h
    simp only at h
    split at h
    · rename_i bs hbs
      split at h
      · rename_i out hout
        split at h
        · rename_i hc
          obtain ⟨hn1, hn2, hcl⟩ := hc
          obtain ⟨ρ1, r1, f1, f2⟩ := r.closeAll hd0 (ks := σ.blk.map (·.1))
          obtain ⟨ρ2, r2, f3, f4⟩ := RelH.insMat (σ := { σ with blk := Go.Proofs.Ytlochjpjlhkjaaa.closeAll (σ.blk.map (·.1)) σ.blk }) r1 hbs
          have hg : ∀ k, dom σ.blk k → dom bs k ∧ (ρ2 k).1 = (ρ k).1 := fun k hk => by
            obtain ⟨q1, q2⟩ := f3 k (by show dom (Go.Proofs.Ytlochjpjlhkjaaa.closeAll (σ.blk.map (·.1)) σ.blk) k; rw [f2]; exact hk)
            exact ⟨q1, by rw [q2, f1]⟩
          have hv2 := matV_ok hg hm f4 hv
          obtain ⟨rb, hlk, hall⟩ := RelB.keep hout hn1 hn2 r2.b
          have hv3 := RV.scrV hlk hv2
          obtain ⟨hmv, hkeys, hblk⟩ := mBs_ok h
          obtain ⟨_, hvv⟩ := mV_ok hmv
          have hdom : dom (kblks kp) = dom out := by funext k; simp only [dom, hkeys]
          refine ⟨v, hres, H, _, rb.as hkeys hblk, ?_, fun p hp => ?_⟩
          · rw [hdom]
            exact hvv (hv3.cl hcl)
          · have hmem := appN_self (l := newN (newNs kp (namesV rv')) 100) p hp
            obtain ⟨q1, q2⟩ := hall _ _ hmem
            intro hd
            show (ρ2 (inv _ p.1)).1 = _
            rw [q2, (hg _ hd).2]
        · cases h
      · cases h
    · cases h
  · cases h
end
def FinMK (tab : Tab) (rs : List ResultVar) (X : Type) (φ : X → Prop) (s : X → V) (kp : X → List (Nat × KSh)) (σ : SS) : Prop := ∃ x : X, φ x ∧ finMK tab rs (s x) (kp x) σ
theorem specMK_of_vc {P : Program} {tab : Tab} (hT : tabB P tab = true) {f : FuncId} {fn : Func} {c : Code} (hf : P.funcs[f]? = some fn) (hb : fn.body = some c) (hnm : (fn.name == "runtime.NumGoroutine") = false) {fr : Bool} (hfr : fr = true → codeFree c = true)
    {as : List V} {bs : List (Nat × Blk)} {X : Type} {φ : X → Prop} {s : X → V} {kp : X → List (Nat × KSh)} {pk : List Nat} (hpk : ∀ x, (oldK (kp x)).map (·.1) = pk) (hpb : pk.all (fun k => (bs.map (·.1)).contains k) = true)
    (hlt : (bs.map (·.1)).all (fun k => decide (k < 100)) = true)
    (h : okAs as → okBs bs → vcFuncM P tab fr fn c as bs pk (FinMK tab fn.results.toList X φ s kp)) : SpecM P f as bs fun r b => ∃ x, φ x ∧ r = s x ∧ b = kblks (kp x) := by
  refine ⟨⟨fn, hf, hnm, by rw [hb]; rfl⟩, fun w vs ρ hrel hargs => ?_⟩
  refine calls_of_wp hf hb ?_
  have hpb' : ∀ k ∈ pk, dom bs k := fun k hk => by
    have := List.all_eq_true.1 hpb k hk
    have : k ∈ bs.map (·.1) := List.contains_iff_mem.1 this
    exact this
  let Γ : Ctx := ⟨hpOf w (tot ρ bs), [], w, pk.map fun k => (k, (ρ k).1)⟩
  have r : Rel Γ (startM as bs fn.ntmps) { tmps := vs ++ Array.replicate (fn.ntmps - vs.size) Go.undef, defers := [] } w := by
    refine ⟨hpOf w (tot ρ bs), ρ, ⟨hrel, ⟨by simp [startM, hargs.1], fun j c hj => ?_⟩, rfl, Ext.refl _, (fun p hp => by cases hp), fun p hp => ?_⟩⟩
    · simp only [startM] at hj
      rcases Nat.lt_or_ge j as.length with hlt | hge
      · rw [List.getElem?_append_left hlt] at hj
        have := hargs.2 j c hj
        rw [Array.getD_eq_getD_getElem?, Array.getElem?_append_left (by rw [hargs.1]; exact hlt), ← Array.getD_eq_getD_getElem?]
        exact this
      · rw [List.getElem?_append_right hge, List.getElem?_replicate] at hj
        split at hj
        · cases hj; trivial
        · cases hj
    · obtain ⟨k, hk, rfl⟩ := List.mem_map.1 hp
      exact ⟨hpb' k hk, rfl⟩
  refine vcCode_ok hT rfl (pk := pk) (fun p hp => by obtain ⟨k, hk, rfl⟩ := List.mem_map.1 hp; exact hk) c hfr (h (args_ok hargs.2) (okBs_ok fun k B hk => hrel.blk k B hk)) r fun e σ' a' w' h' r' => ?_
  have done : FinMK tab fn.results.toList X φ s kp σ' → ∃ v, (results fn a'.tmps).run P w' = .ok v w' ∧ ∃ v' r bs' H' ρ', Ending.returned v = .returned v' ∧ (∃ x, φ x ∧ r = s x ∧ bs' = kblks (kp x)) ∧ RelB w'.heap (hpOf w (tot ρ bs)) H' ρ' bs' ∧
      RV noH ρ' (dom bs') r v' ∧ Ext w w' ∧ ∀ k, dom bs' k → dom bs k → (ρ' k).1 = (ρ k).1 := fun hf => by
    obtain ⟨x, hx, hf⟩ := hf
    obtain ⟨H, ρ1, r'⟩ := r'
    obtain ⟨v, h1, H', ρ', h2, h3, h4⟩ := finMK_ok hT r' rfl (fn := fn) hf
    refine ⟨v, h1, v, _, _, H', ρ', rfl, ⟨x, hx, rfl, rfl⟩, h2, h3, r'.n, fun k hk hkb => ?_⟩
    have hmem : ∃ q ∈ kp x, q.1 = k := by
      have hk' : k ∈ (kblks (kp x)).map (·.1) := hk
      have key : ∀ (l : List (Nat × KSh)), k ∈ (kblks l).map (·.1) → ∃ q ∈ l, q.1 = k := by
        intro l
        induction l with
        | nil => intro h; cases h
        | cons q l ih =>
          intro h
          simp only [kblks, List.map_cons, List.mem_cons] at h
          rcases h with h | h
          · exact ⟨q, List.mem_cons_self, h.symm⟩
          · obtain ⟨q', h1, h2⟩ := ih h
            exact ⟨q', List.mem_cons_of_mem _ h1, h2⟩
      exact key _ hk'
    obtain ⟨q, hq, rfl⟩ := hmem
    have hql : q.1 < 100 := by
      obtain ⟨B, hB⟩ := dom_mem hkb
      have := List.all_eq_true.1 hlt q.1 (List.mem_map.2 ⟨_, hB, rfl⟩)
      simpa using this
    have hq := oldK_mem hq hql
    have hqk : q.1 ∈ pk := by rw [← hpk x]; exact List.mem_map.2 ⟨q, hq, rfl⟩
    have hhm := r'.hm (q.1, (ρ q.1).1) (List.mem_map.2 ⟨q.1, hqk, rfl⟩)
    rw [h4 q hq hhm.1]
    exact hhm.2
  have hdf : a'.defers = [] := by obtain ⟨H, ρ, r'⟩ := r'; exact r'.d
  cases e with
  | normal => obtain ⟨v, h1, h2⟩ := done h'; exact ⟨hdf, v, h1, h2⟩
  | ret => obtain ⟨v, h1, h2⟩ := done h'; exact ⟨hdf, v, h1, h2⟩
  | exit id => cases h'
  | goto l => cases h'
  | panic ch => cases h'
  | outgrown => cases h'
def RetK (v0 : V) (kp : List (Nat × KSh)) (r : V) (b : List (Nat × Blk)) : Prop := r = v0 ∧ b = kblks kp
theorem specMK_of {P : Program} {tab : Tab} (hT : tabB P tab = true) {f : FuncId} {fn : Func} {c : Code} (hf : P.funcs[f]? = some fn) (hb : fn.body = some c) (hnm : (fn.name == "runtime.NumGoroutine") = false) {fr : Bool} (hfr : fr = true → codeFree c = true)
    {as : List V} {bs : List (Nat × Blk)} {v0 : V} {kp : List (Nat × KSh)} (hpb : ((oldK kp).map (·.1)).all (fun k => (bs.map (·.1)).contains k) = true) (hlt : (bs.map (·.1)).all (fun k => decide (k < 100)) = true)
    (h : ∀ P', P' = P → okAs as → okBs bs → vcFuncM P' tab fr fn c as bs ((oldK kp).map (·.1)) (finMK tab fn.results.toList v0 kp)) : SpecM P f as bs (RetK v0 kp) := by
  have h1 : okAs as → okBs bs → vcFuncM P tab fr fn c as bs ((oldK kp).map (·.1)) (FinMK tab fn.results.toList Unit (fun _ => True) (fun _ => v0) (fun _ => kp)) := by
    intro hA hB
    have h0 := h P rfl hA hB
    have e : FinMK tab fn.results.toList Unit (fun _ => True) (fun _ => v0) (fun _ => kp) = finMK tab fn.results.toList v0 kp := by
      funext σ
      exact propext ⟨fun ⟨_, _, h⟩ => h, fun h => ⟨(), trivial, h⟩⟩
    rw [e]; exact h0
  have h2 := specMK_of_vc hT hf hb hnm hfr (X := Unit) (φ := fun _ => True) (s := fun _ => v0) (kp := fun _ => kp) (pk := (oldK kp).map (·.1)) (fun _ => rfl) hpb hlt h1
  refine ⟨h2.1, fun w vs ρ g1 g2 => (h2.2 w vs ρ g1 g2).mono fun e w' he => ?_⟩
  obtain ⟨v, r, bs', H', ρ', q1, ⟨_, _, q2, q3⟩, q4⟩ := he
  exact ⟨v, r, bs', H', ρ', q1, ⟨q2, q3⟩, q4⟩
theorem CallM.byK {P P0 : Program} {f : FuncId} {as : List V} {bs : List (Nat × Blk)} {K : V → List (Nat × Blk) → Prop} {v0 : V} {kp : List (Nat × KSh)} (hP : P = P0) (h : SpecM P0 f as bs (RetK v0 kp)) (hk : K v0 (kblks kp)) : CallM P f as bs K := by
  subst hP
  exact ⟨_, h, fun r b ⟨h1, h2⟩ => by rw [h1, h2]; exact hk⟩
end Go.Proofs.Ytlochjpjlhkjaaa

