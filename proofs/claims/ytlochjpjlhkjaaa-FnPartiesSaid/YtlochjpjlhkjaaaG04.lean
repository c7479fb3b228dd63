/- Parts of a proof. No conditions. -/

import Derived.Test.YtlochjpjlhkjaaaG03
set_option linter.unusedSimpArgs false
set_option linter.unusedVariables false
namespace Go.Proofs.Ytlochjpjlhkjaaa
open Go
theorem getB_of_mem {bs : List (Nat × Blk)} (hn : (bs.map (·.1)).Nodup) {k : Nat} {B : Blk} (h : (k, B) ∈ bs) : getB bs k = some B := by
  induction bs with
  | nil => cases h
  | cons p r ih =>
    simp only [List.map_cons, List.nodup_cons] at hn
    simp only [getB]
    cases h with
    | head => simp
    | tail _ h =>
      rw [if_neg fun he => hn.1 (by rw [he]; exact List.mem_map.2 ⟨_, h, rfl⟩)]
      exact ih hn.2 h
theorem lk_mem {m : List (Nat × Nat)} {k k' : Nat} (h : lk m k = some k') : (k, k') ∈ m := by
  induction m with
  | nil => cases h
  | cons p r ih =>
    simp only [lk] at h
    split at h
    · rename_i hp; cases h; subst hp; exact List.mem_cons_self
    · exact List.mem_cons_of_mem _ (ih h)
def inv : List (Nat × Nat) → Nat → Nat
  | [], _ => 0
  | p :: r, k => if p.2 = k then p.1 else inv r k
theorem nodupB_map2 {m : List (Nat × Nat)} (h : nodupB (m.map (·.2)) = true) {k k' : Nat} (hm : (k, k') ∈ m) : inv m k' = k := by
  induction m with
  | nil => cases hm
  | cons p r ih =>
    simp only [List.map_cons] at h
    obtain ⟨h1, h2⟩ := nodupB_cons h
    simp only [inv]
    cases hm with
    | head => simp
    | tail _ hm =>
      rw [if_neg fun he => h1 (by rw [he]; exact List.mem_map.2 ⟨_, hm, rfl⟩)]
      exact ih h2 hm
theorem nodupB_nodup {l : List Nat} (h : nodupB l = true) : l.Nodup := by
  induction l with
  | nil => simp
  | cons x l ih => obtain ⟨h1, h2⟩ := nodupB_cons h; exact List.nodup_cons.2 ⟨h1, ih h2⟩
theorem keepB_spec {bs : List (Nat × Blk)} {m : List (Nat × Nat)} : ∀ {l : List (Nat × Nat)} {out : List (Nat × Blk)}, keepB bs m l = some out →
    out.map (·.1) = l.map (·.2) ∧ (∀ q, q ∈ out → ∃ k B, (k, q.1) ∈ l ∧ getB bs k = some B ∧ q.2 = B.scr m ∧ (B.isHol m = true → False)) ∧ (∀ p ∈ l, ∃ B, getB bs p.1 = some B)
  | [], out, h => by simp only [keepB, Option.some.injEq] at h; subst h; exact ⟨rfl, (fun q hq => by cases hq), (fun p hp => by cases hp)⟩
  | p :: l, out, h => by
    simp only [keepB] at h
    split at h
    · rename_i B l' hB hl
      split at h
      · cases h
      rename_i hol
      cases h
      obtain ⟨h1, h2, h3⟩ := keepB_spec hl
      refine ⟨by simp [h1], fun q hq => ?_, fun q hq => ?_⟩
      · cases hq with
        | head => exact ⟨p.1, B, List.mem_cons_self, hB, rfl, hol⟩
        | tail _ hq => obtain ⟨k, A, g1, g2, g3⟩ := h2 q hq; exact ⟨k, A, List.mem_cons_of_mem _ g1, g2, g3⟩
      · cases hq with
        | head => exact ⟨B, hB⟩
        | tail _ hq => exact h3 q hq
    · cases h
section
variable {H : Hp} {ρ ρ' : Rho} {D D' : Nat → Prop} {m : List (Nat × Nat)} (hm : ∀ k k', lk m k = some k' → D' k' ∧ (ρ' k').1 = (ρ k).1)
include hm
theorem RC.scr {c : C} {v : Value} (h : RC H ρ D c v) : RC H ρ' D' (c.scr m) v := by
  cases c with
  | lf l => exact h
  | bl b => exact h
  | nil => exact h
  | own k =>
    simp only [C.scr]
    split
    · rename_i k' hk; obtain ⟨_, h1⟩ := h; exact ⟨(hm k k' hk).1, by rw [(hm k k' hk).2]; exact h1⟩
    · trivial
  | ptr k off =>
    simp only [C.scr]
    split
    · rename_i k' hk; obtain ⟨_, b, h1, h2⟩ := h; exact ⟨(hm k k' hk).1, b, by rw [(hm k k' hk).2]; exact h1, h2⟩
    · trivial
  | el E x off => exact h
  | pcs ls off => exact h
  | oel k E i off =>
    simp only [C.scr]
    split
    · rename_i k' hk; obtain ⟨_, b, o, n, c, h1, h2⟩ := h; exact ⟨(hm k k' hk).1, b, o, n, c, by rw [(hm k k' hk).2]; exact h1, h2⟩
    · trivial
  | fn f caps =>
    simp only [C.scr]
    split
    · rename_i hc
      obtain ⟨vs, h1, h2, h3⟩ := h
      refine ⟨vs, h1, h2, fun j c hj => ?_⟩
      have hrd := List.all_eq_true.1 hc c (List.mem_of_getElem? hj)
      have := h3 j c hj
      cases c with
      | ptr k off => cases hrd
      | el E x off => exact this
      | pcs ls off => exact this
    · trivial
  | undef => trivial
omit hm in
theorem scrL_get : ∀ {cs : List C} {j : Nat} {c : C}, (scrL m cs)[j]? = some c → ∃ c0, cs[j]? = some c0 ∧ c = c0.scr m
  | [], j, c, h => by simp [scrL] at h
  | c0 :: cs, 0, c, h => by simp [scrL] at h; exact ⟨c0, rfl, h.symm⟩
  | c0 :: cs, j + 1, c, h => by simp only [scrL, List.getElem?_cons_succ] at h ⊢; exact scrL_get h
omit hm in
theorem scrL_len : ∀ {cs : List C}, (scrL m cs).length = cs.length
  | [] => rfl
  | c :: cs => by simp [scrL, scrL_len (cs := cs)]
theorem RCs.scr {cs : List C} {vs : Array Value} (h : RCs H ρ D cs vs) : RCs H ρ' D' (scrL m cs) vs := by
  refine ⟨by rw [scrL_len]; exact h.1, fun j c hj => ?_⟩
  obtain ⟨c0, h1, rfl⟩ := scrL_get hj
  exact (h.2 j c0 h1).scr hm
theorem RV.scr {c : V} {v : Value} (h : RV H ρ D c v) : RV H ρ' D' (c.scr m) v := by
  cases c with
  | c x => exact RC.scr hm h
  | agg cs => obtain ⟨vs, h1, h2⟩ := h; exact ⟨vs, h1, h2.scr hm⟩
  | tup cs =>
    cases cs with
    | nil => obtain ⟨vs, h1, h2, h3⟩ := h; exact ⟨vs, h1, h2, fun j p hj => by simp at hj⟩
    | cons p ps => trivial
omit hm in
theorem keepE_get {L : List Nat} : ∀ {vs : List V} {i j : Nat} {c : V}, (keepE L m i vs)[j]? = some c → c = .c .undef ∨ ∃ c0, vs[j]? = some c0 ∧ c = c0.scr m
  | [], i, j, c, h => by simp [keepE] at h
  | v :: vs, i, 0, c, h => by
    simp only [keepE, List.getElem?_cons_zero, Option.some.injEq] at h
    split at h
    · exact .inr ⟨v, rfl, h.symm⟩
    · exact .inl h.symm
  | v :: vs, i, j + 1, c, h => by simp only [keepE, List.getElem?_cons_succ] at h ⊢; exact keepE_get h
omit hm in
theorem keepE_len {L : List Nat} : ∀ {vs : List V} {i : Nat}, (keepE L m i vs).length = vs.length
  | [], i => rfl
  | v :: vs, i => by simp [keepE, keepE_len (vs := vs)]
end
theorem sumK_map {ρ ρ' : Rho} {x : Nat} : ∀ {l : List (Nat × Nat)} {out : List (Nat × Blk)}, out.map (·.1) = l.map (·.2) → (∀ p ∈ l, ρ' p.2 = ρ p.1) → tot ρ' out x = sumK ρ (l.map (·.1)) x
  | [], out, h, _ => by
    have : out = [] := by simpa using h
    subst this; rfl
  | p :: l, out, h, hp => by
    cases out with
    | nil => simp at h
    | cons q out =>
      simp only [List.map_cons, List.cons.injEq] at h
      simp only [tot, List.map_cons, sumK]
      rw [h.1, hp p List.mem_cons_self, sumK_map h.2 fun q hq => hp q (List.mem_cons_of_mem _ hq)]
theorem Top.scr {B : Blk} {m : List (Nat × Nat)} {p : Value × (Nat → Nat)} {x : Nat} (h : Top (B.scr m) p x) : Top B p x := by
  cases B with
  | dead => exact h
  | box cs => exact h
  | own E xs l => exact h
  | view E xs => exact h
  | mp m => exact h
  | hol E xs i fs => exact h
theorem filled_scr {m : List (Nat × Nat)} : ∀ {fs : List (Option Nat)}, allF m fs = true → ∀ (i q j : Nat), (filled fs i q j = none ∧ filled (scrF m fs) i q j = none) ∨ ∃ k k', filled fs i q j = some k ∧ filled (scrF m fs) i q j = some k' ∧ lk m k = some k' := by
  have key : ∀ {fs : List (Option Nat)}, allF m fs = true → ∀ j : Nat, ((∀ k, fs[j]? ≠ some (some k)) ∧ ∀ k, (scrF m fs)[j]? ≠ some (some k)) ∨ ∃ k k', fs[j]? = some (some k) ∧ (scrF m fs)[j]? = some (some k') ∧ lk m k = some k' := by
    intro fs
    induction fs with
    | nil => intro _ j; exact .inl ⟨by simp, by simp [scrF]⟩
    | cons f fs ih =>
      intro h j
      cases f with
      | none =>
        simp only [allF] at h
        cases j with
        | zero => exact .inl ⟨by simp, by simp [scrF]⟩
        | succ j => simpa [scrF] using ih h j
      | some k =>
        simp only [allF] at h
        split at h
        · rename_i k' hk
          cases j with
          | zero => exact .inr ⟨k, k', by simp, by simp [scrF, hk], hk⟩
          | succ j => simpa [scrF] using ih h j
        · cases h
  intro fs h i q j
  unfold filled
  split
  · rcases key h j with ⟨h1, h2⟩ | ⟨k, k', h1, h2, h3⟩
    · refine .inl ⟨?_, ?_⟩
      · split
        · rename_i k hk; exact (h1 k hk).elim
        · rfl
      · split
        · rename_i k hk; exact (h2 k hk).elim
        · rfl
    · exact .inr ⟨k, k', by rw [h1], by rw [h2], h3⟩
  · exact .inl ⟨rfl, rfl⟩
section
variable {Γ : Ctx} {σ σ' : SS} {a : Act} {w : World}
theorem RelB.keep {h : Array Obj} {H0 H : Hp} {ρ : Rho} {bl : List (Nat × Blk)} {m : List (Nat × Nat)} {bs : List (Nat × Blk)} (hb : keepB bl m m = some bs) (h1 : nodupB (m.map (·.1)) = true) (h2 : nodupB (m.map (·.2)) = true)
    (r : RelB h H0 H ρ bl) : RelB h H0 H (fun k => ρ (inv m k)) bs ∧ (∀ k k', lk m k = some k' → dom bs k' ∧ (ρ (inv m k')).1 = (ρ k).1) ∧ ∀ k k', (k, k') ∈ m → dom bs k' ∧ ρ (inv m k') = ρ k := by
  obtain ⟨g1, g2, g3⟩ := keepB_spec hb
  let ρ' : Rho := fun k => ρ (inv m k)
  have hρ : ∀ k k', (k, k') ∈ m → ρ' k' = ρ k := fun k k' hk => by simp only [ρ', nodupB_map2 h2 hk]
  have hdom : ∀ k k', (k, k') ∈ m → dom bs k' := fun k k' hk => by
    unfold dom; rw [g1]; exact List.mem_map.2 ⟨_, hk, rfl⟩
  have hm : ∀ k k', lk m k = some k' → dom bs k' ∧ (ρ' k').1 = (ρ k).1 := fun k k' hk => ⟨hdom k k' (lk_mem hk), by rw [hρ k k' (lk_mem hk)]⟩
  have hq : ∀ k' B', (k', B') ∈ bs → ∃ k B, (k, B) ∈ bl ∧ ρ' k' = ρ k ∧ B' = B.scr m ∧ (B.isHol m = true → False) := fun k' B' hk => by
    obtain ⟨k, B, f1, f2, f3, f4⟩ := g2 _ hk
    exact ⟨k, B, getB_mem f2, hρ k k' f1, f3, f4⟩
  refine ⟨⟨?_, by rw [g1]; exact nodupB_nodup h2, r.h0, r.hh, ?_, ?_, ?_, ?_⟩, hm, fun k k' hk => ⟨hdom k k' hk, hρ k k' hk⟩⟩
  · intro k hk
    obtain ⟨⟨k', B'⟩, f1, rfl⟩ := List.mem_map.1 hk
    obtain ⟨k, B, f2, f3, _⟩ := hq _ _ f1
    have f3 : ρ (inv m k') = ρ k := f3
    simp only
    rw [f3]; exact r.oc k (dom_of_mem f2)
  · intro k' B' hk
    obtain ⟨k, B, f2, f3, rfl, f4⟩ := hq _ _ hk
    have f3 : ρ (inv m k') = ρ k := f3
    rw [f3]
    have := r.blk k B f2
    cases B with
    | dead => exact this
    | box cs => obtain ⟨b, vs, e, fz, e1, e2, e3, e4, e5⟩ := this; exact ⟨b, vs, e, fz, e1, e2, e3, e4, e5.scr hm⟩
    | own E xs l => exact this
    | view E xs => exact this
    | mp m => exact this
    | hol E xs i fs =>
      have fk : allF m fs = true := by
        cases ha : allF m fs with
        | true => rfl
        | false => exact (f4 (by simp [Blk.isHol, ha])).elim
      obtain ⟨b, o, c, cs, e, fz, S, e1, e2, e3, e4, e5, e6, e7, e8, e9⟩ := this
      refine ⟨b, o, c, cs, e, fz, S, e1, e2, e3, e4, e5, e6, e7, e8, fun q x hx j l hj => ?_⟩
      have e10 := e9 q x hx j l hj
      rcases filled_scr fk (i ()) q j with ⟨f5, f6⟩ | ⟨k, k', f5, f6, f7⟩
      · rw [f5] at e10
        rw [f6]
        exact e10
      · rw [f5] at e10
        rw [f6]
        obtain ⟨e11, e12, e13⟩ := e10
        exact ⟨(hm k k' f7).1, by rw [(hm k k' f7).2]; exact e12, e13⟩
  · intro x
    rw [sumK_map (ρ := ρ) (ρ' := ρ') g1 fun p hp => hρ p.1 p.2 hp]
    exact Nat.le_trans (sumK_le _ h1 (fun k hk => by
      obtain ⟨p, hp, rfl⟩ := List.mem_map.1 hk
      obtain ⟨B, hB⟩ := g3 p hp
      exact getB_dom hB) x) (r.sum x)
  · intro k' B' hk x hx
    obtain ⟨k, B, f2, f3, _⟩ := hq _ _ hk
    have f3 : ρ (inv m k') = ρ k := f3
    rw [f3] at hx
    exact r.fresh k B f2 x hx
  · intro k' B' hk x hx
    obtain ⟨k, B, f2, f3, rfl, _⟩ := hq _ _ hk
    have f3 : ρ (inv m k') = ρ k := f3
    rw [f3] at hx
    exact r.tops k B f2 x hx.scr
theorem Rel.keep (hd0 : Γ.hd = []) {L : List Nat} {m : List (Nat × Nat)} {bs : List (Nat × Blk)} (hb : keepB σ.blk m m = some bs) (h1 : nodupB (m.map (·.1)) = true) (h2 : nodupB (m.map (·.2)) = true)
    (hpk : ∀ p ∈ Γ.hm, lk m p.1 = some p.1) (r : Rel Γ σ a w) : Rel Γ { env := keepE L m 0 σ.env, blk := bs } a w := by
  obtain ⟨H, ρ, r⟩ := r
  obtain ⟨rb, hm, _⟩ := r.b.keep hb h1 h2
  refine ⟨H, _, ⟨rb, ⟨by rw [keepE_len]; exact r.e.size, fun j c hj => ?_⟩, r.d, r.n, (by rw [hd0]; intro p hp; cases hp), fun p hp => ?_⟩⟩
  · rcases keepE_get hj with rfl | ⟨c0, f1, rfl⟩
    · trivial
    · exact (r.e.get j c0 f1).scr hm
  · obtain ⟨f1, f2⟩ := hm _ _ (hpk p hp)
    exact ⟨f1, by rw [f2]; exact (r.hm p hp).2⟩
theorem Rel.closeHol (hd0 : Γ.hd = []) {k : Nat} (r : Rel Γ σ a w) : Rel Γ { σ with blk := Go.Proofs.Ytlochjpjlhkjaaa.closeHol σ.blk k } a w := by
  unfold Go.Proofs.Ytlochjpjlhkjaaa.closeHol
  split
  · split
    · rename_i bs' hc
      obtain ⟨H, ρ, r⟩ := r
      obtain ⟨ρ', r', _⟩ := RelH.close hd0 r hc
      exact ⟨H, ρ', r'⟩
    · exact r
  · exact r
theorem Rel.closeAll (hd0 : Γ.hd = []) : ∀ {ks : List Nat} {σ : SS}, Rel Γ σ a w → Rel Γ { σ with blk := Go.Proofs.Ytlochjpjlhkjaaa.closeAll ks σ.blk } a w
  | [], _, r => r
  | _ :: ks, _, r => Rel.closeAll hd0 (ks := ks) (r.closeHol hd0)
theorem Rel.closeSome (hd0 : Γ.hd = []) {m : List (Nat × Nat)} : ∀ {ks : List Nat} {σ : SS}, Rel Γ σ a w → Rel Γ { σ with blk := Go.Proofs.Ytlochjpjlhkjaaa.closeSome m ks σ.blk } a w
  | [], _, r => r
  | k :: ks, σ, r => by
    unfold Go.Proofs.Ytlochjpjlhkjaaa.closeSome
    split
    · exact Rel.closeSome hd0 (ks := ks) r
    · exact Rel.closeSome hd0 (ks := ks) (r.closeHol hd0)
theorem selfB_get {m : List (Nat × Nat)} : ∀ {ks : List Nat}, selfB m ks = true → ∀ k ∈ ks, lk m k = some k
  | [], _, k, hk => by cases hk
  | j :: ks, h, k, hk => by
    simp only [selfB, Bool.and_eq_true] at h
    cases hk with
    | head =>
      have h1 := h.1
      split at h1
      · rename_i k' hk'; rw [hk']; simpa using h1
      · cases h1
    | tail _ hk => exact selfB_get h.2 k hk
theorem Rel.mat {mt : Mat} (h : σ.mat mt = some σ') (r : Rel Γ σ a w) : Rel Γ σ' a w := by
  obtain ⟨H, ρ, r⟩ := r
  have nw : ∀ (k : Nat) (E : ETy), getB σ.blk k = none → ∃ ρ', RelH Γ H ρ' (σ.new k (.own E (fun _ => []) false)) a w ∧ (ρ' k).1 = .slice none 0 0 := fun k E hk =>
    ⟨upd ρ k (.slice none 0 0, fun _ => 0), r.new' (p := (.slice none 0 0, fun _ => 0)) hk (fun _ _ _ => rfl) (fun _ _ => rfl) (Ext.refl _) rfl (fun x hx => by simp at hx) (fun x => by simp) (OwnL.nil rfl) (by simp), by rw [upd_same]⟩
  cases mt with
  | env s E k =>
    simp only [SS.mat] at h
    split at h
    · rename_i v hv hk
      split at h
      · rename_i hn
        cases h
        obtain ⟨ρ', r1, h1⟩ := nw k E hk
        have hv' : v = .c .nil := by
          unfold isNilV at hn
          split at hn
          · rfl
          · cases hn
        subst hv'
        refine ⟨H, ρ', r1.b, ⟨by simpa [SS.new] using r1.e.size, fun j c hj => ?_⟩, r1.d, r1.n, r1.hd, r1.hm⟩
        rw [List.getElem?_set] at hj
        split at hj
        · rename_i hs
          split at hj
          · cases hj
            have := r.e.get s _ hv
            simp only [RV, RC] at this
            subst hs
            exact ⟨dom_insB.2 (.inl rfl), by rw [this, h1]⟩
          · cases hj
        · exact r1.e.get j c hj
      · cases h
    · cases h
  | box bk c E k =>
    simp only [SS.mat] at h
    split at h
    · rename_i cs hbk hk
      split at h
      · rename_i x hx
        split at h
        · rename_i hn
          cases h
          obtain ⟨ρ', r1, h1⟩ := nw k E hk
          have hx' : x = .nil := by
            unfold isNilC at hn
            split at hn
            · rfl
            · cases hn
          subst hx'
          have hg : getB (insB σ.blk k (.own E (fun _ => []) false)) bk = some (.box cs) := getB_of_mem r1.b.nd (mem_insB.2 (.inr (getB_mem hbk)))
          obtain ⟨b, vs, e, fz, f1, f2, f3, f4, f5⟩ := r1.b.blk bk _ (getB_mem hg)
          have f6 := f5.2 c _ hx
          simp only [RC] at f6
          refine ⟨H, ρ', r1.setBlk (w' := w) hg (fun _ _ => rfl) (Ext.refl _) ⟨b, vs, e, fz, f1, f2, f3, f4, by simpa using f5.1, fun j y hj => ?_⟩ (fun _ h => h) (fun _ h => h)⟩
          rw [List.getElem?_set] at hj
          split at hj
          · rename_i hjc
            split at hj
            · cases hj
              subst hjc
              exact ⟨dom_insB.2 (.inl rfl), by rw [f6, h1]⟩
            · cases hj
          · exact f5.2 j y hj
        · cases h
      · cases h
    · cases h
theorem Rel.mats : ∀ {ms : List Mat} {σ σ' : SS}, σ.mats ms = some σ' → Rel Γ σ a w → Rel Γ σ' a w
  | [], σ, σ', h, r => by simp only [SS.mats, Option.some.injEq] at h; subst h; exact r
  | m :: ms, σ, σ', h, r => by
    simp only [SS.mats] at h
    split at h
    · rename_i σ1 h1; exact Rel.mats h (r.mat h1)
    · cases h
theorem Rel.norm (hd0 : Γ.hd = []) {pk : List Nat} (hpk : ∀ p ∈ Γ.hm, p.1 ∈ pk) {N : Norm} (h : σ.norm pk N = some σ') (r : Rel Γ σ a w) : Rel Γ σ' a w := by
  unfold SS.norm at h
  split at h
  · rename_i σ1 h1
    split at h
    · rename_i bs hb
      split at h
      · rename_i hn
        cases h
        exact Rel.keep (σ := { σ1 with blk := Go.Proofs.Ytlochjpjlhkjaaa.closeSome N.nm (σ1.blk.map (·.1)) σ1.blk }) hd0 hb hn.1 hn.2.1 (fun p hp => selfB_get hn.2.2 _ (hpk p hp)) ((r.mats h1).closeSome hd0)
      · cases h
    · cases h
  · cases h
end
theorem wp_loopN {P : Program} {c : Code} {Q : Exit → Act → World → Prop} (I : Nat → Act → World → Prop)
    (round : ∀ n a w, I n a w → c.wp P (Exit.then (fun a' w' => ∃ m, m < n ∧ I m a' w') Q) a w) {n : Nat} {a : Act} {w : World} (h₀ : I n a w) : (Code.loop c).wp P Q a w := by
  intro b k cs
  have key : ∀ n a w, I n a w → ∃ e a' w', Q e a' w' ∧ Arrives P (lone (b.at a (.code c :: .inLoop c :: k)) cs w) b k cs e a' w' := by
    intro n
    induction n using Nat.strongRecOn with
    | _ n ih =>
      intro a w hI
      obtain ⟨e, a₁, w₁, hq, harr⟩ := round n a w hI b (.inLoop c :: k) cs
      cases e with
      | normal =>
        obtain ⟨m, hlt, hI₁⟩ := hq
        obtain ⟨e₂, a₂, w₂, hq₂, harr₂⟩ := ih m hlt a₁ w₁ hI₁
        exact ⟨e₂, a₂, w₂, hq₂, .of_steps (Steps.trans harr (.one step_inLoop)) harr₂⟩
      | exit id => exact ⟨_, a₁, w₁, hq, .pass (x := .inLoop c) rfl (fun _ _ => .inl (by simp)) harr⟩
      | goto l => exact ⟨_, a₁, w₁, hq, .pass (x := .inLoop c) rfl (fun _ _ => .inl (by simp)) harr⟩
      | ret => exact ⟨_, a₁, w₁, hq, .pass (x := .inLoop c) rfl (fun _ _ => .inl (by simp)) harr⟩
      | panic ch => exact ⟨_, a₁, w₁, hq, .pass (x := .inLoop c) rfl (fun _ _ => .inl (by simp)) harr⟩
      | outgrown => exact ⟨_, a₁, w₁, hq, .pass (x := .inLoop c) rfl (fun _ _ => .inl (by simp)) harr⟩
  obtain ⟨e, a', w', hq, harr⟩ := key n a w h₀
  exact ⟨e, a', w', hq, .of_steps (.one step_loop) harr⟩
theorem BlkR.top {h : Array Obj} {H : Hp} {ρ : Rho} {D : Nat → Prop} {B : Blk} {p : Value × (Nat → Nat)} {x : Nat} (hB : BlkR h H ρ D B p) (ht : Top B p x) : 0 < p.2 x := by
  cases B with
  | own E xs l =>
    cases l with
    | false => exact ht
    | true =>
      obtain ⟨o, n, c, e⟩ := ht
      obtain ⟨v, S⟩ := p
      simp only at e
      subst e
      have ho : OwnL h (.list E xs) (.slice (some ⟨x, o, none⟩) n c) S := hB
      generalize hl : Lf.list E xs = l at ho
      generalize hv : Value.slice (some ⟨x, o, none⟩) n c = v at ho
      cases ho with
      | list S hb => cases hv; exact cnt_top _ _ _ _
      | nil h0 => cases hv
      | int hr => cases hl
      | bool => cases hl
      | str hm => cases hl
  | box cs => exact ht
  | hol E xs i fs => exact ht
  | mp m => exact ht
  | dead => exact ht.elim
  | view E xs => exact ht.elim
section
variable {Γ : Ctx} {H : Hp} {a : Act} {w : World}
theorem RelH.frz1 (hd0 : Γ.hd = []) {ρ : Rho} {σ : SS} (r : RelH Γ H ρ σ a w) {k : Nat} {E : ETy} {xs : Unit → List E.α} (hk : getB σ.blk k = some (.own E xs false)) : ∃ H' ρ', RelH Γ H' ρ' { σ with blk := setB σ.blk k (.view E xs) } a w := by
  have hm := getB_mem hk
  have ho : OwnL w.heap (.list E xs) (ρ k).1 (ρ k).2 := r.b.blk k _ hm
  have hd : dom (setB σ.blk k (.view E xs)) = dom σ.blk := setB_dom_eq
  let H' : Hp := fun b => if 0 < (ρ k).2 b then w.heap[b]? else H b
  have hHH : ∀ b o, H b = some o → H' b = some o := fun b o hb => by
    show (if 0 < (ρ k).2 b then w.heap[b]? else H b) = some o
    split
    · exact r.b.hh b o hb
    · exact hb
  have hv : ∀ j, (upd ρ k ((ρ k).1, fun _ => 0) j).1 = (ρ j).1 := fun j => by
    by_cases e : j = k
    · subst e; rw [upd_same]
    · rw [upd_other e]
  have g : Grow H H' ρ (upd ρ k ((ρ k).1, fun _ => 0)) (dom σ.blk) (dom σ.blk) := ⟨hHH, fun j hj => ⟨hj, hv j⟩⟩
  refine ⟨H', upd ρ k ((ρ k).1, fun _ => 0), ⟨⟨fun j hj => by rw [hv]; exact r.b.oc j (hd ▸ hj), by rw [keys_setB]; exact r.b.nd, fun b o hb => hHH b o (r.b.h0 b o hb), fun b o hb => ?_, fun j B hj => ?_, fun x => ?_, fun j B hj x hx => ?_, fun j B hj x hx => ?_⟩,
    ?_, r.d, r.n, fun p hp => (by rw [hd0] at hp; cases hp), fun p hp => ?_⟩⟩
  · have hb : (if 0 < (ρ k).2 b then w.heap[b]? else H b) = some o := hb
    split at hb
    · exact hb
    · exact r.b.hh b o hb
  · show BlkR w.heap H' (upd ρ k ((ρ k).1, fun _ => 0)) (dom (setB σ.blk k (.view E xs))) B (upd ρ k ((ρ k).1, fun _ => 0) j)
    rw [hd]
    rcases mem_setB r.b.nd hj with ⟨rfl, rfl⟩ | ⟨hne, h⟩
    · rw [upd_same]
      exact ⟨ho.rl fun b h0 => by show (if 0 < (ρ j).2 b then w.heap[b]? else H b) = _; rw [if_pos h0], rfl⟩
    · rw [upd_other hne]
      exact (r.b.blk j B h).mono g fun _ _ => rfl
  · have h1 := tot_setB (ρ := ρ) (ρ' := upd ρ k ((ρ k).1, fun _ => 0)) r.b.nd (B := .view E xs) (getB_dom hk) (fun j hj => upd_other hj) x
    rw [upd_same] at h1
    have h2 := r.b.sum x
    show tot (upd ρ k ((ρ k).1, fun _ => 0)) (setB σ.blk k (.view E xs)) x ≤ 1
    simp only [Nat.add_zero] at h1
    omega
  · rcases mem_setB r.b.nd hj with ⟨rfl, rfl⟩ | ⟨hne, h⟩
    · rw [upd_same] at hx; simp at hx
    · rw [upd_other hne] at hx; exact r.b.fresh j B h x hx
  · rcases mem_setB r.b.nd hj with ⟨rfl, rfl⟩ | ⟨hne, h⟩
    · exact hx.elim
    · rw [upd_other hne] at hx
      have h1 := (r.b.blk j B h).top hx
      have h2 := tot_two (ρ := ρ) (getB_dom hk) (dom_of_mem h) hne x
      have h3 := r.b.sum x
      show (if 0 < (ρ k).2 x then w.heap[x]? else H x) = none
      rw [if_neg (by omega)]
      exact r.b.tops j B h x hx
  · show RelE H' (upd ρ k ((ρ k).1, fun _ => 0)) (dom (setB σ.blk k (.view E xs))) σ.env a.tmps
    rw [hd]; exact r.e.grow g
  · have := r.hm p hp
    exact ⟨by show dom (setB σ.blk k (.view E xs)) p.1; rw [hd]; exact this.1, by rw [hv]; exact this.2⟩
theorem Rel.frzK (hd0 : Γ.hd = []) {E : ETy} : ∀ (ks : List Nat) {σ : SS}, Rel Γ σ a w → Rel Γ { σ with blk := Go.Proofs.Ytlochjpjlhkjaaa.frzK E ks σ.blk } a w
  | [], _, r => r
  | k :: ks, σ, r => by
    simp only [Go.Proofs.Ytlochjpjlhkjaaa.frzK]
    split
    · rename_i E' xs hk
      split
      · obtain ⟨H, ρ, r⟩ := r
        exact Rel.frzK hd0 ks (r.frz1 hd0 hk)
      · exact Rel.frzK hd0 ks r
    · exact Rel.frzK hd0 ks r
theorem Rel.frzT (hd0 : Γ.hd = []) {n id : Nat} : ∀ (l : List (Nat × Nat × ETy)) {σ : SS}, Rel Γ σ a w → Rel Γ { σ with blk := Go.Proofs.Ytlochjpjlhkjaaa.frzT l n id σ.blk } a w
  | [], _, r => r
  | p :: l, σ, r => by
    simp only [Go.Proofs.Ytlochjpjlhkjaaa.frzT]
    split
    · exact Rel.frzT hd0 l (Rel.frzK hd0 (E := p.2.2) (σ.blk.map (·.1)) r)
    · exact Rel.frzT hd0 l r
theorem Rel.frz (hd0 : Γ.hd = []) {tab : Tab} {id : Nat} {σ : SS} (r : Rel Γ σ a w) : Rel Γ (σ.frz tab id) a w := by
  unfold SS.frz
  split
  · exact r
  · exact Rel.frzT hd0 _ r
end
theorem vcCode_ok {P : Program} {tab : Tab} {fr : Bool} (hT : tabB P tab = true) {Γ : Ctx} (hd0 : Γ.hd = []) {pk : List Nat} (hpk : ∀ p ∈ Γ.hm, p.1 ∈ pk) : ∀ (c : Code), (fr = true → codeFree c = true) → ∀ {σ : SS} {a : Act} {w : World} {K : Exit → SS → Prop} {Q : Exit → Act → World → Prop}, vcCode P tab fr pk c σ K → Rel Γ σ a w →
    (∀ e σ' a' w', K e σ' → Rel Γ σ' a' w' → Q e a' w') → c.wp P Q a w := by
  intro c
  induction c with
  | skip => intro hfr σ a w K Q h r hQ; exact wp_skip (hQ _ _ _ _ h r)
  | region id ops draw =>
    intro hfr σ a w K Q h r0 hQ
    have r := r0.frz hd0 (tab := tab) (id := id)
    cases draw with
    | false => exact wp_region_list (vcOps_ok hT hd0 _ h r fun σ' a' w' h' r' => hQ _ _ _ _ h' r')
    | true =>
      cases fr with
      | true => exact vcDrawF_region hT hd0 (by simpa [codeFree] using hfr rfl) h r fun σ' a' w' h' r' => hQ _ _ _ _ h' r'
      | false => exact vcDraw_region hT hd0 h r fun σ' a' w' h' r' => hQ _ _ _ _ h' r'
  | seq x y ihx ihy =>
    intro hfr σ a w K Q h r hQ
    have h2 : fr = true → codeFree x = true ∧ codeFree y = true := fun h => by have := hfr h; simpa [codeFree] using this
    refine wp_seq (ihx (fun h => (h2 h).1) h r fun e σ' a' w' h' r' => ?_)
    cases e with
    | normal => exact ihy (fun h => (h2 h).2) h' r' hQ
    | exit id => exact hQ _ _ _ _ h' r'
    | goto l => exact hQ _ _ _ _ h' r'
    | ret => exact hQ _ _ _ _ h' r'
    | panic ch => exact hQ _ _ _ _ h' r'
    | outgrown => exact hQ _ _ _ _ h' r'
  | cond c x y ihx ihy =>
    intro hfr σ a w K Q h r hQ
    have h2 : fr = true → codeFree x = true ∧ codeFree y = true := fun h => by have := hfr h; simpa [codeFree] using this
    simp only [vcCode] at h
    have hc : RV _ _ _ (σ.ev c) (a.eval c) := ev_ok r.choose_spec.choose_spec.e c
    split at h
    · rename_i hv
      rw [hv] at hc
      exact wp_cond (t := true) hc (ihx (fun h => (h2 h).1) h r hQ)
    · rename_i hv
      rw [hv] at hc
      exact wp_cond (t := false) hc (ihy (fun h => (h2 h).2) h r hQ)
    · rename_i t hv
      rw [hv] at hc
      have hc' := RL.of_bool hc
      obtain ⟨h⟩ := h
      refine wp_cond hc' ?_
      cases ht : t () with
      | true => rw [ht] at h; exact ihx (fun h => (h2 h).1) h r hQ
      | false => rw [ht] at h; exact ihy (fun h => (h2 h).2) h r hQ
    · cases h
  | block id x ih =>
    intro hfr σ a w K Q h r hQ
    refine wp_block (ih (fun h => by have := hfr h; simpa [codeFree] using this) h r fun e σ' a' w' h' r' => ?_)
    cases e with
    | exit i =>
      simp only [Exit.inBlock]
      simp only at h'
      split at h'
      · rename_i hi; rw [if_pos hi]; exact hQ _ _ _ _ h' r'
      · rename_i hi; rw [if_neg hi]; exact hQ _ _ _ _ h' r'
    | normal => exact hQ _ _ _ _ h' r'
    | goto l => exact hQ _ _ _ _ h' r'
    | ret => exact hQ _ _ _ _ h' r'
    | panic ch => exact hQ _ _ _ _ h' r'
    | outgrown => exact hQ _ _ _ _ h' r'
  | loop x ih =>
    intro hfr σ a w K Q h r hQ
    obtain ⟨X, st, φ, m, x0, h0, hs, hr⟩ := h
    refine wp_loopN (fun n a w => ∃ x, φ x ∧ m x () = n ∧ Rel Γ (st x) a w) (fun n a w ⟨x, hx, hm, r⟩ => ?_) (n := m x0 ()) ⟨x0, h0, rfl, hs Γ a w hd0 hpk r⟩
    refine ih (fun h => by have := hfr h; simpa [codeFree] using this) (hr x hx) r fun e σ' a' w' h' r' => ?_
    cases e with
    | normal =>
      obtain ⟨x', hm', hx', hs'⟩ := h'
      exact ⟨m x' (), by rw [← hm]; exact hm', x', hx', rfl, hs' Γ a' w' hd0 hpk r'⟩
    | exit id => exact hQ _ _ _ _ h' r'
    | goto l => exact hQ _ _ _ _ h' r'
    | ret => exact hQ _ _ _ _ h' r'
    | panic ch => exact hQ _ _ _ _ h' r'
    | outgrown => exact hQ _ _ _ _ h' r'
  | exit id => intro hfr σ a w K Q h r hQ; exact wp_exit (hQ _ _ _ _ h r)
  | ret => intro hfr σ a w K Q h r hQ; exact wp_ret (hQ _ _ _ _ h r)
  | _ => intro hfr σ a w K Q h r hQ; exact h.elim
def deep : (E : ETy) → E.α → Prop
  | .spk, x => x.length ≤ maxL
  | .cab, x => x.row.length ≤ maxL ∧ x.spoke.length ≤ maxL ∧ ∀ s ∈ x.spoke, s.length ≤ maxL
  | .rep, x => x.ids.length ≤ maxL
  | .str, x => x.length ≤ maxL
  | _, _ => True
def okLf : Lf → Prop
  | .list E t => (t ()).length ≤ maxL ∧ ∀ x ∈ t (), deep E x
  | .str t => (t ()).length ≤ maxL
  | .int .i64 t => -9223372036854775808 ≤ t () ∧ t () ≤ 9223372036854775807
  | _ => True
def okC : C → Prop
  | .lf l => okLf l
  | _ => True
def okCs : List C → Prop
  | [] => True
  | c :: cs => okC c ∧ okCs cs
def okAs : List V → Prop
  | [] => True
  | .c x :: vs => okC x ∧ okAs vs
  | .agg cs :: vs => okCs cs ∧ okAs vs
  | .tup _ :: vs => okAs vs
theorem RL.len {H : Hp} {E : ETy} {t : Unit → List E.α} {v : Value} (h : RL H (.list E t) v) : (t ()).length ≤ maxL := by
  cases h with
  | nil h => rw [h]; simp [maxL]
  | list hb hl hm ho hc => exact hm
theorem RL.elem {H : Hp} {E : ETy} {t : Unit → List E.α} {v : Value} (h : RL H (.list E t) v) : ∀ x ∈ t (), ∃ f : Nat → Value, ∀ j l, (cellsT E fun _ => x)[j]? = some l → RL H l (f j) := by
  cases h with
  | nil h => intro x hx; rw [h] at hx; cases hx
  | list hb hl hm ho hc =>
    intro x hx
    obtain ⟨i, hi, rfl⟩ := List.getElem_of_mem hx
    exact ⟨fun j => _, fun j l hj => hc i _ (List.getElem?_eq_getElem hi) j l hj⟩
theorem RL.deep {H : Hp} {E : ETy} {x : E.α} {f : Nat → Value} (h : ∀ j l, (cellsT E fun _ => x)[j]? = some l → RL H l (f j)) : Go.Proofs.Ytlochjpjlhkjaaa.deep E x := by
  cases E with
  | spk => exact (h 0 _ rfl).len
  | cab =>
    have h6 := h 6 _ rfl
    refine ⟨(h 5 _ rfl).len, h6.len, fun s hs => ?_⟩
    obtain ⟨g, hg⟩ := h6.elem s hs
    exact (hg 0 _ rfl).len
  | rep => exact (h 1 _ rfl).len
  | str => exact (RL.of_str (h 0 _ rfl)).2
  | _ => trivial
theorem RL.ok {H : Hp} {l : Lf} {v : Value} (h : RL H l v) : okLf l := by
  cases l with
  | int k t =>
    have h2 := (RL.of_int h).2
    cases k <;> first | exact has_i64.1 h2 | trivial
  | bool t => trivial
  | str t => exact (RL.of_str h).2
  | list E t => exact ⟨h.len, fun x hx => by obtain ⟨f, hf⟩ := h.elem x hx; exact RL.deep hf⟩
theorem RC.ok {H : Hp} {ρ : Rho} {D : Nat → Prop} {c : C} {v : Value} (h : RC H ρ D c v) : okC c := by
  cases c with
  | lf l => exact RL.ok h
  | _ => trivial
theorem RCs.ok {H : Hp} {ρ : Rho} {D : Nat → Prop} {f : Nat → Value} : ∀ {cs : List C}, (∀ (j : Nat) c, cs[j]? = some c → RC H ρ D c (f j)) → okCs cs := by
  intro cs
  induction cs generalizing f with
  | nil => intro _; trivial
  | cons c cs ih => intro h; exact ⟨(h 0 c rfl).ok, ih (f := fun j => f (j + 1)) fun j c hj => h (j + 1) c (by simpa using hj)⟩
theorem args_ok {H : Hp} {ρ : Rho} {D : Nat → Prop} {f : Nat → Value} : ∀ {as : List V}, (∀ (j : Nat) c, as[j]? = some c → RV H ρ D c (f j)) → okAs as := by
  intro as
  induction as generalizing f with
  | nil => intro _; trivial
  | cons c cs ih =>
    intro h
    have h1 := ih (f := fun j => f (j + 1)) fun j c hj => h (j + 1) c (by simpa using hj)
    cases c with
    | c x => exact ⟨RC.ok (h 0 _ rfl), h1⟩
    | agg l => obtain ⟨vs, _, h2⟩ := h 0 _ rfl; exact ⟨RCs.ok (f := fun j => vs.getD j Go.undef) h2.2, h1⟩
    | tup l => exact h1
def start (as : List V) (n : Nat) : SS := { env := as ++ List.replicate (n - as.length) (.c .undef), blk := [] }
def SS.shut (σ : SS) : SS := { σ with blk := closeAll (σ.blk.map (·.1)) σ.blk }
def vcFunc (P : Program) (tab : Tab) (fr : Bool) (fn : Func) (c : Code) (as : List V) (post : V → List Blk → Prop) : Prop :=
  vcCode P tab fr [] c (start as fn.ntmps) fun e σ => match e with
    | .normal => fin tab fn.results.toList post σ.shut
    | .ret => fin tab fn.results.toList post σ.shut
    | _ => False
theorem spec_of_vc {P : Program} {tab : Tab} (hT : tabB P tab = true) {f : FuncId} {fn : Func} {c : Code} (hf : P.funcs[f]? = some fn) (hb : fn.body = some c) (hnm : (fn.name == "runtime.NumGoroutine") = false)
    {fr : Bool} (hfr : fr = true → codeFree c = true) {as : List V} {post : V → List Blk → Prop} (h : okAs as → vcFunc P tab fr fn c as post) : Spec P f as post := by
  refine ⟨⟨fn, hf, hnm, by rw [hb]; rfl⟩, fun w vs hargs => ?_⟩
  refine calls_of_wp hf hb ?_
  let Γ : Ctx := ⟨fun b => w.heap[b]?, [], w, []⟩
  have r : Rel Γ (start as fn.ntmps) { tmps := vs ++ Array.replicate (fn.ntmps - vs.size) Go.undef, defers := [] } w := by
    refine ⟨fun b => w.heap[b]?, fun _ => default, ⟨⟨fun k hk => by simp [dom, start] at hk, by simp [start], fun _ _ h => h, fun _ _ h => h, fun k B hk => by simp [start] at hk, fun x => by simp [start, tot],
      fun k B hk => by simp [start] at hk, fun k B hk => by simp [start] at hk⟩, ⟨by simp [start, hargs.1], fun j c hj => ?_⟩, rfl, Ext.refl _, (fun p hp => by cases hp), fun p hp => by cases hp⟩⟩
    have e : dom (start as fn.ntmps).blk = fun _ => False := by funext k; simp [dom, start]
    rw [e]
    simp only [start] at hj
    rcases Nat.lt_or_ge j as.length with hlt | hge
    · rw [List.getElem?_append_left hlt] at hj
      have := hargs.2 j c hj
      rw [Array.getD_eq_getD_getElem?, Array.getElem?_append_left (by rw [hargs.1]; exact hlt), ← Array.getD_eq_getD_getElem?]
      exact this
    · rw [List.getElem?_append_right hge, List.getElem?_replicate] at hj
      split at hj
      · cases hj; trivial
      · cases hj
  refine vcCode_ok hT rfl (fun p hp => by cases hp) c hfr (h (args_ok hargs.2)) r fun e σ' a' w' h' r' => ?_
  have done : fin tab fn.results.toList post σ'.shut → ∃ v, (results fn a'.tmps).run P w' = .ok v w' ∧ ∃ v' rv nb H' ρ', Ending.returned v = .returned v' ∧ post rv nb ∧ nb.all ownB = true ∧ RelB w'.heap (fun b => w.heap[b]?) H' ρ' (num 0 nb) ∧
      RV noH ρ' (dom (num 0 nb)) rv v' ∧ Ext w w' := fun hf => by
    have r' : Rel Γ σ'.shut a' w' := r'.closeAll rfl
    obtain ⟨H, ρ, r'⟩ := r'
    obtain ⟨v, h1, rv, nb, H', ρ', h2, h3, h4, h5⟩ := fin_ok hT r' (fn := fn) hf
    exact ⟨v, h1, v, rv, nb, H', ρ', rfl, h2, h3, h4, h5, r'.n⟩
  have hdf : a'.defers = [] := by obtain ⟨H, ρ, r'⟩ := r'; exact r'.d
  cases e with
  | normal => obtain ⟨v, h1, h2⟩ := done h'; exact ⟨hdf, v, h1, h2⟩
  | ret => obtain ⟨v, h1, h2⟩ := done h'; exact ⟨hdf, v, h1, h2⟩
  | exit id => cases h'
  | goto l => cases h'
  | panic ch => cases h'
  | outgrown => cases h'
end Go.Proofs.Ytlochjpjlhkjaaa
namespace Go.Proofs.Ytlochjpjlhkjaaa
open Go
inductive Sh where
  | int (k : IntKind) (x : Unit → Int)
  | bool (x : Unit → Bool)
  | str (x : Unit → List UInt8)
  | own (E : ETy) (x : Unit → List E.α)
  | any
inductive RSh where
  | c (s : Sh)
  | agg (ss : List Sh)
  | tup (ps : List (Bool × List Sh))
def Sh.nb : Sh → Nat
  | .own _ _ => 1
  | _ => 0
def Sh.cell (k : Nat) : Sh → C
  | .int i x => .lf (.int i x)
  | .bool x => .lf (.bool x)
  | .str x => .lf (.str x)
  | .own _ _ => .own k
  | .any => .undef
def cellsS : Nat → List Sh → List C
  | _, [] => []
  | k, s :: ss => s.cell k :: cellsS (k + s.nb) ss
def nbS : List Sh → Nat
  | [] => 0
  | s :: ss => s.nb + nbS ss
def cellsP : Nat → List (Bool × List Sh) → List (Bool × List C)
  | _, [] => []
  | k, p :: ps => (p.1, cellsS k p.2) :: cellsP (k + nbS p.2) ps
def Sh.blk : Sh → List Blk
  | .own E x => [.own E x false]
  | _ => []
def blksS : List Sh → List Blk
  | [] => []
  | s :: ss => s.blk ++ blksS ss
def flatS : List (Bool × List Sh) → List Sh
  | [] => []
  | p :: ps => p.2 ++ flatS ps
def RSh.v : RSh → V
  | .c s => .c (s.cell 0)
  | .agg ss => .agg (cellsS 0 ss)
  | .tup ps => .tup (cellsP 0 ps)
def RSh.bs : RSh → List Blk
  | .c s => s.blk
  | .agg ss => blksS ss
  | .tup ps => blksS (flatS ps)
def eqL : (E E' : ETy) → (Unit → List E.α) → (Unit → List E'.α) → Prop
  | .int, .int, x, t => t () = x ()
  | .byte, .byte, x, t => t () = x ()
  | .str, .str, x, t => t () = x ()
  | .pin, .pin, x, t => t () = x ()
  | .ent, .ent, x, t => t () = x ()
  | .pty, .pty, x, t => t () = x ()
  | .spk, .spk, x, t => t () = x ()
  | .cab, .cab, x, t => t () = x ()
  | .req, .req, x, t => t () = x ()
  | .rep, .rep, x, t => t () = x ()
  | _, _, _, _ => False
theorem eqL_eq {E E' : ETy} {x : Unit → List E.α} {t : Unit → List E'.α} {l : Bool} (h : eqL E E' x t) : Blk.own E' t l = Blk.own E x l := by
  cases E <;> cases E' <;> first
    | (simp only [eqL] at h; have h' : t = x := funext fun _ => h; subst h'; rfl)
    | (simp only [eqL] at h)
inductive Eqn (p : Unit → Prop) (q : Prop) : Prop where
  | mk (h : p ()) (hq : q)
def mS (s : Sh) (c : C) (k : Nat) (bs : List Blk) (K : Nat → List Blk → Prop) : Prop :=
  match s, c with
  | .int k' x, .lf (.int i t) => if i = k' then Eqn (fun _ => t () = x ()) (K k bs) else False
  | .bool x, .lf (.bool t) => Eqn (fun _ => t () = x ()) (K k bs)
  | .bool x, .bl b => Eqn (fun _ => b = x ()) (K k bs)
  | .str x, .lf (.str t) => Eqn (fun _ => t () = x ()) (K k bs)
  | .own _ x, .nil => Eqn (fun _ => x () = []) (K k bs)
  | .own E x, .own j => if j = k then (match bs with | .own E' t false :: bs => Eqn (fun _ => eqL E E' x t) (K (k + 1) bs) | _ => False) else False
  | .any, _ => K k bs
  | _, _ => False
def mL : List Sh → List C → Nat → List Blk → Prop
  | [], [], _, [] => True
  | s :: ss, c :: cs, k, bs => mS s c k bs fun k bs => mL ss cs k bs
  | _, _, _, _ => False
def sameP : List (Bool × List Sh) → List (Bool × List C) → Bool
  | [], [] => true
  | p :: ps, q :: qs => p.1 == q.1 && p.2.length == q.2.length && sameP ps qs
  | _, _ => false
def flatC : List (Bool × List C) → List C
  | [] => []
  | p :: ps => p.2 ++ flatC ps
def Ret (s : RSh) (r : V) (nb : List Blk) : Prop :=
  match s, r with
  | .c s, .c x => mL [s] [x] 0 nb
  | .agg ss, .agg cs => mL ss cs 0 nb
  | .tup ps, .tup qs => if sameP ps qs = true then mL (flatS ps) (flatC qs) 0 nb else False
  | _, _ => False
def srcS : List Sh → List C → List (Option Nat)
  | .own _ _ :: ss, .own j :: cs => some j :: srcS ss cs
  | .own _ _ :: ss, .nil :: cs => none :: srcS ss cs
  | _ :: ss, _ :: cs => srcS ss cs
  | _, _ => []
def srcV (ρ : Rho) : Option Nat → Value × (Nat → Nat)
  | some j => ρ j
  | none => (.slice none 0 0, fun _ => 0)
section
variable {ρ ρ' : Rho} {D D' : Nat → Prop}
theorem mL_blk : ∀ {ss : List Sh} {cs : List C} {k : Nat} {bs : List Blk}, mL ss cs k bs → (srcS ss cs).length = (blksS ss).length ∧ nbS ss = (blksS ss).length ∧
    ∀ (i : Nat) B, (blksS ss)[i]? = some B → ∃ E x, B = .own E x false ∧ (((srcS ss cs)[i]? = some none ∧ x () = []) ∨ ∃ j, (srcS ss cs)[i]? = some (some j) ∧ k ≤ j ∧ bs[j - k]? = some (.own E x false))
  | [], cs, k, bs, h => by
    cases cs <;> cases bs <;> simp only [mL] at h
    exact ⟨rfl, rfl, fun i B hi => by simp [blksS] at hi⟩
  | s :: ss, [], k, bs, h => by simp [mL] at h
  | s :: ss, c :: cs, k, bs, h => by
    simp only [mL] at h
    unfold mS at h
    split at h
    · split at h
      · obtain ⟨_, h⟩ := h; have := mL_blk h; simpa [srcS, blksS, Sh.blk, nbS, Sh.nb] using this
      · cases h
    · obtain ⟨_, h⟩ := h; have := mL_blk h; simpa [srcS, blksS, Sh.blk, nbS, Sh.nb] using this
    · obtain ⟨_, h⟩ := h; have := mL_blk h; simpa [srcS, blksS, Sh.blk, nbS, Sh.nb] using this
    · obtain ⟨_, h⟩ := h; have := mL_blk h; simpa [srcS, blksS, Sh.blk, nbS, Sh.nb] using this
    · rename_i E x
      obtain ⟨hx, h⟩ := h
      obtain ⟨h1, h2, h3⟩ := mL_blk h
      refine ⟨by simp [srcS, blksS, Sh.blk, h1], by simp [blksS, Sh.blk, nbS, Sh.nb, h2]; omega, fun i B hi => ?_⟩
      cases i with
      | zero => simp [blksS, Sh.blk] at hi; exact ⟨E, x, hi.symm, .inl ⟨by simp [srcS], hx⟩⟩
      | succ i =>
        simp [blksS, Sh.blk] at hi
        obtain ⟨E', x', h4, h5⟩ := h3 i B hi
        refine ⟨E', x', h4, ?_⟩
        simpa [srcS] using h5
    · rename_i E x j
      split at h
      · rename_i hj
        subst hj
        split at h
        · rename_i bs0 E' t bs'
          obtain ⟨hx, h⟩ := h
          have he := eqL_eq (l := false) hx
          obtain ⟨h1, h2, h3⟩ := mL_blk h
          refine ⟨by simp [srcS, blksS, Sh.blk, h1], by simp [blksS, Sh.blk, nbS, Sh.nb, h2]; omega, fun i B hi => ?_⟩
          cases i with
          | zero => simp [blksS, Sh.blk] at hi; exact ⟨E, x, hi.symm, .inr ⟨j, by simp [srcS], Nat.le_refl _, by simp [he]⟩⟩
          | succ i =>
            simp [blksS, Sh.blk] at hi
            obtain ⟨E', x', h4, h5⟩ := h3 i B hi
            refine ⟨E', x', h4, ?_⟩
            rcases h5 with h5 | ⟨j', h5, h6, h7⟩
            · exact .inl (by simpa [srcS] using h5)
            · refine .inr ⟨j', by simpa [srcS] using h5, by omega, ?_⟩
              rw [show j' - j = (j' - (j + 1)) + 1 by omega]
              simpa using h7
        · cases h
      · cases h
    · have := mL_blk h; simpa [srcS, blksS, Sh.blk, nbS, Sh.nb] using this
    · cases h
theorem mL_tot {x : Nat} : ∀ {ss : List Sh} {cs : List C} {k : Nat} {bs : List Blk} {k' : Nat}, mL ss cs k bs →
    (∀ (i : Nat) o, (srcS ss cs)[i]? = some o → ρ' (k' + i) = srcV ρ o) → tot ρ' (num k' (blksS ss)) x = tot ρ (num k bs) x
  | [], cs, k, bs, k', h, hs => by
    cases cs <;> cases bs <;> simp only [mL] at h
    rfl
  | s :: ss, [], k, bs, k', h, hs => by simp [mL] at h
  | s :: ss, c :: cs, k, bs, k', h, hs => by
    simp only [mL] at h
    unfold mS at h
    split at h
    · split at h
      · obtain ⟨_, h⟩ := h; simp only [blksS, Sh.blk, List.nil_append]; exact mL_tot (ss := ss) (cs := cs) h (by simpa [srcS] using hs)
      · cases h
    · obtain ⟨_, h⟩ := h; simp only [blksS, Sh.blk, List.nil_append]; exact mL_tot (ss := ss) (cs := cs) h (by simpa [srcS] using hs)
    · obtain ⟨_, h⟩ := h; simp only [blksS, Sh.blk, List.nil_append]; exact mL_tot (ss := ss) (cs := cs) h (by simpa [srcS] using hs)
    · obtain ⟨_, h⟩ := h; simp only [blksS, Sh.blk, List.nil_append]; exact mL_tot (ss := ss) (cs := cs) h (by simpa [srcS] using hs)
    · obtain ⟨_, h⟩ := h
      have h0 := hs 0 none (by simp [srcS])
      have := mL_tot (x := x) (k' := k' + 1) h fun i o hi => by
        have := hs (i + 1) o (by simpa [srcS] using hi)
        rwa [show k' + (i + 1) = k' + 1 + i by omega] at this
      simp only [blksS, Sh.blk, List.cons_append, List.nil_append, num, tot, this]
      rw [Nat.add_zero] at h0
      simp [h0, srcV]
    · rename_i E y j
      split at h
      · rename_i hj
        subst hj
        split at h
        · obtain ⟨_, h⟩ := h
          have h0 := hs 0 (some j) (by simp [srcS])
          have := mL_tot (x := x) (k' := k' + 1) h fun i o hi => by
            have := hs (i + 1) o (by simpa [srcS] using hi)
            rwa [show k' + (i + 1) = k' + 1 + i by omega] at this
          simp only [blksS, Sh.blk, List.cons_append, List.nil_append, num, tot, this]
          rw [Nat.add_zero] at h0
          simp [h0, srcV]
        · cases h
      · cases h
    · simp only [blksS, Sh.blk, List.nil_append]; exact mL_tot (ss := ss) (cs := cs) h (by simpa [srcS] using hs)
    · cases h
theorem mL_cell : ∀ {ss : List Sh} {cs : List C} {k : Nat} {bs : List Blk} {k' : Nat}, mL ss cs k bs →
    (∀ (i : Nat) o, (srcS ss cs)[i]? = some o → ρ' (k' + i) = srcV ρ o) → (∀ i, i < nbS ss → D' (k' + i)) →
    (cellsS k' ss).length = cs.length ∧ ∀ (j : Nat) c c', cs[j]? = some c → (cellsS k' ss)[j]? = some c' → ∀ v, RC noH ρ D c v → RC noH ρ' D' c' v
  | [], cs, k, bs, k', h, hs, hd => by
    cases cs <;> cases bs <;> simp only [mL] at h
    exact ⟨rfl, fun j c c' hj => by simp at hj⟩
  | s :: ss, [], k, bs, k', h, hs, hd => by simp [mL] at h
  | s :: ss, c :: cs, k, bs, k', h, hs, hd => by
    have step : ∀ {s : Sh} {c : C} {k2 : Nat} {bs2 : List Blk}, mL ss cs k2 bs2 → (∀ (i : Nat) o, (srcS ss cs)[i]? = some o → ρ' (k' + s.nb + i) = srcV ρ o) → (∀ i, i < nbS ss → D' (k' + s.nb + i)) →
        (∀ v, RC noH ρ D c v → RC noH ρ' D' (s.cell k') v) →
        (cellsS k' (s :: ss)).length = (c :: cs).length ∧ ∀ (j : Nat) c0 c', (c :: cs)[j]? = some c0 → (cellsS k' (s :: ss))[j]? = some c' → ∀ v, RC noH ρ D c0 v → RC noH ρ' D' c' v := by
      intro s c k2 bs2 h hs hd hc
      obtain ⟨h1, h2⟩ := mL_cell h hs hd
      refine ⟨by simp [cellsS, h1], fun j c0 c' hj hj' v hv => ?_⟩
      cases j with
      | zero => simp [cellsS] at hj hj'; subst hj; subst hj'; exact hc v hv
      | succ j => simp [cellsS] at hj hj'; exact h2 j c0 c' hj hj' v hv
    simp only [mL] at h
    unfold mS at h
    split at h
    · split at h
      · rename_i k1 x1 i1 t1 hi1
        obtain ⟨hx, h⟩ := h
        subst hi1
        refine step h (by simpa [srcS, Sh.nb] using hs) (by simpa [nbS, Sh.nb] using hd) fun v hv => ?_
        simp only [RC, Sh.cell] at hv ⊢
        obtain ⟨rfl, h2⟩ := RL.of_int hv
        rw [hx] at h2 ⊢
        exact RL.int (t := x1) h2
      · cases h
    · rename_i x1 t1
      obtain ⟨hx, h⟩ := h
      refine step h (by simpa [srcS, Sh.nb] using hs) (by simpa [nbS, Sh.nb] using hd) fun v hv => ?_
      simp only [RC, Sh.cell] at hv ⊢
      have := RL.of_bool hv
      subst this
      rw [hx]
      exact RL.bool (t := x1)
    · rename_i x1 b1
      obtain ⟨hx, h⟩ := h
      refine step h (by simpa [srcS, Sh.nb] using hs) (by simpa [nbS, Sh.nb] using hd) fun v hv => ?_
      simp only [RC, Sh.cell] at hv ⊢
      subst hv
      rw [hx]
      exact RL.bool (t := x1)
    · rename_i x1 t1
      obtain ⟨hx, h⟩ := h
      refine step h (by simpa [srcS, Sh.nb] using hs) (by simpa [nbS, Sh.nb] using hd) fun v hv => ?_
      simp only [RC, Sh.cell] at hv ⊢
      obtain ⟨rfl, h2⟩ := RL.of_str hv
      rw [hx] at h2 ⊢
      exact RL.str (t := x1) h2
    · rename_i E1 x1
      obtain ⟨hx, h⟩ := h
      refine step h (fun i o hi => ?_) (fun i hi => ?_) fun v hv => ?_
      · have := hs (i + 1) o (by simpa [srcS] using hi)
        rwa [show k' + (i + 1) = k' + 1 + i by omega] at this
      · have := hd (i + 1) (by simp only [nbS, Sh.nb]; omega)
        rwa [show k' + (i + 1) = k' + 1 + i by omega] at this
      · simp only [RC, Sh.cell] at hv ⊢
        refine ⟨hd 0 (by simp only [nbS, Sh.nb]; omega), ?_⟩
        rw [hv, show k' = k' + 0 from rfl, hs 0 none (by simp [srcS])]
        rfl
    · rename_i E1 x1 j1
      split at h
      · rename_i hj
        subst hj
        split at h
        · obtain ⟨hx, h⟩ := h
          refine step h (fun i o hi => ?_) (fun i hi => ?_) fun v hv => ?_
          · have := hs (i + 1) o (by simpa [srcS] using hi)
            rwa [show k' + (i + 1) = k' + 1 + i by omega] at this
          · have := hd (i + 1) (by simp only [nbS, Sh.nb]; omega)
            rwa [show k' + (i + 1) = k' + 1 + i by omega] at this
          · simp only [RC, Sh.cell] at hv ⊢
            refine ⟨hd 0 (by simp only [nbS, Sh.nb]; omega), ?_⟩
            rw [hv.2, show k' = k' + 0 from rfl, hs 0 (some j1) (by simp [srcS])]
            rfl
        · cases h
      · cases h
    · refine step h (by simpa [srcS, Sh.nb] using hs) (by simpa [nbS, Sh.nb] using hd) fun v hv => ?_
      exact trivial
    · cases h
theorem cellsS_app : ∀ {ss ts : List Sh} {k : Nat}, cellsS k (ss ++ ts) = cellsS k ss ++ cellsS (k + nbS ss) ts
  | [], ts, k => by simp [cellsS, nbS]
  | s :: ss, ts, k => by simp only [List.cons_append, cellsS, cellsS_app (ss := ss), nbS, Nat.add_assoc]
theorem cellsS_len : ∀ {ss : List Sh} {k : Nat}, (cellsS k ss).length = ss.length
  | [], _ => rfl
  | s :: ss, k => by simp [cellsS, cellsS_len (ss := ss)]
theorem cellsP_ok : ∀ {ps : List (Bool × List Sh)} {qs : List (Bool × List C)} {k : Nat}, sameP ps qs = true →
    (∀ (j : Nat) c c', (flatC qs)[j]? = some c → (cellsS k (flatS ps))[j]? = some c' → ∀ v, RC noH ρ D c v → RC noH ρ' D' c' v) →
    (cellsP k ps).length = qs.length ∧ ∀ (j : Nat) q p, qs[j]? = some q → (cellsP k ps)[j]? = some p → ∀ v, RT noH ρ D q v → RT noH ρ' D' p v
  | [], qs, k, h, hc => by
    cases qs <;> simp only [sameP] at h
    · exact ⟨rfl, fun j q p hj => by simp at hj⟩
    · cases h
  | p0 :: ps, [], k, h, hc => by simp [sameP] at h
  | p0 :: ps, q0 :: qs, k, h, hc => by
    simp only [sameP, Bool.and_eq_true, beq_iff_eq] at h
    obtain ⟨⟨h1, h2⟩, h3⟩ := h
    have hl : (cellsS k p0.2).length = q0.2.length := by rw [cellsS_len, h2]
    obtain ⟨h4, h5⟩ := cellsP_ok (k := k + nbS p0.2) h3 fun j c c' hj hj' => hc (q0.2.length + j) c c' (by
        simp only [flatC]; rw [List.getElem?_append_right (Nat.le_add_right _ _), Nat.add_sub_cancel_left]; exact hj) (by
        simp only [flatS, cellsS_app]; rw [List.getElem?_append_right (by omega), hl, Nat.add_sub_cancel_left]; exact hj')
    refine ⟨by simp [cellsP, h4], fun j q p hj hj' v hv => ?_⟩
    cases j with
    | succ j => simp [cellsP] at hj hj'; exact h5 j q p hj hj' v hv
    | zero =>
      simp [cellsP] at hj hj'
      subst hj; subst hj'
      have hcell : ∀ (j : Nat) c c', q0.2[j]? = some c → (cellsS k p0.2)[j]? = some c' → ∀ v, RC noH ρ D c v → RC noH ρ' D' c' v := fun j c c' hj hj' => by
        have hlt := lt_of_get hj
        exact hc j c c' (by simp only [flatC]; rw [List.getElem?_append_left hlt]; exact hj) (by
          simp only [flatS, cellsS_app]; rw [List.getElem?_append_left (by omega)]; exact hj')
      obtain ⟨b, ss⟩ := p0
      obtain ⟨b', cs⟩ := q0
      simp only at h1 hl hcell
      subst h1
      cases b with
      | true =>
        obtain ⟨vs, h6, h7, h8⟩ := hv
        refine ⟨vs, h6, by simp only at h7 ⊢; omega, fun j c hj => ?_⟩
        simp only at hj h8
        obtain ⟨c0, hc0⟩ : ∃ c0, cs[j]? = some c0 := ⟨_, List.getElem?_eq_getElem (by have := lt_of_get hj; omega)⟩
        exact hcell j c0 c hc0 hj _ (h8 j c0 hc0)
      | false =>
        obtain ⟨c, h6, h7⟩ := hv
        simp only at h6
        subst h6
        simp only [List.length_singleton] at hl
        obtain ⟨c', hc'⟩ : ∃ c', cellsS k ss = [c'] := List.length_eq_one_iff.1 hl
        exact ⟨c', hc', hcell 0 c c' rfl (by rw [hc']; rfl) _ h7⟩
end
theorem Ret.canon {h : Array Obj} {H0 H' : Hp} {ρ : Rho} {s : RSh} {r : V} {nb : List Blk} {v : Value} (hret : Ret s r nb) (hb : RelB h H0 H' ρ (num 0 nb)) (hv : RV noH ρ (dom (num 0 nb)) r v) :
    ∃ ρ', s.bs.all ownB = true ∧ RelB h H0 H' ρ' (num 0 s.bs) ∧ RV noH ρ' (dom (num 0 s.bs)) s.v v := by
  obtain ⟨ss, cs, hm, hbs, hcan⟩ : ∃ ss cs, mL ss cs 0 nb ∧ s.bs = blksS ss ∧ ∀ {ρ' : Rho} {D' : Nat → Prop},
      (∀ (j : Nat) c c', cs[j]? = some c → (cellsS 0 ss)[j]? = some c' → ∀ v, RC noH ρ (dom (num 0 nb)) c v → RC noH ρ' D' c' v) → RV noH ρ' D' s.v v := by
    unfold Ret at hret
    split at hret
    · rename_i s x
      refine ⟨[s], [x], hret, by simp [RSh.bs, blksS], fun hc => ?_⟩
      exact hc 0 x _ rfl rfl v hv
    · rename_i ss cs
      refine ⟨ss, cs, hret, rfl, fun hc => ?_⟩
      obtain ⟨us, h1, h2, h3⟩ := hv
      have hl : (cellsS 0 ss).length = cs.length := (mL_cell (ρ := ρ) (ρ' := fun i => match (srcS ss cs)[i]? with | some o => srcV ρ o | none => default) (D := fun _ => True) (D' := fun _ => True) hret (fun i o hi => by simp [hi]) fun _ _ => trivial).1
      refine ⟨us, h1, by simp only [hl]; exact h2, fun j c hj => ?_⟩
      obtain ⟨c0, hc0⟩ : ∃ c0, cs[j]? = some c0 := ⟨_, List.getElem?_eq_getElem (by have := lt_of_get hj; omega)⟩
      exact hc j c0 c hc0 hj _ (h3 j c0 hc0)
    · rename_i ps qs
      split at hret
      · rename_i hsame
        refine ⟨flatS ps, flatC qs, hret, rfl, fun hc => ?_⟩
        obtain ⟨us, h1, h2, h3⟩ := hv
        obtain ⟨h4, h5⟩ := cellsP_ok hsame hc
        refine ⟨us, h1, by rw [h4]; exact h2, fun j p hj => ?_⟩
        obtain ⟨q, hq⟩ : ∃ q, qs[j]? = some q := ⟨_, List.getElem?_eq_getElem (by have := lt_of_get hj; omega)⟩
        exact h5 j q p hq hj _ (h3 j q hq)
      · cases hret
    · cases hret
  obtain ⟨hl, hn, hblk⟩ := mL_blk hm
  let ρ' : Rho := fun i => match (srcS ss cs)[i]? with | some o => srcV ρ o | none => default
  have hρ : ∀ (i : Nat) o, (srcS ss cs)[i]? = some o → ρ' (0 + i) = srcV ρ o := fun i o hi => by simp only [ρ', Nat.zero_add, hi]
  have hmem : ∀ k B, (k, B) ∈ num 0 (blksS ss) → ∃ E x, B = .own E x false ∧ ((ρ' k = (.slice none 0 0, fun _ => 0) ∧ x () = []) ∨ ∃ j, ρ' k = ρ j ∧ (j, Blk.own E x false) ∈ num 0 nb) := fun k B hk => by
    obtain ⟨_, h1⟩ := mem_num.1 hk
    obtain ⟨E, x, h2, h3⟩ := hblk k B (by simpa using h1)
    refine ⟨E, x, h2, ?_⟩
    rcases h3 with ⟨h3, h4⟩ | ⟨j, h3, h4, h5⟩
    · exact .inl ⟨by have := hρ k none h3; rw [Nat.zero_add] at this; exact this, h4⟩
    · exact .inr ⟨j, by have := hρ k _ h3; rw [Nat.zero_add] at this; exact this, mem_num.2 ⟨Nat.zero_le _, h5⟩⟩
  refine ⟨ρ', ?_, ?_, hcan ?_⟩
  · rw [hbs]
    refine List.all_eq_true.2 fun B hB => ?_
    obtain ⟨j, hj, hjB⟩ := List.getElem_of_mem hB
    obtain ⟨E, x, rfl, _⟩ := hblk j B (by rw [List.getElem?_eq_getElem hj, hjB])
    rfl
  · rw [hbs]
    refine ⟨fun k hk => ?_, nodup_num, hb.h0, hb.hh, fun k B hk => ?_, fun x => ?_, fun k B hk x hx => ?_, fun k B hk x hx => ?_⟩
    · obtain ⟨⟨k', B⟩, hkB, rfl⟩ := List.mem_map.1 hk
      obtain ⟨E, x, rfl, ⟨h1, _⟩ | ⟨j, h1, h2⟩⟩ := hmem k' B hkB
      · rw [h1]; rfl
      · rw [h1]; exact hb.oc j (List.mem_map.2 ⟨_, h2, rfl⟩)
    · obtain ⟨E, x, rfl, ⟨h1, h3⟩ | ⟨j, h1, h2⟩⟩ := hmem k B hk
      · rw [h1]; exact OwnL.nil h3
      · rw [h1]; exact hb.blk j _ h2
    · rw [mL_tot hm hρ]; exact hb.sum x
    · obtain ⟨E, y, rfl, ⟨h1, _⟩ | ⟨j, h1, h2⟩⟩ := hmem k B hk
      · rw [h1] at hx; simp at hx
      · rw [h1] at hx; exact hb.fresh j _ h2 x hx
    · obtain ⟨E, y, rfl, ⟨h1, _⟩ | ⟨j, h1, h2⟩⟩ := hmem k B hk
      · rw [h1] at hx; simp [Top] at hx
      · rw [h1] at hx; exact hb.tops j _ h2 x hx
  · rw [hbs]
    exact (mL_cell hm hρ fun i hi => dom_num.2 ⟨Nat.zero_le _, by rw [Nat.zero_add, Nat.zero_add, ← hn]; exact hi⟩).2
theorem Spec.can {P : Program} {f : FuncId} {as : List V} {s : RSh} (h : Spec P f as (Ret s)) : Spec P f as fun r nb => r = s.v ∧ nb = s.bs := by
  refine ⟨h.1, fun w vs ha => Calls.mono (h.2 w vs ha) fun e w' hw => ?_⟩
  obtain ⟨v, r, nb, H', ρ, rfl, hret, hown, hb, hv, hsz⟩ := hw
  obtain ⟨ρ', h1, h2, h3⟩ := hret.canon hb hv
  exact ⟨v, s.v, s.bs, H', ρ', rfl, ⟨rfl, rfl⟩, h1, h2, h3, hsz⟩
def RetX (X : Type) (φ : X → Prop) (s : X → RSh) (r : V) (nb : List Blk) : Prop := ∃ x, φ x ∧ Ret (s x) r nb
theorem Spec.canX {P : Program} {f : FuncId} {as : List V} {X : Type} {φ : X → Prop} {s : X → RSh} (h : Spec P f as (RetX X φ s)) : Spec P f as fun r nb => ∃ x, φ x ∧ r = (s x).v ∧ nb = (s x).bs := by
  refine ⟨h.1, fun w vs ha => Calls.mono (h.2 w vs ha) fun e w' hw => ?_⟩
  obtain ⟨v, r, nb, H', ρ, rfl, ⟨x, hx, hret⟩, hown, hb, hv, hsz⟩ := hw
  obtain ⟨ρ', h1, h2, h3⟩ := hret.canon hb hv
  exact ⟨v, (s x).v, (s x).bs, H', ρ', rfl, ⟨x, hx, rfl, rfl⟩, h1, h2, h3, hsz⟩
theorem Br.dec {p : Prop} [Decidable p] {K : Bool → Prop} (h1 : p → K true) (h0 : ¬ p → K false) : Br (fun _ => decide p) K :=
  Br.split (fun h => h1 (of_decide_eq_true h)) fun h => h0 (of_decide_eq_false h)
theorem spec_of {P : Program} {tab : Tab} (hT : tabB P tab = true) {f : FuncId} {fn : Func} {c : Code} (hf : P.funcs[f]? = some fn) (hb : fn.body = some c) (hnm : (fn.name == "runtime.NumGoroutine") = false)
    {fr : Bool} (hfr : fr = true → codeFree c = true) {as : List V} {post : V → List Blk → Prop} (h : ∀ P', P' = P → okAs as → vcFunc P' tab fr fn c as post) : Spec P f as post := spec_of_vc hT hf hb hnm hfr (h P rfl)
theorem CallA.by {P P0 : Program} {f : FuncId} {as : List V} {K : V → List Blk → Prop} {s : RSh} (hP : P = P0) (h : Spec P0 f as (Ret s)) (hk : K s.v s.bs) : CallA P f as K := by
  subst hP
  exact ⟨_, h.can, fun r nb ⟨h1, h2⟩ => by rw [h1, h2]; exact hk⟩
theorem CallA.byE {P P0 : Program} {f : FuncId} {as as' : List V} {K : V → List Blk → Prop} {s : RSh} (hP : P = P0) (h : Spec P0 f as (Ret s)) (ha : as' = as) (hk : K s.v s.bs) : CallA P f as' K := by
  subst ha
  exact CallA.by hP h hk
theorem CallA.ex {P P0 : Program} {f : FuncId} {as : List V} {K : V → List Blk → Prop} {X : Type} {φ : X → Prop} {s : X → RSh} (hP : P = P0) (h : Spec P0 f as (RetX X φ s)) (hk : ∀ x, φ x → K (s x).v (s x).bs) : CallA P f as K := by
  subst hP
  exact ⟨_, h.canX, fun r nb ⟨x, hx, h1, h2⟩ => by rw [h1, h2]; exact hk x hx⟩
def iA (x : Int) : V := .c (.lf (.int .i64 fun _ => x))
def lA (E : ETy) (x : List E.α) : V := .c (.lf (.list E fun _ => x))
def eA (E : ETy) (x : E.α) : V := .agg ((cellsT E fun _ => x).map .lf)
def iR (x : Unit → Int) : RSh := .c (.int .i64 x)
def bR (x : Unit → Bool) : RSh := .c (.bool x)
def eR : (E : ETy) → (Unit → E.α) → RSh
  | .int, x => .c (.int .i64 x)
  | .byte, x => .c (.int .u8 fun _ => ((x ()).toNat : Int))
  | .str, x => .c (.str x)
  | .pin, x => .agg [.int .i64 fun _ => (x ()).tm, .int .i64 fun _ => (x ()).pid]
  | .ent, x => .agg [.int .i64 fun _ => (x ()).lvl, .int .i64 fun _ => (x ()).turn, .int .i64 fun _ => (x ()).eid, .int .i64 fun _ => (x ()).siz]
  | .pty, x => .agg [.int .i64 fun _ => (x ()).id, .int .i64 fun _ => (x ()).cab, .int .i64 fun _ => (x ()).frm, .int .i64 fun _ => (x ()).siz, .int .i64 fun _ => (x ()).tier,
      .int .i64 fun _ => (x ()).since, .int .i64 fun _ => (x ()).turn, .int .i64 fun _ => (x ()).st, .int .i64 fun _ => (x ()).untl, .int .i64 fun _ => (x ()).asked]
  | .spk, x => .c (.own .pin x)
  | .cab, x => .agg [.int .i64 fun _ => (x ()).seats.total, .int .i64 fun _ => (x ()).seats.free, .int .i64 fun _ => (x ()).seats.held, .int .i64 fun _ => (x ()).seats.sold, .int .i64 fun _ => (x ()).seats.tied,
      .own .ent fun _ => (x ()).row, .own .spk fun _ => (x ()).spoke]
  | .req, x => .agg [.int .i64 fun _ => (x ()).kind, .int .i64 fun _ => (x ()).id, .int .i64 fun _ => (x ()).cab, .int .i64 fun _ => (x ()).frm, .int .i64 fun _ => (x ()).siz, .int .i64 fun _ => (x ()).tier]
  | .rep, x => .agg [.int .i64 fun _ => (x ()).code, .own .int fun _ => (x ()).ids]
def lR (E : ETy) (x : Unit → List E.α) : RSh := .c (.own E x)
end Go.Proofs.Ytlochjpjlhkjaaa
namespace Go.Proofs.Ytlochjpjlhkjaaa
open Go
inductive KC where
  | int (k : IntKind) (x : Unit → Int)
  | bool (x : Unit → Bool)
  | str (x : Unit → List UInt8)
  | nm (j : Nat)
inductive KSh where
  | own (E : ETy) (x : Unit → List E.α)
  | box (cs : List KC)
  | vw
def KC.c : KC → C
  | .int k x => .lf (.int k x)
  | .bool x => .lf (.bool x)
  | .str x => .lf (.str x)
  | .nm j => .own j
def kcs : List KC → List C
  | [] => []
  | c :: cs => c.c :: kcs cs
def KSh.blk : KSh → Blk
  | .own E x => .own E x false
  | .box cs => .box (kcs cs)
  | .vw => .dead
def kblks : List (Nat × KSh) → List (Nat × Blk)
  | [] => []
  | p :: r => (p.1, p.2.blk) :: kblks r
def appB : List (Nat × Blk) → List (Nat × Blk) → List (Nat × Blk)
  | [], bs => bs
  | p :: r, bs => p :: appB r bs
def tgtB (s : RSh) (kp : List (Nat × KSh)) : List (Nat × Blk) := appB (kblks kp) (num 100 s.bs)
def tgtV (s : RSh) : V := s.v.ren (100 + ·)
def matS (s : Sh) (c : C) (kk : Nat) : C × List (Nat × ETy) :=
  match s, c with
  | .own E _, .nil => (.own kk, [(kk, E)])
  | _, c => (c, [])
def matL : List Sh → List C → Nat → List C × List (Nat × ETy)
  | s :: ss, c :: cs, kk => match matS s c kk, matL ss cs (kk + 1) with | (c', l), (cs', l') => (c' :: cs', l ++ l')
  | _, cs, _ => (cs, [])
def matP : List (Bool × List Sh) → List (Bool × List C) → Nat → List (Bool × List C) × List (Nat × ETy)
  | p :: ps, q :: qs, kk => match matL p.2 q.2 kk, matP ps qs (kk + 100) with | (cs, l), (r, l') => ((q.1, cs) :: r, l ++ l')
  | _, qs, _ => (qs, [])
def matV (s : RSh) (v : V) (kk : Nat) : V × List (Nat × ETy) :=
  match s, v with
  | .c s, .c x => (match matS s x kk with | (x', l) => (.c x', l))
  | .agg ss, .agg cs => (match matL ss cs kk with | (cs', l) => (.agg cs', l))
  | .tup ps, .tup qs => (match matP ps qs kk with | (qs', l) => (.tup qs', l))
  | _, v => (v, [])
def insMat : List (Nat × ETy) → List (Nat × Blk) → Option (List (Nat × Blk))
  | [], bs => some bs
  | p :: r, bs => match getB bs p.1 with | none => insMat r (insB bs p.1 (.own p.2 (fun _ => []) false)) | some _ => none
def mLf (l l0 : Lf) (K : Prop) : Prop :=
  match l, l0 with
  | .int i t, .int k x => if i = k then Eqn (fun _ => t () = x ()) K else False
  | .bool t, .bool x => Eqn (fun _ => t () = x ()) K
  | .str t, .str x => Eqn (fun _ => t () = x ()) K
  | .list E' t, .list E x => Eqn (fun _ => eqL E E' x t) K
  | _, _ => False
def mLfs : List Lf → List Lf → Prop → Prop
  | [], [], K => K
  | l :: ls, m :: ms, K => mLf l m (mLfs ls ms K)
  | _, _, _ => False
def mCp (c c0 : Cp) (K : Prop) : Prop :=
  match c, c0 with
  | .pcs ls o, .pcs ms o' => if o = o' then mLfs ls ms K else False
  | _, _ => False
def mCps : List Cp → List Cp → Prop → Prop
  | [], [], K => K
  | l :: ls, m :: ms, K => mCp l m (mCps ls ms K)
  | _, _, _ => False
def mC (c c0 : C) (K : Prop) : Prop :=
  match c, c0 with
  | _, .undef => K
  | .lf l, .lf l0 => mLf l l0 K
  | .bl b, .lf (.bool x) => Eqn (fun _ => b = x ()) K
  | .bl b, .bl b' => if b = b' then K else False
  | .own j, .own k => if j = k then K else False
  | .nil, .nil => K
  | .ptr j o, .ptr k o' => if j = k ∧ o = o' then K else False
  | .fn f l, .fn g m => if f = g then mCps l m K else False
  | _, _ => False
def mCs : List C → List C → Prop → Prop
  | [], [], K => K
  | c :: cs, d :: ds, K => mC c d (mCs cs ds K)
  | _, _, _ => False
def mPs : List (Bool × List C) → List (Bool × List C) → Prop → Prop
  | [], [], K => K
  | p :: ps, q :: qs, K => if p.1 = q.1 then mCs p.2 q.2 (mPs ps qs K) else False
  | _, _, _ => False
def mV (v v0 : V) (K : Prop) : Prop :=
  match v, v0 with
  | .c x, .c y => mC x y K
  | .agg xs, .agg ys => mCs xs ys K
  | .tup ps, .tup qs => mPs ps qs K
  | _, _ => False
def mBs : List (Nat × Blk) → List (Nat × Blk) → Prop → Prop
  | [], [], K => K
  | p :: ps, q :: qs, K =>
    if p.1 = q.1 then
      match p.2, q.2 with
      | .own E' t false, .own E x false => Eqn (fun _ => eqL E E' x t) (mBs ps qs K)
      | .box cs, .box ds => mCs cs ds (mBs ps qs K)
      | .mp t, .mp x => Eqn (fun _ => t () = x ()) (mBs ps qs K)
      | .view _ _, .dead => mBs ps qs K
      | .view E' t, .view E x => Eqn (fun _ => eqL E E' x t) (mBs ps qs K)
      | _, _ => False
    else False
  | _, _, _ => False
def selfN : List (Nat × KSh) → List (Nat × Nat)
  | [] => []
  | p :: r => (p.1, p.1) :: selfN r
def newN : List Nat → Nat → List (Nat × Nat)
  | [], _ => []
  | k :: ks, j => (k, j) :: newN ks (j + 1)
def appN : List (Nat × Nat) → List (Nat × Nat) → List (Nat × Nat)
  | [], b => b
  | p :: r, b => p :: appN r b
def finM (tab : Tab) (rs : List ResultVar) (s : RSh) (kp : List (Nat × KSh)) (σ : SS) : Prop :=
  match resultV tab σ rs with
  | some r =>
    match matV s r 9000000 with
    | (r', l) =>
      match insMat l (closeAll (σ.blk.map (·.1)) σ.blk) with
      | some bs =>
        match keepB bs (appN (selfN kp) (newN (namesV r') 100)) (appN (selfN kp) (newN (namesV r') 100)) with
        | some out =>
          if nodupB ((appN (selfN kp) (newN (namesV r') 100)).map (·.1)) = true ∧ nodupB ((appN (selfN kp) (newN (namesV r') 100)).map (·.2)) = true ∧ (r'.scr (appN (selfN kp) (newN (namesV r') 100))).cl = true then
            mBs out (tgtB s kp) (mV (r'.scr (appN (selfN kp) (newN (namesV r') 100))) (tgtV s) True)
          else False
        | none => False
      | none => False
  | none => False
theorem eqL_lf {E E' : ETy} {x : Unit → List E.α} {t : Unit → List E'.α} (h : eqL E E' x t) : Lf.list E' t = Lf.list E x := by
  have := eqL_eq (l := false) h
  injection this with h1 h2
  subst h1
  rw [eq_of_heq h2]
theorem mLf_ok {l l0 : Lf} {K : Prop} (h : mLf l l0 K) : K ∧ ∀ {H : Hp} {v : Value}, RL H l v → RL H l0 v := by
  unfold mLf at h
  split at h
  · split at h
    · rename_i hi
      obtain ⟨h1, h2⟩ := h
      refine ⟨h2, fun {H v} hv => ?_⟩
      subst hi
      obtain ⟨rfl, h3⟩ := RL.of_int hv
      rw [h1] at h3 ⊢
      exact RL.int h3
    · cases h
  · obtain ⟨h1, h2⟩ := h
    refine ⟨h2, fun {H v} hv => ?_⟩
    have := RL.of_bool hv
    subst this
    rw [h1]
    exact RL.bool
  · obtain ⟨h1, h2⟩ := h
    refine ⟨h2, fun {H v} hv => ?_⟩
    obtain ⟨rfl, h3⟩ := RL.of_str hv
    rw [h1] at h3 ⊢
    exact RL.str h3
  · obtain ⟨h1, h2⟩ := h
    refine ⟨h2, fun {H v} hv => ?_⟩
    rw [← eqL_lf h1]
    exact hv
  · cases h
theorem mLfs_ok : ∀ {ls ms : List Lf} {K : Prop}, mLfs ls ms K → K ∧ ∀ {H : Hp} {j : Nat} {m : Lf}, ms[j]? = some m → ∃ l, ls[j]? = some l ∧ ∀ {v : Value}, RL H l v → RL H m v
  | [], [], K, h => ⟨h, fun hj => by simp at hj⟩
  | [], _ :: _, K, h => by cases h
  | _ :: _, [], K, h => by cases h
  | l :: ls, m :: ms, K, h => by
    simp only [mLfs] at h
    obtain ⟨h1, h2⟩ := mLf_ok h
    obtain ⟨h3, h5⟩ := mLfs_ok h1
    refine ⟨h3, fun {H j e} hj => ?_⟩
    cases j with
    | zero => simp at hj; subst hj; exact ⟨l, rfl, h2⟩
    | succ j => simpa using h5 (by simpa using hj)
theorem mCp_ok {c c0 : Cp} {K : Prop} (h : mCp c c0 K) : K ∧ ∀ {H : Hp} {ρ : Rho} {D : Nat → Prop} {v : Value}, RCp H ρ D c v → RCp H ρ D c0 v := by
  unfold mCp at h
  split at h
  · split at h
    · rename_i ho
      subst ho
      obtain ⟨h1, h2⟩ := mLfs_ok h
      refine ⟨h1, fun {H ρ D v} hv => ?_⟩
      obtain ⟨b, o, cs, e, fz, g1, g2, g3⟩ := hv
      refine ⟨b, o, cs, e, fz, g1, g2, fun j m hj => ?_⟩
      obtain ⟨l, hl, hi⟩ := h2 hj
      exact ⟨(g3 j l hl).1, hi (g3 j l hl).2⟩
    · cases h
  · cases h
theorem mCps_ok : ∀ {ls ms : List Cp} {K : Prop}, mCps ls ms K → K ∧ ls.length = ms.length ∧ ∀ {H : Hp} {ρ : Rho} {D : Nat → Prop} {j : Nat} {m : Cp}, ms[j]? = some m → ∃ l, ls[j]? = some l ∧ ∀ {v : Value}, RCp H ρ D l v → RCp H ρ D m v
  | [], [], K, h => ⟨h, rfl, fun hj => by simp at hj⟩
  | [], _ :: _, K, h => by cases h
  | _ :: _, [], K, h => by cases h
  | l :: ls, m :: ms, K, h => by
    simp only [mCps] at h
    obtain ⟨h1, h2⟩ := mCp_ok h
    obtain ⟨h3, h4, h5⟩ := mCps_ok h1
    refine ⟨h3, by simp [h4], fun {H ρ D j e} hj => ?_⟩
    cases j with
    | zero => simp at hj; subst hj; exact ⟨l, rfl, h2⟩
    | succ j => simpa using h5 (by simpa using hj)
theorem mC_ok {c c0 : C} {K : Prop} (h : mC c c0 K) : K ∧ ∀ {H : Hp} {ρ : Rho} {D : Nat → Prop} {v : Value}, RC H ρ D c v → RC H ρ D c0 v := by
  unfold mC at h
  split at h
  · exact ⟨h, fun _ => trivial⟩
  · obtain ⟨h1, h2⟩ := mLf_ok h
    exact ⟨h1, fun hv => h2 hv⟩
  · obtain ⟨h1, h2⟩ := h
    refine ⟨h2, fun {H ρ D v} hv => ?_⟩
    simp only [RC] at hv ⊢
    subst hv
    rw [h1]
    exact RL.bool
  · split at h
    · rename_i hb; subst hb; exact ⟨h, fun hv => hv⟩
    · cases h
  · split at h
    · rename_i hj; subst hj; exact ⟨h, fun hv => hv⟩
    · cases h
  · exact ⟨h, fun hv => hv⟩
  · split at h
    · rename_i hj; obtain ⟨rfl, rfl⟩ := hj; exact ⟨h, fun hv => hv⟩
    · cases h
  · split at h
    · rename_i hf
      subst hf
      obtain ⟨h1, h2, h3⟩ := mCps_ok h
      refine ⟨h1, fun {H ρ D v} hv => ?_⟩
      obtain ⟨vs, g1, g2, g3⟩ := hv
      refine ⟨vs, g1, by rw [g2, h2], fun j m hj => ?_⟩
      obtain ⟨l, hl, hi⟩ := h3 hj
      exact hi (g3 j l hl)
    · cases h
  · cases h
theorem mCs_ok : ∀ {cs ds : List C} {K : Prop}, mCs cs ds K → K ∧ cs.length = ds.length ∧ ∀ {H : Hp} {ρ : Rho} {D : Nat → Prop} {j : Nat} {d : C}, ds[j]? = some d → ∃ c, cs[j]? = some c ∧ ∀ {v : Value}, RC H ρ D c v → RC H ρ D d v
  | [], [], K, h => ⟨h, rfl, fun hj => by simp at hj⟩
  | [], _ :: _, K, h => by cases h
  | _ :: _, [], K, h => by cases h
  | c :: cs, d :: ds, K, h => by
    simp only [mCs] at h
    obtain ⟨h1, h2⟩ := mC_ok h
    obtain ⟨h3, h4, h5⟩ := mCs_ok h1
    refine ⟨h3, by simp [h4], fun {H ρ D j e} hj => ?_⟩
    cases j with
    | zero => simp at hj; subst hj; exact ⟨c, rfl, h2⟩
    | succ j => simpa using h5 (by simpa using hj)
theorem mCs_RCs {cs ds : List C} {K : Prop} (h : mCs cs ds K) {H : Hp} {ρ : Rho} {D : Nat → Prop} {vs : Array Value} (hv : RCs H ρ D cs vs) : RCs H ρ D ds vs := by
  obtain ⟨_, h4, h5⟩ := mCs_ok h
  refine ⟨by rw [← h4]; exact hv.1, fun j d hj => ?_⟩
  obtain ⟨c, hc, hi⟩ := h5 hj
  exact hi (hv.2 j c hc)
theorem mPs_ok : ∀ {ps qs : List (Bool × List C)} {K : Prop}, mPs ps qs K → K ∧ ps.length = qs.length ∧ ∀ {H : Hp} {ρ : Rho} {D : Nat → Prop} {j : Nat} {q : Bool × List C}, qs[j]? = some q → ∃ p, ps[j]? = some p ∧ ∀ {v : Value}, RT H ρ D p v → RT H ρ D q v
  | [], [], K, h => ⟨h, rfl, fun hj => by simp at hj⟩
  | [], _ :: _, K, h => by cases h
  | _ :: _, [], K, h => by cases h
  | p :: ps, q :: qs, K, h => by
    simp only [mPs] at h
    split at h
    · rename_i hpq
      obtain ⟨h1, h2, _⟩ := mCs_ok h
      obtain ⟨h3, h4, h5⟩ := mPs_ok h1
      refine ⟨h3, by simp [h4], fun {H ρ D j e} hj => ?_⟩
      cases j with
      | zero =>
        simp at hj; subst hj
        refine ⟨p, rfl, fun {v} hv => ?_⟩
        obtain ⟨b, cs⟩ := p
        obtain ⟨b', ds⟩ := q
        simp only at hpq h2 h
        subst hpq
        cases b with
        | true => obtain ⟨vs, g1, g2⟩ := hv; exact ⟨vs, g1, mCs_RCs h g2⟩
        | false =>
          obtain ⟨c, g1, g2⟩ := hv
          simp only at g1
          subst g1
          obtain ⟨d, rfl⟩ : ∃ d, ds = [d] := List.length_eq_one_iff.1 (by simpa using h2.symm)
          refine ⟨d, rfl, ?_⟩
          obtain ⟨c', hc', hi⟩ := (mCs_ok h).2.2 (H := H) (ρ := ρ) (D := D) (j := 0) (d := d) rfl
          simp at hc'
          subst hc'
          exact hi g2
      | succ j => simpa using h5 (by simpa using hj)
    · cases h
theorem mV_ok {v v0 : V} {K : Prop} (h : mV v v0 K) : K ∧ ∀ {H : Hp} {ρ : Rho} {D : Nat → Prop} {x : Value}, RV H ρ D v x → RV H ρ D v0 x := by
  unfold mV at h
  split at h
  · exact mC_ok h
  · exact ⟨(mCs_ok h).1, fun ⟨vs, h1, h2⟩ => ⟨vs, h1, mCs_RCs h h2⟩⟩
  · obtain ⟨h1, h2, h3⟩ := mPs_ok h
    refine ⟨h1, fun {H ρ D x} ⟨vs, g1, g2, g3⟩ => ⟨vs, g1, by rw [g2, h2], fun j q hj => ?_⟩⟩
    obtain ⟨p, hp, hi⟩ := h3 hj
    exact hi (g3 j p hp)
  · cases h
theorem mBs_ok : ∀ {ps qs : List (Nat × Blk)} {K : Prop}, mBs ps qs K → K ∧ qs.map (·.1) = ps.map (·.1) ∧ ∀ k B', (k, B') ∈ qs → ∃ B, (k, B) ∈ ps ∧
    (∀ {h : Array Obj} {H : Hp} {ρ : Rho} {D : Nat → Prop} {p : Value × (Nat → Nat)}, BlkR h H ρ D B p → BlkR h H ρ D B' p) ∧ ∀ (p : Value × (Nat → Nat)) x, Top B' p x → Top B p x
  | [], [], K, h => ⟨h, rfl, fun k B' hk => by cases hk⟩
  | [], _ :: _, K, h => by cases h
  | _ :: _, [], K, h => by cases h
  | (k, A) :: ps, (k', A') :: qs, K, h => by
    simp only [mBs] at h
    split at h
    · rename_i hk
      subst hk
      split at h
      · rename_i E' t E x
        obtain ⟨h1, h⟩ := h
        obtain ⟨h2, h3, h4⟩ := mBs_ok h
        have he := eqL_eq (l := false) h1
        refine ⟨h2, by simp [h3], fun j B' hj => ?_⟩
        rcases List.mem_cons.1 hj with hj | hj
        · cases hj; exact ⟨_, List.mem_cons_self, by rw [he]; exact ⟨fun h => h, fun _ _ h => h⟩⟩
        · obtain ⟨B, g1, g2⟩ := h4 j B' hj; exact ⟨B, List.mem_cons_of_mem _ g1, g2⟩
      · rename_i cs ds
        have hm := h
        obtain ⟨h, _, _⟩ := mCs_ok h
        obtain ⟨h2, h3, h4⟩ := mBs_ok h
        refine ⟨h2, by simp [h3], fun j B' hj => ?_⟩
        rcases List.mem_cons.1 hj with hj | hj
        · cases hj
          exact ⟨_, List.mem_cons_self, fun ⟨b, vs, e, fz, e1, e2, e3, e4, e5⟩ => ⟨b, vs, e, fz, e1, e2, e3, e4, mCs_RCs hm e5⟩, fun _ _ h => h⟩
        · obtain ⟨B, g1, g2⟩ := h4 j B' hj; exact ⟨B, List.mem_cons_of_mem _ g1, g2⟩
      · rename_i t x
        obtain ⟨h1, h⟩ := h
        obtain ⟨h2, h3, h4⟩ := mBs_ok h
        have h1 : t () = x () := h1
        refine ⟨h2, by simp [h3], fun j B' hj => ?_⟩
        rcases List.mem_cons.1 hj with hj | hj
        · cases hj
          exact ⟨_, List.mem_cons_self, fun ⟨b, es, c, e1, e2, e3, e4⟩ => ⟨b, es, c, e1, e2, e3, by rw [← h1]; exact e4⟩, fun _ _ h => h⟩
        · obtain ⟨B, g1, g2⟩ := h4 j B' hj; exact ⟨B, List.mem_cons_of_mem _ g1, g2⟩
      · obtain ⟨h2, h3, h4⟩ := mBs_ok h
        refine ⟨h2, by simp [h3], fun j B' hj => ?_⟩
        rcases List.mem_cons.1 hj with hj | hj
        · cases hj
          exact ⟨_, List.mem_cons_self, fun h => h.2, fun _ _ h => h⟩
        · obtain ⟨B, g1, g2⟩ := h4 j B' hj; exact ⟨B, List.mem_cons_of_mem _ g1, g2⟩
      · rename_i E' t E x
        obtain ⟨h1, h⟩ := h
        obtain ⟨h2, h3, h4⟩ := mBs_ok h
        have he := eqL_lf h1
        refine ⟨h2, by simp [h3], fun j B' hj => ?_⟩
        rcases List.mem_cons.1 hj with hj | hj
        · cases hj; exact ⟨_, List.mem_cons_self, fun ⟨q1, q2⟩ => ⟨by rw [← he]; exact q1, q2⟩, fun _ _ h => h⟩
        · obtain ⟨B, g1, g2⟩ := h4 j B' hj; exact ⟨B, List.mem_cons_of_mem _ g1, g2⟩
      · cases h
    · cases h
theorem tot_keys {ρ : Rho} {x : Nat} : ∀ {ps qs : List (Nat × Blk)}, qs.map (·.1) = ps.map (·.1) → tot ρ qs x = tot ρ ps x
  | [], [], _ => rfl
  | [], _ :: _, h => by simp at h
  | _ :: _, [], h => by simp at h
  | p :: ps, q :: qs, h => by
    simp only [List.map_cons, List.cons.injEq] at h
    simp only [tot, h.1, tot_keys h.2]
theorem RelB.as {h : Array Obj} {H0 H : Hp} {ρ : Rho} {ps qs : List (Nat × Blk)} (r : RelB h H0 H ρ ps) (hk : qs.map (·.1) = ps.map (·.1))
    (hb : ∀ k B', (k, B') ∈ qs → ∃ B, (k, B) ∈ ps ∧ (∀ {h : Array Obj} {H : Hp} {ρ : Rho} {D : Nat → Prop} {p : Value × (Nat → Nat)}, BlkR h H ρ D B p → BlkR h H ρ D B' p) ∧ ∀ (p : Value × (Nat → Nat)) x, Top B' p x → Top B p x) : RelB h H0 H ρ qs := by
  have hd : dom qs = dom ps := by funext k; simp only [dom, hk]
  refine ⟨by rw [hd]; exact r.oc, by rw [hk]; exact r.nd, r.h0, r.hh, fun k B' hk' => ?_, fun x => by rw [tot_keys hk]; exact r.sum x, fun k B' hk' x hx => ?_, fun k B' hk' x hx => ?_⟩
  · obtain ⟨B, g1, g2⟩ := hb k B' hk'
    rw [hd]
    exact g2.1 (r.blk k B g1)
  · obtain ⟨B, g1, _⟩ := hb k B' hk'
    exact r.fresh k B g1 x hx
  · obtain ⟨B, g1, g2⟩ := hb k B' hk'
    exact r.tops k B g1 x (g2.2 _ x hx)
theorem dom_closeB {bs bs' : List (Nat × Blk)} {k : Nat} (h : closeB bs k = some bs') : dom bs' = dom bs := by
  unfold closeB at h
  split at h
  · split at h
    · split at h
      · split at h
        · cases h; funext j; rw [dom_setB, dom_killL]
        · cases h
      · cases h
    · cases h
  · cases h; rfl
  · cases h
section
variable {Γ : Ctx} {H : Hp} {a : Act} {w : World}
theorem RelH.closeHol (hd0 : Γ.hd = []) {ρ : Rho} {σ : SS} (r : RelH Γ H ρ σ a w) (k : Nat) :
    ∃ ρ', RelH Γ H ρ' { σ with blk := Go.Proofs.Ytlochjpjlhkjaaa.closeHol σ.blk k } a w ∧ (∀ j, (ρ' j).1 = (ρ j).1) ∧ dom (Go.Proofs.Ytlochjpjlhkjaaa.closeHol σ.blk k) = dom σ.blk := by
  unfold Go.Proofs.Ytlochjpjlhkjaaa.closeHol
  split
  · split
    · rename_i bs' hc
      obtain ⟨ρ', r', h1⟩ := RelH.close hd0 r hc
      exact ⟨ρ', r', h1, dom_closeB hc⟩
    · exact ⟨ρ, r, fun _ => rfl, rfl⟩
  · exact ⟨ρ, r, fun _ => rfl, rfl⟩
theorem RelH.closeAll (hd0 : Γ.hd = []) : ∀ {ks : List Nat} {ρ : Rho} {σ : SS}, RelH Γ H ρ σ a w →
    ∃ ρ', RelH Γ H ρ' { σ with blk := Go.Proofs.Ytlochjpjlhkjaaa.closeAll ks σ.blk } a w ∧ (∀ j, (ρ' j).1 = (ρ j).1) ∧ dom (Go.Proofs.Ytlochjpjlhkjaaa.closeAll ks σ.blk) = dom σ.blk
  | [], ρ, σ, r => ⟨ρ, r, fun _ => rfl, rfl⟩
  | k :: ks, ρ, σ, r => by
    obtain ⟨ρ1, r1, h1, h2⟩ := r.closeHol hd0 k
    obtain ⟨ρ2, r2, h3, h4⟩ := RelH.closeAll hd0 (ks := ks) r1
    exact ⟨ρ2, r2, fun j => (h3 j).trans (h1 j), h4.trans h2⟩
theorem RelH.insMat : ∀ {l : List (Nat × ETy)} {ρ : Rho} {σ : SS} {bs : List (Nat × Blk)}, RelH Γ H ρ σ a w → Go.Proofs.Ytlochjpjlhkjaaa.insMat l σ.blk = some bs →
    ∃ ρ', RelH Γ H ρ' { σ with blk := bs } a w ∧ (∀ j, dom σ.blk j → dom bs j ∧ (ρ' j).1 = (ρ j).1) ∧ ∀ p ∈ l, dom bs p.1 ∧ (ρ' p.1).1 = .slice none 0 0
  | [], ρ, σ, bs, r, h => by
    simp only [Go.Proofs.Ytlochjpjlhkjaaa.insMat, Option.some.injEq] at h
    subst h
    exact ⟨ρ, r, fun j hj => ⟨hj, rfl⟩, fun p hp => by cases hp⟩
  | p :: l, ρ, σ, bs, r, h => by
    simp only [Go.Proofs.Ytlochjpjlhkjaaa.insMat] at h
    split at h
    · rename_i hk
      have r1 := r.new' (w' := w) (B := .own p.2 (fun _ => []) false) (p := (.slice none 0 0, fun _ => 0)) hk (fun _ _ _ => rfl) (fun _ _ => rfl) (Ext.refl _) rfl (fun x hx => by simp at hx) (fun x => by simp) (OwnL.nil rfl) (by simp)
      obtain ⟨ρ2, r2, g1, g2⟩ := RelH.insMat r1 h
      have hne : ∀ j, dom σ.blk j → j ≠ p.1 := fun j hj he => getB_none hk (he ▸ hj)
      refine ⟨ρ2, r2, fun j hj => ?_, fun q hq => ?_⟩
      · obtain ⟨f1, f2⟩ := g1 j (dom_insB.2 (.inr hj))
        exact ⟨f1, by rw [f2, upd_other (hne j hj)]⟩
      · rcases List.mem_cons.1 hq with rfl | hq
        · obtain ⟨f1, f2⟩ := g1 q.1 (dom_insB.2 (.inl rfl))
          exact ⟨f1, by rw [f2, upd_same]⟩
        · exact g2 q hq
    · cases h
end
section
variable {H : Hp} {ρ ρ' : Rho} {D D' : Nat → Prop} (hg : ∀ k, D k → D' k ∧ (ρ' k).1 = (ρ k).1)
include hg
theorem matS_ok {s : Sh} {c c' : C} {kk : Nat} {l : List (Nat × ETy)} {v : Value} (h : matS s c kk = (c', l)) (hl : ∀ p ∈ l, D' p.1 ∧ (ρ' p.1).1 = .slice none 0 0) (hv : RC H ρ D c v) : RC H ρ' D' c' v := by
  unfold matS at h
  split at h
  · cases h
    have := hl _ List.mem_cons_self
    simp only [RC] at hv
    exact ⟨this.1, by rw [hv, this.2]⟩
  · cases h
    exact hv.grow ⟨fun _ _ h => h, hg⟩
theorem matL_ok : ∀ {ss : List Sh} {cs cs' : List C} {kk : Nat} {l : List (Nat × ETy)}, matL ss cs kk = (cs', l) → (∀ p ∈ l, D' p.1 ∧ (ρ' p.1).1 = .slice none 0 0) →
    cs'.length = cs.length ∧ ∀ (j : Nat) c', cs'[j]? = some c' → ∃ c, cs[j]? = some c ∧ ∀ v, RC H ρ D c v → RC H ρ' D' c' v
  | [], cs, cs', kk, l, h, _ => by
    simp only [matL, Prod.mk.injEq] at h
    obtain ⟨rfl, rfl⟩ := h
    exact ⟨rfl, fun j c' hj => ⟨c', hj, fun v hv => hv.grow ⟨fun _ _ h => h, hg⟩⟩⟩
  | _ :: _, [], cs', kk, l, h, _ => by
    simp only [matL, Prod.mk.injEq] at h
    obtain ⟨rfl, rfl⟩ := h
    exact ⟨rfl, fun j c' hj => by simp at hj⟩
  | s :: ss, c :: cs, cs', kk, l, h, hl => by
    cases h1 : matS s c kk with
    | mk c1 l1 =>
    cases h2 : matL ss cs (kk + 1) with
    | mk cs2 l2 =>
    simp only [matL, h1, h2, Prod.mk.injEq] at h
    obtain ⟨rfl, rfl⟩ := h
    obtain ⟨g1, g2⟩ := matL_ok h2 fun p hp => hl p (List.mem_append_right _ hp)
    refine ⟨by simp [g1], fun j c' hj => ?_⟩
    cases j with
    | zero => simp at hj; subst hj; exact ⟨c, rfl, fun v hv => matS_ok hg h1 (fun p hp => hl p (List.mem_append_left _ hp)) hv⟩
    | succ j => simpa using g2 j c' (by simpa using hj)
theorem matP_ok : ∀ {ps : List (Bool × List Sh)} {qs qs' : List (Bool × List C)} {kk : Nat} {l : List (Nat × ETy)}, matP ps qs kk = (qs', l) → (∀ p ∈ l, D' p.1 ∧ (ρ' p.1).1 = .slice none 0 0) →
    qs'.length = qs.length ∧ ∀ (j : Nat) q', qs'[j]? = some q' → ∃ q, qs[j]? = some q ∧ ∀ v, RT H ρ D q v → RT H ρ' D' q' v
  | [], qs, qs', kk, l, h, _ => by
    simp only [matP, Prod.mk.injEq] at h
    obtain ⟨rfl, rfl⟩ := h
    exact ⟨rfl, fun j c' hj => ⟨c', hj, fun v hv => hv.grow ⟨fun _ _ h => h, hg⟩⟩⟩
  | _ :: _, [], qs', kk, l, h, _ => by
    simp only [matP, Prod.mk.injEq] at h
    obtain ⟨rfl, rfl⟩ := h
    exact ⟨rfl, fun j c' hj => by simp at hj⟩
  | p :: ps, q :: qs, qs', kk, l, h, hl => by
    cases h1 : matL p.2 q.2 kk with
    | mk c1 l1 =>
    cases h2 : matP ps qs (kk + 100) with
    | mk cs2 l2 =>
    simp only [matP, h1, h2, Prod.mk.injEq] at h
    obtain ⟨rfl, rfl⟩ := h
    obtain ⟨g1, g2⟩ := matP_ok h2 fun p hp => hl p (List.mem_append_right _ hp)
    refine ⟨by simp [g1], fun j q' hj => ?_⟩
    cases j with
    | zero =>
      simp at hj; subst hj
      refine ⟨q, rfl, fun v hv => ?_⟩
      obtain ⟨f1, f2⟩ := matL_ok hg h1 fun p hp => hl p (List.mem_append_left _ hp)
      obtain ⟨b, cs⟩ := q
      cases b with
      | true =>
        obtain ⟨vs, e1, e2⟩ := hv
        refine ⟨vs, e1, by rw [e2.1]; exact f1.symm, fun i c' hi => ?_⟩
        obtain ⟨c, hc, hcv⟩ := f2 i c' hi
        exact hcv _ (e2.2 i c hc)
      | false =>
        obtain ⟨c, e1, e2⟩ := hv
        simp only at e1 f1 f2
        subst e1
        obtain ⟨c', hc'⟩ : ∃ c', c1 = [c'] := List.length_eq_one_iff.1 (by simpa using f1)
        refine ⟨c', hc', ?_⟩
        obtain ⟨c0, hc0, hcv⟩ := f2 0 c' (by rw [hc']; rfl)
        simp at hc0
        subst hc0
        exact hcv _ e2
    | succ j => simpa using g2 j q' (by simpa using hj)
theorem matV_ok {s : RSh} {v v' : V} {kk : Nat} {l : List (Nat × ETy)} {x : Value} (h : matV s v kk = (v', l)) (hl : ∀ p ∈ l, D' p.1 ∧ (ρ' p.1).1 = .slice none 0 0) (hv : RV H ρ D v x) : RV H ρ' D' v' x := by
  unfold matV at h
  split at h
  · rename_i s c
    cases h1 : matS s c kk with
    | mk c1 l1 =>
    simp only [h1, Prod.mk.injEq] at h
    obtain ⟨rfl, rfl⟩ := h
    exact matS_ok hg h1 hl hv
  · rename_i ss cs
    cases h1 : matL ss cs kk with
    | mk c1 l1 =>
    simp only [h1, Prod.mk.injEq] at h
    obtain ⟨rfl, rfl⟩ := h
    obtain ⟨f1, f2⟩ := matL_ok hg h1 hl
    obtain ⟨vs, e1, e2⟩ := hv
    refine ⟨vs, e1, by rw [e2.1]; exact f1.symm, fun i c' hi => ?_⟩
    obtain ⟨c, hc, hcv⟩ := f2 i c' hi
    exact hcv _ (e2.2 i c hc)
  · rename_i ps qs
    cases h1 : matP ps qs kk with
    | mk c1 l1 =>
    simp only [h1, Prod.mk.injEq] at h
    obtain ⟨rfl, rfl⟩ := h
    obtain ⟨f1, f2⟩ := matP_ok hg h1 hl
    obtain ⟨vs, e1, e2, e3⟩ := hv
    refine ⟨vs, e1, by rw [e2, f1], fun i q' hi => ?_⟩
    obtain ⟨q, hq, hqv⟩ := f2 i q' hi
    exact hqv _ (e3 i q hq)
  · cases h
    exact hv.grow ⟨fun _ _ h => h, hg⟩
end
section
variable {P : Program} {tab : Tab} (hT : tabB P tab = true) {Γ : Ctx} {H : Hp} {ρ : Rho} {σ : SS} {a : Act} {w : World} (r : RelH Γ H ρ σ a w)
include hT r
omit hT r in
theorem appN_self {kp : List (Nat × KSh)} {l : List (Nat × Nat)} : ∀ p ∈ kp, (p.1, p.1) ∈ appN (selfN kp) l := by
  induction kp with
  | nil => intro p hp; cases hp
  | cons q kp ih =>
    intro p hp
    rcases List.mem_cons.1 hp with rfl | hp
    · exact List.mem_cons_self
    · exact List.mem_cons_of_mem _ (ih p hp)
theorem finM_ok (hd0 : Γ.hd = []) {fn : Func} {s : RSh} {kp : List (Nat × KSh)} (h : finM tab fn.results.toList s kp σ) :
    ∃ v, (results fn a.tmps).run P w = .ok v w ∧ ∃ H' ρ', RelB w.heap Γ.H0 H' ρ' (tgtB s kp) ∧ RV noH ρ' (dom (tgtB s kp)) (tgtV s) v ∧ ∀ p ∈ kp, dom σ.blk p.1 → (ρ' p.1).1 = (ρ p.1).1 := by
  unfold finM at h
  split at h
  · rename_i rv hrv
    obtain ⟨v, hv, hres⟩ := run_result hT r hrv
    cases hm : matV s rv 9000000 with
    | mk rv' l =>
    rw [hm] at h
    simp only at h
    split at h
    · rename_i bs hbs
      split at h
      · rename_i out hout
        split at h
        · rename_i hc
          obtain ⟨hn1, hn2, hcl⟩ := hc
          obtain ⟨ρ1, r1, f1, f2⟩ := r.closeAll hd0 (ks := σ.blk.map (·.1))
          obtain ⟨ρ2, r2, f3, f4⟩ := RelH.insMat (σ := { σ with blk := Go.Proofs.Ytlochjpjlhkjaaa.closeAll (σ.blk.map (·.1)) σ.blk }) r1 hbs
          have hg : ∀ k, dom σ.blk k → dom bs k ∧ (ρ2 k).1 = (ρ k).1 := fun k hk => by
            obtain ⟨q1, q2⟩ := f3 k (by show dom (Go.Proofs.Ytlochjpjlhkjaaa.closeAll (σ.blk.map (·.1)) σ.blk) k; rw [f2]; exact hk)
            exact ⟨q1, by rw [q2, f1]⟩
          have hv2 := matV_ok hg hm f4 hv
          obtain ⟨rb, hlk, hall⟩ := RelB.keep hout hn1 hn2 r2.b
          have hv3 := hv2.scr hlk
          obtain ⟨hmv, hkeys, hblk⟩ := mBs_ok h
          obtain ⟨_, hvv⟩ := mV_ok hmv
          have hdom : dom (tgtB s kp) = dom out := by funext k; simp only [dom, hkeys]
          refine ⟨v, hres, H, _, rb.as hkeys hblk, ?_, fun p hp => ?_⟩
          · rw [hdom]
            exact hvv (hv3.cl hcl)
          · have hmem := appN_self (l := newN (namesV rv') 100) p hp
            obtain ⟨q1, q2⟩ := hall _ _ hmem
            intro hd
            show (ρ2 (inv _ p.1)).1 = _
            rw [q2, (hg _ hd).2]
        · cases h
      · cases h
    · cases h
  · cases h
end
def okBs : List (Nat × Blk) → Prop
  | [] => True
  | (_, .own E t _) :: r => ((t ()).length ≤ maxL ∧ ∀ x ∈ t (), deep E x) ∧ okBs r
  | (_, .box cs) :: r => okCs cs ∧ okBs r
  | _ :: r => okBs r
theorem okBs_ok {h : Array Obj} {H : Hp} {ρ : Rho} {D : Nat → Prop} : ∀ {bs : List (Nat × Blk)}, (∀ k B, (k, B) ∈ bs → BlkR h H ρ D B (ρ k)) → okBs bs := by
  intro bs
  induction bs with
  | nil => intro _; trivial
  | cons p bs ih =>
    intro hb
    have h1 := ih fun k B hk => hb k B (List.mem_cons_of_mem _ hk)
    have h2 := hb p.1 p.2 List.mem_cons_self
    obtain ⟨k, B⟩ := p
    cases B with
    | dead => exact h1
    | view E xs => exact h1
    | mp m => exact h1
    | hol E xs i fs => exact h1
    | own E t l =>
      have h3 : OwnL h (.list E t) (ρ k).1 (ρ k).2 := h2
      exact ⟨(h3.rl (H := fun b => h[b]?) fun _ _ => rfl).ok, h1⟩
    | box cs =>
      obtain ⟨b, vs, e, fz, _, _, _, _, h4⟩ := h2
      exact ⟨RCs.ok (f := fun j => vs.getD j Go.undef) h4.2, h1⟩
def startM (as : List V) (bs : List (Nat × Blk)) (n : Nat) : SS := { env := as ++ List.replicate (n - as.length) (.c .undef), blk := bs }
def vcFuncM (P : Program) (tab : Tab) (fr : Bool) (fn : Func) (c : Code) (as : List V) (bs : List (Nat × Blk)) (pk : List Nat) (F : SS → Prop) : Prop :=
  vcCode P tab fr pk c (startM as bs fn.ntmps) fun e σ => match e with
    | .normal => F σ
    | .ret => F σ
    | _ => False
def FinM (tab : Tab) (rs : List ResultVar) (X : Type) (φ : X → Prop) (s : X → RSh) (kp : X → List (Nat × KSh)) (σ : SS) : Prop := ∃ x : X, φ x ∧ finM tab rs (s x) (kp x) σ
theorem dom_mem {bs : List (Nat × Blk)} {k : Nat} (h : dom bs k) : ∃ B, (k, B) ∈ bs := by
  obtain ⟨⟨k', B⟩, h1, rfl⟩ := List.mem_map.1 h
  exact ⟨B, h1⟩
theorem specM_of_vc {P : Program} {tab : Tab} (hT : tabB P tab = true) {f : FuncId} {fn : Func} {c : Code} (hf : P.funcs[f]? = some fn) (hb : fn.body = some c) (hnm : (fn.name == "runtime.NumGoroutine") = false) {fr : Bool} (hfr : fr = true → codeFree c = true)
    {as : List V} {bs : List (Nat × Blk)} {X : Type} {φ : X → Prop} {s : X → RSh} {kp : X → List (Nat × KSh)} {pk : List Nat} (hpk : ∀ x, (kp x).map (·.1) = pk) (hpb : pk.all (fun k => (bs.map (·.1)).contains k) = true)
    (hlt : (bs.map (·.1)).all (fun k => decide (k < 100)) = true)
    (h : okAs as → okBs bs → vcFuncM P tab fr fn c as bs pk (FinM tab fn.results.toList X φ s kp)) : SpecM P f as bs fun r b => ∃ x, φ x ∧ r = tgtV (s x) ∧ b = tgtB (s x) (kp x) := by
  refine ⟨⟨fn, hf, hnm, by rw [hb]; rfl⟩, fun w vs ρ hrel hargs => ?_⟩
  refine calls_of_wp hf hb ?_
  have hpb' : ∀ k ∈ pk, dom bs k := fun k hk => by
    have := List.all_eq_true.1 hpb k hk
    have : k ∈ bs.map (·.1) := List.contains_iff_mem.1 this
    exact this
  let Γ : Ctx := ⟨hpOf w (tot ρ bs), [], w, pk.map fun k => (k, (ρ k).1)⟩
  have r : Rel Γ (startM as bs fn.ntmps) { tmps := vs ++ Array.replicate (fn.ntmps - vs.size) Go.undef, defers := [] } w := by
    refine ⟨hpOf w (tot ρ bs), ρ, ⟨hrel, ⟨by simp [startM, hargs.1], fun j c hj => ?_⟩, rfl, Ext.refl _, (fun p hp => by cases hp), fun p hp => ?_⟩⟩
    · simp only [startM] at hj
      rcases Nat.lt_or_ge j as.length with hlt | hge
      · rw [List.getElem?_append_left hlt] at hj
        have := hargs.2 j c hj
        rw [Array.getD_eq_getD_getElem?, Array.getElem?_append_left (by rw [hargs.1]; exact hlt), ← Array.getD_eq_getD_getElem?]
        exact this
      · rw [List.getElem?_append_right hge, List.getElem?_replicate] at hj
        split at hj
        · cases hj; trivial
        · cases hj
    · obtain ⟨k, hk, rfl⟩ := List.mem_map.1 hp
      exact ⟨hpb' k hk, rfl⟩
  refine vcCode_ok hT rfl (pk := pk) (fun p hp => by obtain ⟨k, hk, rfl⟩ := List.mem_map.1 hp; exact hk) c hfr (h (args_ok hargs.2) (okBs_ok fun k B hk => hrel.blk k B hk)) r fun e σ' a' w' h' r' => ?_
  have done : FinM tab fn.results.toList X φ s kp σ' → ∃ v, (results fn a'.tmps).run P w' = .ok v w' ∧ ∃ v' r bs' H' ρ', Ending.returned v = .returned v' ∧ (∃ x, φ x ∧ r = tgtV (s x) ∧ bs' = tgtB (s x) (kp x)) ∧ RelB w'.heap (hpOf w (tot ρ bs)) H' ρ' bs' ∧
      RV noH ρ' (dom bs') r v' ∧ Ext w w' ∧ ∀ k, dom bs' k → dom bs k → (ρ' k).1 = (ρ k).1 := fun hf => by
    obtain ⟨x, hx, hf⟩ := hf
    obtain ⟨H, ρ1, r'⟩ := r'
    obtain ⟨v, h1, H', ρ', h2, h3, h4⟩ := finM_ok hT r' rfl (fn := fn) hf
    refine ⟨v, h1, v, _, _, H', ρ', rfl, ⟨x, hx, rfl, rfl⟩, h2, h3, r'.n, fun k hk hkb => ?_⟩
    have hmem : ∃ q ∈ kp x, q.1 = k := by
      have hk' : k ∈ (tgtB (s x) (kp x)).map (·.1) := hk
      have hlt100 : k < 100 := by
        have := List.all_eq_true.1 hlt k hkb
        simpa using this
      have key : ∀ (l : List (Nat × KSh)) (m : List (Nat × Blk)), k ∈ (appB (kblks l) m).map (·.1) → (∃ q ∈ l, q.1 = k) ∨ k ∈ m.map (·.1) := by
        intro l m
        induction l with
        | nil => intro h; exact .inr h
        | cons q l ih =>
          intro h
          simp only [kblks, appB, List.map_cons, List.mem_cons] at h
          rcases h with h | h
          · exact .inl ⟨q, List.mem_cons_self, h.symm⟩
          · rcases ih h with ⟨q', h1, h2⟩ | h1
            · exact .inl ⟨q', List.mem_cons_of_mem _ h1, h2⟩
            · exact .inr h1
      rcases key _ _ hk' with h | h
      · exact h
      · have : dom (num 100 (s x).bs) k := h
        have := dom_num.1 this
        omega
    obtain ⟨q, hq, rfl⟩ := hmem
    have hqk : q.1 ∈ pk := by rw [← hpk x]; exact List.mem_map.2 ⟨q, hq, rfl⟩
    have hhm := r'.hm (q.1, (ρ q.1).1) (List.mem_map.2 ⟨q.1, hqk, rfl⟩)
    rw [h4 q hq hhm.1]
    exact hhm.2
  have hdf : a'.defers = [] := by obtain ⟨H, ρ, r'⟩ := r'; exact r'.d
  cases e with
  | normal => obtain ⟨v, h1, h2⟩ := done h'; exact ⟨hdf, v, h1, h2⟩
  | ret => obtain ⟨v, h1, h2⟩ := done h'; exact ⟨hdf, v, h1, h2⟩
  | exit id => cases h'
  | goto l => cases h'
  | panic ch => cases h'
  | outgrown => cases h'
def RetM (s : RSh) (kp : List (Nat × KSh)) (r : V) (b : List (Nat × Blk)) : Prop := r = tgtV s ∧ b = tgtB s kp
theorem specM_of {P : Program} {tab : Tab} (hT : tabB P tab = true) {f : FuncId} {fn : Func} {c : Code} (hf : P.funcs[f]? = some fn) (hb : fn.body = some c) (hnm : (fn.name == "runtime.NumGoroutine") = false) {fr : Bool} (hfr : fr = true → codeFree c = true)
    {as : List V} {bs : List (Nat × Blk)} {s : RSh} {kp : List (Nat × KSh)} (hpb : (kp.map (·.1)).all (fun k => (bs.map (·.1)).contains k) = true) (hlt : (bs.map (·.1)).all (fun k => decide (k < 100)) = true)
    (h : ∀ P', P' = P → okAs as → okBs bs → vcFuncM P' tab fr fn c as bs (kp.map (·.1)) (finM tab fn.results.toList s kp)) : SpecM P f as bs (RetM s kp) := by
  have h1 : okAs as → okBs bs → vcFuncM P tab fr fn c as bs (kp.map (·.1)) (FinM tab fn.results.toList Unit (fun _ => True) (fun _ => s) (fun _ => kp)) := by
    intro hA hB
    have h0 := h P rfl hA hB
    have e : FinM tab fn.results.toList Unit (fun _ => True) (fun _ => s) (fun _ => kp) = finM tab fn.results.toList s kp := by
      funext σ
      exact propext ⟨fun ⟨_, _, h⟩ => h, fun h => ⟨(), trivial, h⟩⟩
    rw [e]; exact h0
  have h2 := specM_of_vc hT hf hb hnm hfr (X := Unit) (φ := fun _ => True) (s := fun _ => s) (kp := fun _ => kp) (pk := kp.map (·.1)) (fun _ => rfl) hpb hlt h1
  refine ⟨h2.1, fun w vs ρ g1 g2 => (h2.2 w vs ρ g1 g2).mono fun e w' he => ?_⟩
  obtain ⟨v, r, bs', H', ρ', q1, ⟨_, _, q2, q3⟩, q4⟩ := he
  exact ⟨v, r, bs', H', ρ', q1, ⟨q2, q3⟩, q4⟩
theorem CallM.by {P P0 : Program} {f : FuncId} {as : List V} {bs : List (Nat × Blk)} {K : V → List (Nat × Blk) → Prop} {s : RSh} {kp : List (Nat × KSh)} (hP : P = P0) (h : SpecM P0 f as bs (RetM s kp)) (hk : K (tgtV s) (tgtB s kp)) : CallM P f as bs K := by
  subst hP
  exact ⟨_, h, fun r b ⟨h1, h2⟩ => by rw [h1, h2]; exact hk⟩
theorem CallM.byE {P P0 : Program} {f : FuncId} {as as' : List V} {bs bs' : List (Nat × Blk)} {K : V → List (Nat × Blk) → Prop} {s : RSh} {kp : List (Nat × KSh)} (hP : P = P0) (h : SpecM P0 f as bs (RetM s kp)) (ha : as' = as) (hb : bs' = bs) (hk : K (tgtV s) (tgtB s kp)) : CallM P f as' bs' K := by
  subst ha; subst hb
  exact CallM.by hP h hk
end Go.Proofs.Ytlochjpjlhkjaaa
namespace Go.Proofs.Ytlochjpjlhkjaaa
open Go
def slotV : List (Nat × V) → Nat → V
  | [], _ => .c .undef
  | p :: r, j => if p.1 = j then p.2 else slotV r j
def mkEnv (sl : List (Nat × V)) : Nat → Nat → List V
  | _, 0 => []
  | j, n + 1 => slotV sl j :: mkEnv sl (j + 1) n
def mEnv : List V → List V → Prop → Prop
  | [], [], K => K
  | v :: vs, w :: ws, K => match w with
    | .c .undef => mEnv vs ws K
    | w => mV v w (mEnv vs ws K)
  | _, _, _ => False
def prC : C → C → List (Nat × Nat)
  | .own k, .own k' => [(k, k')]
  | .ptr k _, .ptr k' _ => [(k, k')]
  | _, _ => []
def prL : List C → List C → List (Nat × Nat)
  | c :: cs, d :: ds => prC c d ++ prL cs ds
  | _, _ => []
def prV : V → V → List (Nat × Nat)
  | .c x, .c y => prC x y
  | .agg xs, .agg ys => prL xs ys
  | _, _ => []
def prE : List V → List V → List (Nat × Nat)
  | v :: vs, w :: ws => prV v w ++ prE vs ws
  | _, _ => []
def prB (bs tb : List (Nat × Blk)) : List (Nat × Nat) → List (Nat × Nat)
  | [] => []
  | p :: r => (match getB bs p.1, getB tb p.2 with | some (.box cs), some (.box ds) => prL cs ds | _, _ => []) ++ prB bs tb r
def msE (tb : List (Nat × Blk)) : Nat → List V → List V → List Mat
  | j, v :: vs, w :: ws => (match v, w with
    | .c .nil, .c (.own k) => (match getB tb k with | some (.own E _ _) => [.env j E (9000000 + k)] | _ => [])
    | _, _ => []) ++ msE tb (j + 1) vs ws
  | _, _, _ => []
def msL (tb : List (Nat × Blk)) (bk : Nat) : Nat → List C → List C → List Mat
  | j, c :: cs, d :: ds => (match c, d with
    | .nil, .own k => (match getB tb k with | some (.own E _ _) => [.box bk j E (9000000 + k)] | _ => [])
    | _, _ => []) ++ msL tb bk (j + 1) cs ds
  | _, _, _ => []
def msB (bs tb : List (Nat × Blk)) : List (Nat × Nat) → List Mat
  | [] => []
  | p :: r => (match getB bs p.1, getB tb p.2 with | some (.box cs), some (.box ds) => msL tb p.1 0 cs ds | _, _ => []) ++ msB bs tb r
def lkR : List (Nat × Nat) → Nat → Option Nat
  | [], _ => none
  | p :: r, k => if p.2 = k then some p.1 else lkR r k
def nmOf (pr : List (Nat × Nat)) : List (Nat × Blk) → List (Nat × Nat)
  | [] => []
  | q :: r => match lkR pr q.1 with | some k => (k, q.1) :: nmOf pr r | none => nmOf pr r
def liveE : Nat → List V → List Nat
  | _, [] => []
  | j, v :: vs => match v with | .c .undef => liveE (j + 1) vs | _ => j :: liveE (j + 1) vs
def autoN (σ τ : SS) : Norm :=
  let ms := msE τ.blk 0 σ.env τ.env ++ msB σ.blk τ.blk (prE σ.env τ.env)
  match σ.mats ms with
  | some σ1 =>
    let p1 := prE σ1.env τ.env
    { ms := ms, L := liveE 0 τ.env, nm := nmOf (p1 ++ prB σ1.blk τ.blk p1) τ.blk }
  | none => { ms := [], L := [], nm := [] }
def mBsH : List (Nat × Blk) → List (Nat × Blk) → Prop → Prop
  | [], [], K => K
  | p :: ps, q :: qs, K =>
    if p.1 = q.1 then
      match p.2, q.2 with
      | .hol E' t i' fs', .hol E x i fs => Eqn (fun _ => Blk.hol E' t i' fs' = Blk.hol E x i fs) (mBsH ps qs K)
      | B, B' => mBs [(p.1, B)] [(p.1, B')] (mBsH ps qs K)
    else False
  | _, _, _ => False
theorem mBsH_ok : ∀ {ps qs : List (Nat × Blk)} {K : Prop}, mBsH ps qs K → K ∧ qs.map (·.1) = ps.map (·.1) ∧ ∀ k B', (k, B') ∈ qs → ∃ B, (k, B) ∈ ps ∧
    (∀ {h : Array Obj} {H : Hp} {ρ : Rho} {D : Nat → Prop} {p : Value × (Nat → Nat)}, BlkR h H ρ D B p → BlkR h H ρ D B' p) ∧ ∀ (p : Value × (Nat → Nat)) x, Top B' p x → Top B p x
  | [], [], K, h => ⟨h, rfl, fun k B' hk => by cases hk⟩
  | [], _ :: _, K, h => by cases h
  | _ :: _, [], K, h => by cases h
  | (k, A) :: ps, (k', A') :: qs, K, h => by
    have fin : ∀ (h : mBsH ps qs K), (∀ {h : Array Obj} {H : Hp} {ρ : Rho} {D : Nat → Prop} {p : Value × (Nat → Nat)}, BlkR h H ρ D A p → BlkR h H ρ D A' p) → (∀ (p : Value × (Nat → Nat)) x, Top A' p x → Top A p x) → k = k' →
        K ∧ ((k', A') :: qs).map (·.1) = ((k, A) :: ps).map (·.1) ∧ ∀ j B', (j, B') ∈ (k', A') :: qs → ∃ B, (j, B) ∈ (k, A) :: ps ∧
    (∀ {h : Array Obj} {H : Hp} {ρ : Rho} {D : Nat → Prop} {p : Value × (Nat → Nat)}, BlkR h H ρ D B p → BlkR h H ρ D B' p) ∧ ∀ (p : Value × (Nat → Nat)) x, Top B' p x → Top B p x := fun hh g1 g2 hk => by
      obtain ⟨h2, h3, h4⟩ := mBsH_ok hh
      clear h
      subst hk
      refine ⟨h2, by simp [h3], fun j B' hj => ?_⟩
      rcases List.mem_cons.1 hj with hj | hj
      · cases hj; exact ⟨_, List.mem_cons_self, g1, g2⟩
      · obtain ⟨B, q1, q2⟩ := h4 j B' hj; exact ⟨B, List.mem_cons_of_mem _ q1, q2⟩
    unfold mBsH at h
    split at h
    · rename_i hk
      split at h
      · rename_i heq1 heq2
        obtain ⟨h1, h⟩ := h
        simp only at heq1 heq2
        subst heq1 heq2
        rw [h1] at fin ⊢
        exact fin h (fun h => h) (fun _ _ h => h) hk
      · obtain ⟨h, h2, h3⟩ := mBs_ok h
        obtain ⟨B, g1, g2, g3⟩ := h3 k A' List.mem_cons_self
        cases List.mem_singleton.1 g1
        exact fin h g2 g3 hk
    · cases h
def normToH (pk : List Nat) (σ τ : SS) : Prop :=
  match σ.norm pk (autoN σ τ) with
  | some σ' => mEnv σ'.env τ.env (mBsH σ'.blk τ.blk True)
  | none => False
theorem mEnv_ok : ∀ {vs ws : List V} {K : Prop}, mEnv vs ws K → K ∧ vs.length = ws.length ∧ ∀ {H : Hp} {ρ : Rho} {D : Nat → Prop} {j : Nat} {w : V}, ws[j]? = some w → ∃ v, vs[j]? = some v ∧ ∀ {x : Value}, RV H ρ D v x → RV H ρ D w x
  | [], [], K, h => ⟨h, rfl, fun hj => by simp at hj⟩
  | [], _ :: _, K, h => by cases h
  | _ :: _, [], K, h => by cases h
  | v :: vs, w :: ws, K, h => by
    have step : ∀ {K' : Prop}, mEnv vs ws K → (∀ {H : Hp} {ρ : Rho} {D : Nat → Prop} {x : Value}, RV H ρ D v x → RV H ρ D w x) →
        K ∧ (v :: vs).length = (w :: ws).length ∧ ∀ {H : Hp} {ρ : Rho} {D : Nat → Prop} {j : Nat} {w' : V}, (w :: ws)[j]? = some w' → ∃ v', (v :: vs)[j]? = some v' ∧ ∀ {x : Value}, RV H ρ D v' x → RV H ρ D w' x := by
      intro _ h1 h2
      obtain ⟨h3, h4, h5⟩ := mEnv_ok h1
      refine ⟨h3, by simp [h4], fun {H ρ D j e} hj => ?_⟩
      cases j with
      | zero => simp at hj; subst hj; exact ⟨v, rfl, h2⟩
      | succ j => simpa using h5 (by simpa using hj)
    simp only [mEnv] at h
    split at h
    · exact step (K' := True) h fun _ => trivial
    · obtain ⟨h1, h2⟩ := mV_ok h
      exact step (K' := True) h1 h2
theorem normToH_ok {pk : List Nat} {σ τ : SS} (h : normToH pk σ τ) : Sub pk σ τ := by
  intro Γ a w hd0 hpk r
  unfold normToH at h
  split at h
  · rename_i σ' hn
    obtain ⟨H, ρ, r'⟩ := r.norm hd0 hpk hn
    obtain ⟨h1, h2, h3⟩ := mEnv_ok h
    obtain ⟨_, h4, h5⟩ := mBsH_ok h1
    have hdom : dom τ.blk = dom σ'.blk := by funext k; simp only [dom, h4]
    refine ⟨H, ρ, r'.b.as h4 h5, ⟨by rw [r'.e.size, h2], fun j c hj => ?_⟩, r'.d, r'.n, fun p hp => ?_, fun p hp => ?_⟩
    · rw [hdom]
      obtain ⟨v, hv, hi⟩ := h3 hj
      exact hi (r'.e.get j v hv)
    · rw [hdom]; exact r'.hd p hp
    · rw [hdom]; exact r'.hm p hp
  · cases h
theorem LoopE.by {pk : List Nat} {σ : SS} {R : SS → (SS → Prop) → Prop} {X : Type} (sl : X → List (Nat × V)) (bl : X → List (Nat × Blk)) (φ : X → Prop) (m : X → Unit → Nat) (x0 : X) (h0 : φ x0)
    (hn : normToH pk σ { env := mkEnv (sl x0) 0 σ.env.length, blk := bl x0 })
    (hr : ∀ x, φ x → R { env := mkEnv (sl x) 0 σ.env.length, blk := bl x } fun σ' => NextE pk X (fun x => { env := mkEnv (sl x) 0 σ.env.length, blk := bl x }) φ m (m x) σ') : LoopE pk σ R :=
  ⟨X, _, φ, m, x0, h0, normToH_ok hn, hr⟩
theorem NextE.by {pk : List Nat} {X : Type} {st : X → SS} {φ : X → Prop} {m : X → Unit → Nat} {n : Unit → Nat} {σ : SS} (x : X) (hm : m x () < n ()) (hφ : φ x) (hn : normToH pk σ (st x)) : NextE pk X st φ m n σ := ⟨x, hm, hφ, normToH_ok hn⟩
end Go.Proofs.Ytlochjpjlhkjaaa
namespace Go.Proofs.Ytlochjpjlhkjaaa
open Go
def scrT (m : List (Nat × Nat)) : List (Bool × List C) → List (Bool × List C)
  | [] => []
  | p :: r => (p.1, scrL m p.2) :: scrT m r
def V.scrV (m : List (Nat × Nat)) : V → V
  | .tup ps => .tup (scrT m ps)
  | v => v.scr m
section
variable {H : Hp} {ρ ρ' : Rho} {D D' : Nat → Prop} {m : List (Nat × Nat)}
theorem scrT_get : ∀ {cs : List (Bool × List C)} {j : Nat} {p : Bool × List C}, (scrT m cs)[j]? = some p → ∃ p0, cs[j]? = some p0 ∧ p = (p0.1, scrL m p0.2)
  | [], j, p, h => by simp [scrT] at h
  | c0 :: cs, 0, p, h => by simp [scrT] at h; exact ⟨c0, rfl, h.symm⟩
  | c0 :: cs, j + 1, p, h => by simp only [scrT, List.getElem?_cons_succ] at h ⊢; exact scrT_get h
theorem scrT_len : ∀ {cs : List (Bool × List C)}, (scrT m cs).length = cs.length
  | [] => rfl
  | c :: cs => by simp [scrT, scrT_len (cs := cs)]
theorem RV.scrV (hm : ∀ k k', lk m k = some k' → D' k' ∧ (ρ' k').1 = (ρ k).1) {c : V} {v : Value} (h : RV H ρ D c v) : RV H ρ' D' (c.scrV m) v := by
  cases c with
  | c x => exact RV.scr hm (c := .c x) h
  | agg cs => exact RV.scr hm (c := .agg cs) h
  | tup cs =>
    obtain ⟨vs, h1, h2, h3⟩ := h
    refine ⟨vs, h1, by rw [h2, scrT_len], fun j p hj => ?_⟩
    obtain ⟨p0, g1, rfl⟩ := scrT_get hj
    have h4 := h3 j p0 g1
    obtain ⟨b, cs0⟩ := p0
    cases b with
    | true =>
      obtain ⟨us, q1, q2⟩ := h4
      exact ⟨us, q1, q2.scr hm⟩
    | false =>
      obtain ⟨c, q1, q2⟩ := h4
      have q1 : cs0 = [c] := q1
      subst q1
      exact ⟨c.scr m, rfl, q2.scr hm⟩
end
def maskL : List Sh → List C → List C
  | [], cs => cs
  | _ :: _, [] => []
  | s :: ss, c :: cs => (match s with | .any => .undef | _ => c) :: maskL ss cs
def maskP : List (Bool × List Sh) → List (Bool × List C) → List (Bool × List C)
  | p :: ps, q :: qs => (q.1, maskL p.2 q.2) :: maskP ps qs
  | _, qs => qs
def maskV (s : RSh) (v : V) : V :=
  match s, v with
  | .tup ps, .tup qs => .tup (maskP ps qs)
  | _, v => v
section
variable {H : Hp} {ρ : Rho} {D : Nat → Prop}
theorem maskL_len : ∀ {ss : List Sh} {cs : List C}, (maskL ss cs).length = cs.length
  | [], cs => rfl
  | _ :: _, [] => rfl
  | s :: ss, c :: cs => by simp [maskL, maskL_len (ss := ss) (cs := cs)]
theorem maskL_get : ∀ {ss : List Sh} {cs : List C} {j : Nat} {c : C}, (maskL ss cs)[j]? = some c → ∃ c0, cs[j]? = some c0 ∧ (c = c0 ∨ c = .undef)
  | [], cs, j, c, h => ⟨c, h, .inl rfl⟩
  | _ :: _, [], j, c, h => by simp [maskL] at h
  | s :: ss, c0 :: cs, 0, c, h => by
    simp only [maskL, List.getElem?_cons_zero, Option.some.injEq] at h
    refine ⟨c0, rfl, ?_⟩
    subst h
    split
    · exact .inr rfl
    · exact .inl rfl
  | s :: ss, c0 :: cs, j + 1, c, h => by
    simp only [maskL, List.getElem?_cons_succ] at h ⊢
    exact maskL_get h
theorem maskP_len : ∀ {ps : List (Bool × List Sh)} {qs : List (Bool × List C)}, (maskP ps qs).length = qs.length
  | [], qs => by cases qs <;> rfl
  | _ :: _, [] => rfl
  | p :: ps, q :: qs => by simp [maskP, maskP_len (ps := ps) (qs := qs)]
theorem maskP_get : ∀ {ps : List (Bool × List Sh)} {qs : List (Bool × List C)} {j : Nat} {q : Bool × List C}, (maskP ps qs)[j]? = some q → ∃ q0 ss, qs[j]? = some q0 ∧ (q = q0 ∨ q = (q0.1, maskL ss q0.2))
  | [], qs, j, q, h => ⟨q, [], by cases qs <;> exact h, .inl rfl⟩
  | _ :: _, [], j, q, h => by simp [maskP] at h
  | p :: ps, q0 :: qs, 0, q, h => by
    simp only [maskP, List.getElem?_cons_zero, Option.some.injEq] at h
    exact ⟨q0, p.2, rfl, .inr h.symm⟩
  | p :: ps, q0 :: qs, j + 1, q, h => by
    simp only [maskP, List.getElem?_cons_succ] at h ⊢
    exact maskP_get h
theorem RCs.mask {ss : List Sh} {cs : List C} {vs : Array Value} (h : RCs H ρ D cs vs) : RCs H ρ D (maskL ss cs) vs := by
  refine ⟨by rw [maskL_len]; exact h.1, fun j c hj => ?_⟩
  obtain ⟨c0, h1, h2⟩ := maskL_get hj
  rcases h2 with rfl | rfl
  · exact h.2 j _ h1
  · trivial
theorem RV.mask {s : RSh} {c : V} {v : Value} (h : RV H ρ D c v) : RV H ρ D (maskV s c) v := by
  unfold maskV
  split
  · rename_i ps qs
    obtain ⟨vs, h1, h2, h3⟩ := h
    refine ⟨vs, h1, by rw [h2, maskP_len], fun j q hj => ?_⟩
    obtain ⟨q0, ss, g1, g2⟩ := maskP_get hj
    have h4 := h3 j q0 g1
    rcases g2 with rfl | rfl
    · exact h4
    · obtain ⟨b, cs0⟩ := q0
      cases b with
      | true =>
        obtain ⟨us, q1, q2⟩ := h4
        exact ⟨us, q1, q2.mask⟩
      | false =>
        obtain ⟨c, q1, q2⟩ := h4
        have q1 : cs0 = [c] := q1
        subst q1
        cases ss with
        | nil => exact ⟨c, rfl, q2⟩
        | cons s ss =>
          refine ⟨_, by simp only [maskL]; cases ss <;> rfl, ?_⟩
          split
          · trivial
          · exact q2
  · exact h
end
def finMT (tab : Tab) (rs : List ResultVar) (s : RSh) (kp : List (Nat × KSh)) (σ : SS) : Prop :=
  match resultV tab σ rs with
  | some r0 =>
    match matV s (maskV s r0) 9000000 with
    | (r', l) =>
      match insMat l (closeAll (σ.blk.map (·.1)) σ.blk) with
      | some bs =>
        match keepB bs (appN (selfN kp) (newN (namesV r') 100)) (appN (selfN kp) (newN (namesV r') 100)) with
        | some out =>
          if nodupB ((appN (selfN kp) (newN (namesV r') 100)).map (·.1)) = true ∧ nodupB ((appN (selfN kp) (newN (namesV r') 100)).map (·.2)) = true ∧ (r'.scrV (appN (selfN kp) (newN (namesV r') 100))).cl = true then
            mBs out (tgtB s kp) (mV (r'.scrV (appN (selfN kp) (newN (namesV r') 100))) (tgtV s) True)
          else False
        | none => False
      | none => False
  | none => False
section
variable {P : Program} {tab : Tab} (hT : tabB P tab = true) {Γ : Ctx} {H : Hp} {ρ : Rho} {σ : SS} {a : Act} {w : World} (r : RelH Γ H ρ σ a w)
include hT r
theorem finMT_ok (hd0 : Γ.hd = []) {fn : Func} {s : RSh} {kp : List (Nat × KSh)} (h : finMT tab fn.results.toList s kp σ) :
    ∃ v, (results fn a.tmps).run P w = .ok v w ∧ ∃ H' ρ', RelB w.heap Γ.H0 H' ρ' (tgtB s kp) ∧ RV noH ρ' (dom (tgtB s kp)) (tgtV s) v ∧ ∀ p ∈ kp, dom σ.blk p.1 → (ρ' p.1).1 = (ρ p.1).1 := by
  unfold finMT at h
  split at h
  · rename_i rv hrv
    obtain ⟨v, hv, hres⟩ := run_result hT r hrv
    cases hm : matV s (maskV s rv) 9000000 with
    | mk rv' l =>
    rw [hm] at h
    simp only at h
    split at h
    · rename_i bs hbs
      split at h
      · rename_i out hout
        split at h
        · rename_i hc
          obtain ⟨hn1, hn2, hcl⟩ := hc
          obtain ⟨ρ1, r1, f1, f2⟩ := r.closeAll hd0 (ks := σ.blk.map (·.1))
          obtain ⟨ρ2, r2, f3, f4⟩ := RelH.insMat (σ := { σ with blk := Go.Proofs.Ytlochjpjlhkjaaa.closeAll (σ.blk.map (·.1)) σ.blk }) r1 hbs
          have hg : ∀ k, dom σ.blk k → dom bs k ∧ (ρ2 k).1 = (ρ k).1 := fun k hk => by
            obtain ⟨q1, q2⟩ := f3 k (by show dom (Go.Proofs.Ytlochjpjlhkjaaa.closeAll (σ.blk.map (·.1)) σ.blk) k; rw [f2]; exact hk)
            exact ⟨q1, by rw [q2, f1]⟩
          have hv2 := matV_ok hg hm f4 (RV.mask (s := s) hv)
          obtain ⟨rb, hlk, hall⟩ := RelB.keep hout hn1 hn2 r2.b
          have hv3 := RV.scrV hlk hv2
          obtain ⟨hmv, hkeys, hblk⟩ := mBs_ok h
          obtain ⟨_, hvv⟩ := mV_ok hmv
          have hdom : dom (tgtB s kp) = dom out := by funext k; simp only [dom, hkeys]
          refine ⟨v, hres, H, _, rb.as hkeys hblk, ?_, fun p hp => ?_⟩
          · rw [hdom]
            exact hvv (hv3.cl hcl)
          · have hmem := appN_self (l := newN (namesV rv') 100) p hp
            obtain ⟨q1, q2⟩ := hall _ _ hmem
            intro hd
            show (ρ2 (inv _ p.1)).1 = _
            rw [q2, (hg _ hd).2]
        · cases h
      · cases h
    · cases h
  · cases h
end
def FinMT (tab : Tab) (rs : List ResultVar) (X : Type) (φ : X → Prop) (s : X → RSh) (kp : X → List (Nat × KSh)) (σ : SS) : Prop := ∃ x : X, φ x ∧ finMT tab rs (s x) (kp x) σ
theorem specMT_of_vc {P : Program} {tab : Tab} (hT : tabB P tab = true) {f : FuncId} {fn : Func} {c : Code} (hf : P.funcs[f]? = some fn) (hb : fn.body = some c) (hnm : (fn.name == "runtime.NumGoroutine") = false) {fr : Bool} (hfr : fr = true → codeFree c = true)
    {as : List V} {bs : List (Nat × Blk)} {X : Type} {φ : X → Prop} {s : X → RSh} {kp : X → List (Nat × KSh)} {pk : List Nat} (hpk : ∀ x, (kp x).map (·.1) = pk) (hpb : pk.all (fun k => (bs.map (·.1)).contains k) = true)
    (hlt : (bs.map (·.1)).all (fun k => decide (k < 100)) = true)
    (h : okAs as → okBs bs → vcFuncM P tab fr fn c as bs pk (FinMT tab fn.results.toList X φ s kp)) : SpecM P f as bs fun r b => ∃ x, φ x ∧ r = tgtV (s x) ∧ b = tgtB (s x) (kp x) := by
  refine ⟨⟨fn, hf, hnm, by rw [hb]; rfl⟩, fun w vs ρ hrel hargs => ?_⟩
  refine calls_of_wp hf hb ?_
  have hpb' : ∀ k ∈ pk, dom bs k := fun k hk => by
    have := List.all_eq_true.1 hpb k hk
    have : k ∈ bs.map (·.1) := List.contains_iff_mem.1 this
    exact this
  let Γ : Ctx := ⟨hpOf w (tot ρ bs), [], w, pk.map fun k => (k, (ρ k).1)⟩
  have r : Rel Γ (startM as bs fn.ntmps) { tmps := vs ++ Array.replicate (fn.ntmps - vs.size) Go.undef, defers := [] } w := by
    refine ⟨hpOf w (tot ρ bs), ρ, ⟨hrel, ⟨by simp [startM, hargs.1], fun j c hj => ?_⟩, rfl, Ext.refl _, (fun p hp => by cases hp), fun p hp => ?_⟩⟩
    · simp only [startM] at hj
      rcases Nat.lt_or_ge j as.length with hlt | hge
      · rw [List.getElem?_append_left hlt] at hj
        have := hargs.2 j c hj
        rw [Array.getD_eq_getD_getElem?, Array.getElem?_append_left (by rw [hargs.1]; exact hlt), ← Array.getD_eq_getD_getElem?]
        exact this
      · rw [List.getElem?_append_right hge, List.getElem?_replicate] at hj
        split at hj
        · cases hj; trivial
        · cases hj
    · obtain ⟨k, hk, rfl⟩ := List.mem_map.1 hp
      exact ⟨hpb' k hk, rfl⟩
  refine vcCode_ok hT rfl (pk := pk) (fun p hp => by obtain ⟨k, hk, rfl⟩ := List.mem_map.1 hp; exact hk) c hfr (h (args_ok hargs.2) (okBs_ok fun k B hk => hrel.blk k B hk)) r fun e σ' a' w' h' r' => ?_
  have done : FinMT tab fn.results.toList X φ s kp σ' → ∃ v, (results fn a'.tmps).run P w' = .ok v w' ∧ ∃ v' r bs' H' ρ', Ending.returned v = .returned v' ∧ (∃ x, φ x ∧ r = tgtV (s x) ∧ bs' = tgtB (s x) (kp x)) ∧ RelB w'.heap (hpOf w (tot ρ bs)) H' ρ' bs' ∧
      RV noH ρ' (dom bs') r v' ∧ Ext w w' ∧ ∀ k, dom bs' k → dom bs k → (ρ' k).1 = (ρ k).1 := fun hf => by
    obtain ⟨x, hx, hf⟩ := hf
    obtain ⟨H, ρ1, r'⟩ := r'
    obtain ⟨v, h1, H', ρ', h2, h3, h4⟩ := finMT_ok hT r' rfl (fn := fn) hf
    refine ⟨v, h1, v, _, _, H', ρ', rfl, ⟨x, hx, rfl, rfl⟩, h2, h3, r'.n, fun k hk hkb => ?_⟩
    have hmem : ∃ q ∈ kp x, q.1 = k := by
      have hk' : k ∈ (tgtB (s x) (kp x)).map (·.1) := hk
      have hlt100 : k < 100 := by
        have := List.all_eq_true.1 hlt k hkb
        simpa using this
      have key : ∀ (l : List (Nat × KSh)) (m : List (Nat × Blk)), k ∈ (appB (kblks l) m).map (·.1) → (∃ q ∈ l, q.1 = k) ∨ k ∈ m.map (·.1) := by
        intro l m
        induction l with
        | nil => intro h; exact .inr h
        | cons q l ih =>
          intro h
          simp only [kblks, appB, List.map_cons, List.mem_cons] at h
          rcases h with h | h
          · exact .inl ⟨q, List.mem_cons_self, h.symm⟩
          · rcases ih h with ⟨q', h1, h2⟩ | h1
            · exact .inl ⟨q', List.mem_cons_of_mem _ h1, h2⟩
            · exact .inr h1
      rcases key _ _ hk' with h | h
      · exact h
      · have : dom (num 100 (s x).bs) k := h
        have := dom_num.1 this
        omega
    obtain ⟨q, hq, rfl⟩ := hmem
    have hqk : q.1 ∈ pk := by rw [← hpk x]; exact List.mem_map.2 ⟨q, hq, rfl⟩
    have hhm := r'.hm (q.1, (ρ q.1).1) (List.mem_map.2 ⟨q.1, hqk, rfl⟩)
    rw [h4 q hq hhm.1]
    exact hhm.2
  have hdf : a'.defers = [] := by obtain ⟨H, ρ, r'⟩ := r'; exact r'.d
  cases e with
  | normal => obtain ⟨v, h1, h2⟩ := done h'; exact ⟨hdf, v, h1, h2⟩
  | ret => obtain ⟨v, h1, h2⟩ := done h'; exact ⟨hdf, v, h1, h2⟩
  | exit id => cases h'
  | goto l => cases h'
  | panic ch => cases h'
  | outgrown => cases h'
end Go.Proofs.Ytlochjpjlhkjaaa

