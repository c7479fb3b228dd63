/-
  Another state for the same frame, the rule for loops, code, and a function's contract. No conditions.
-/
import Derived.Test.YtnmdhpaobmjefaaDraw
namespace Go.Proofs.Ytnmdhpaobmjefaa
open Go

theorem getB_of_mem {bs : List (Nat × Blk)} (hn : (bs.map (·.1)).Nodup) {k : Nat} {B : Blk} (h : (k, B) ∈ bs) : getB bs k = some B := by
  induction bs with
  | nil => cases h
  | cons p r ih =>
    simp only [List.map_cons, List.nodup_cons] at hn
    simp only [getB]
    cases h with
    | head => simp
    | tail _ h =>
      rw [if_neg fun he => hn.1 (by rw [he]; exact List.mem_map.2 ⟨_, h, rfl⟩)]
      exact ih hn.2 h

theorem lk_mem {m : List (Nat × Nat)} {k k' : Nat} (h : lk m k = some k') : (k, k') ∈ m := by
  induction m with
  | nil => cases h
  | cons p r ih =>
    simp only [lk] at h
    split at h
    · rename_i hp; cases h; subst hp; exact List.mem_cons_self
    · exact List.mem_cons_of_mem _ (ih h)

/-- the other way round -/
def inv : List (Nat × Nat) → Nat → Nat
  | [], _ => 0
  | p :: r, k => if p.2 = k then p.1 else inv r k

theorem nodupB_map2 {m : List (Nat × Nat)} (h : nodupB (m.map (·.2)) = true) {k k' : Nat} (hm : (k, k') ∈ m) : inv m k' = k := by
  induction m with
  | nil => cases hm
  | cons p r ih =>
    simp only [List.map_cons] at h
    obtain ⟨h1, h2⟩ := nodupB_cons h
    simp only [inv]
    cases hm with
    | head => simp
    | tail _ hm =>
      rw [if_neg fun he => h1 (by rw [he]; exact List.mem_map.2 ⟨_, hm, rfl⟩)]
      exact ih h2 hm

theorem nodupB_nodup {l : List Nat} (h : nodupB l = true) : l.Nodup := by
  induction l with
  | nil => simp
  | cons x l ih => obtain ⟨h1, h2⟩ := nodupB_cons h; exact List.nodup_cons.2 ⟨h1, ih h2⟩

theorem keepB_spec {bs : List (Nat × Blk)} {m : List (Nat × Nat)} : ∀ {l : List (Nat × Nat)} {out : List (Nat × Blk)}, keepB bs m l = some out →
    out.map (·.1) = l.map (·.2) ∧ (∀ q, q ∈ out → ∃ k B, (k, q.1) ∈ l ∧ getB bs k = some B ∧ q.2 = B.scr m ∧ (B.isHol = true → False)) ∧ (∀ p ∈ l, ∃ B, getB bs p.1 = some B)
  | [], out, h => by simp only [keepB, Option.some.injEq] at h; subst h; exact ⟨rfl, (fun q hq => by cases hq), (fun p hp => by cases hp)⟩
  | p :: l, out, h => by
    simp only [keepB] at h
    split at h
    · rename_i B l' hB hl
      split at h
      · cases h
      rename_i hol
      cases h
      obtain ⟨h1, h2, h3⟩ := keepB_spec hl
      refine ⟨by simp [h1], fun q hq => ?_, fun q hq => ?_⟩
      · cases hq with
        | head => exact ⟨p.1, B, List.mem_cons_self, hB, rfl, hol⟩
        | tail _ hq => obtain ⟨k, A, g1, g2, g3⟩ := h2 q hq; exact ⟨k, A, List.mem_cons_of_mem _ g1, g2, g3⟩
      · cases hq with
        | head => exact ⟨B, hB⟩
        | tail _ hq => exact h3 q hq
    · cases h

section
variable {H : Hp} {ρ ρ' : Rho} {D D' : Nat → Prop} {m : List (Nat × Nat)} (hm : ∀ k k', lk m k = some k' → D' k' ∧ (ρ' k').1 = (ρ k).1)
include hm

theorem RC.scr {c : C} {v : Value} (h : RC H ρ D c v) : RC H ρ' D' (c.scr m) v := by
  cases c with
  | lf l => exact h
  | bl b => exact h
  | nil => exact h
  | own k =>
    simp only [C.scr]
    split
    · rename_i k' hk; obtain ⟨_, h1⟩ := h; exact ⟨(hm k k' hk).1, by rw [(hm k k' hk).2]; exact h1⟩
    · trivial
  | ptr k off =>
    simp only [C.scr]
    split
    · rename_i k' hk; obtain ⟨_, b, h1, h2⟩ := h; exact ⟨(hm k k' hk).1, b, by rw [(hm k k' hk).2]; exact h1, h2⟩
    · trivial
  | el E x off => exact h
  | pcs ls off => exact h
  | oel k E i off =>
    simp only [C.scr]
    split
    · rename_i k' hk; obtain ⟨_, b, o, n, c, h1, h2⟩ := h; exact ⟨(hm k k' hk).1, b, o, n, c, by rw [(hm k k' hk).2]; exact h1, h2⟩
    · trivial
  | fn f caps =>
    simp only [C.scr]
    split
    · rename_i hc
      obtain ⟨vs, h1, h2, h3⟩ := h
      refine ⟨vs, h1, h2, fun j c hj => ?_⟩
      have hrd := List.all_eq_true.1 hc c (List.mem_of_getElem? hj)
      have := h3 j c hj
      cases c with
      | ptr k off => cases hrd
      | el E x off => exact this
      | pcs ls off => exact this
    · trivial
  | undef => trivial

omit hm in
theorem scrL_get : ∀ {cs : List C} {j : Nat} {c : C}, (scrL m cs)[j]? = some c → ∃ c0, cs[j]? = some c0 ∧ c = c0.scr m
  | [], j, c, h => by simp [scrL] at h
  | c0 :: cs, 0, c, h => by simp [scrL] at h; exact ⟨c0, rfl, h.symm⟩
  | c0 :: cs, j + 1, c, h => by simp only [scrL, List.getElem?_cons_succ] at h ⊢; exact scrL_get h

omit hm in
theorem scrL_len : ∀ {cs : List C}, (scrL m cs).length = cs.length
  | [] => rfl
  | c :: cs => by simp [scrL, scrL_len (cs := cs)]

theorem RCs.scr {cs : List C} {vs : Array Value} (h : RCs H ρ D cs vs) : RCs H ρ' D' (scrL m cs) vs := by
  refine ⟨by rw [scrL_len]; exact h.1, fun j c hj => ?_⟩
  obtain ⟨c0, h1, rfl⟩ := scrL_get hj
  exact (h.2 j c0 h1).scr hm

theorem RV.scr {c : V} {v : Value} (h : RV H ρ D c v) : RV H ρ' D' (c.scr m) v := by
  cases c with
  | c x => exact RC.scr hm h
  | agg cs => obtain ⟨vs, h1, h2⟩ := h; exact ⟨vs, h1, h2.scr hm⟩
  | tup cs =>
    cases cs with
    | nil => obtain ⟨vs, h1, h2, h3⟩ := h; exact ⟨vs, h1, h2, fun j p hj => by simp at hj⟩
    | cons p ps => trivial

omit hm in
theorem keepE_get {L : List Nat} : ∀ {vs : List V} {i j : Nat} {c : V}, (keepE L m i vs)[j]? = some c → c = .c .undef ∨ ∃ c0, vs[j]? = some c0 ∧ c = c0.scr m
  | [], i, j, c, h => by simp [keepE] at h
  | v :: vs, i, 0, c, h => by
    simp only [keepE, List.getElem?_cons_zero, Option.some.injEq] at h
    split at h
    · exact .inr ⟨v, rfl, h.symm⟩
    · exact .inl h.symm
  | v :: vs, i, j + 1, c, h => by simp only [keepE, List.getElem?_cons_succ] at h ⊢; exact keepE_get h

omit hm in
theorem keepE_len {L : List Nat} : ∀ {vs : List V} {i : Nat}, (keepE L m i vs).length = vs.length
  | [], i => rfl
  | v :: vs, i => by simp [keepE, keepE_len (vs := vs)]
end

theorem sumK_map {ρ ρ' : Rho} {x : Nat} : ∀ {l : List (Nat × Nat)} {out : List (Nat × Blk)}, out.map (·.1) = l.map (·.2) → (∀ p ∈ l, ρ' p.2 = ρ p.1) → tot ρ' out x = sumK ρ (l.map (·.1)) x
  | [], out, h, _ => by
    have : out = [] := by simpa using h
    subst this; rfl
  | p :: l, out, h, hp => by
    cases out with
    | nil => simp at h
    | cons q out =>
      simp only [List.map_cons, List.cons.injEq] at h
      simp only [tot, List.map_cons, sumK]
      rw [h.1, hp p List.mem_cons_self, sumK_map h.2 fun q hq => hp q (List.mem_cons_of_mem _ hq)]

theorem Top.scr {B : Blk} {m : List (Nat × Nat)} {p : Value × (Nat → Nat)} {x : Nat} (h : Top (B.scr m) p x) : Top B p x := by
  cases B with
  | dead => exact h
  | box cs => exact h
  | own E xs l => exact h
  | view E xs => exact h
  | hol E xs i fs => exact h

section
variable {Γ : Ctx} {σ σ' : SS} {a : Act} {w : World}

/-- some blocks are kept, under other names -/
theorem RelB.keep {h : Array Obj} {H0 H : Hp} {ρ : Rho} {bl : List (Nat × Blk)} {m : List (Nat × Nat)} {bs : List (Nat × Blk)} (hb : keepB bl m m = some bs) (h1 : nodupB (m.map (·.1)) = true) (h2 : nodupB (m.map (·.2)) = true)
    (r : RelB h H0 H ρ bl) : RelB h H0 H (fun k => ρ (inv m k)) bs ∧ (∀ k k', lk m k = some k' → dom bs k' ∧ (ρ (inv m k')).1 = (ρ k).1) ∧ ∀ k k', (k, k') ∈ m → dom bs k' ∧ ρ (inv m k') = ρ k := by
  obtain ⟨g1, g2, g3⟩ := keepB_spec hb
  let ρ' : Rho := fun k => ρ (inv m k)
  have hρ : ∀ k k', (k, k') ∈ m → ρ' k' = ρ k := fun k k' hk => by simp only [ρ', nodupB_map2 h2 hk]
  have hdom : ∀ k k', (k, k') ∈ m → dom bs k' := fun k k' hk => by
    unfold dom; rw [g1]; exact List.mem_map.2 ⟨_, hk, rfl⟩
  have hm : ∀ k k', lk m k = some k' → dom bs k' ∧ (ρ' k').1 = (ρ k).1 := fun k k' hk => ⟨hdom k k' (lk_mem hk), by rw [hρ k k' (lk_mem hk)]⟩
  have hq : ∀ k' B', (k', B') ∈ bs → ∃ k B, (k, B) ∈ bl ∧ ρ' k' = ρ k ∧ B' = B.scr m ∧ (B.isHol = true → False) := fun k' B' hk => by
    obtain ⟨k, B, f1, f2, f3, f4⟩ := g2 _ hk
    exact ⟨k, B, getB_mem f2, hρ k k' f1, f3, f4⟩
  refine ⟨⟨?_, by rw [g1]; exact nodupB_nodup h2, r.h0, r.hh, ?_, ?_, ?_, ?_⟩, hm, fun k k' hk => ⟨hdom k k' hk, hρ k k' hk⟩⟩
  · intro k hk
    obtain ⟨⟨k', B'⟩, f1, rfl⟩ := List.mem_map.1 hk
    obtain ⟨k, B, f2, f3, _⟩ := hq _ _ f1
    have f3 : ρ (inv m k') = ρ k := f3
    simp only
    rw [f3]; exact r.oc k (dom_of_mem f2)
  · intro k' B' hk
    obtain ⟨k, B, f2, f3, rfl, f4⟩ := hq _ _ hk
    have f3 : ρ (inv m k') = ρ k := f3
    rw [f3]
    have := r.blk k B f2
    cases B with
    | dead => exact this
    | box cs => obtain ⟨b, vs, e, fz, e1, e2, e3, e4, e5⟩ := this; exact ⟨b, vs, e, fz, e1, e2, e3, e4, e5.scr hm⟩
    | own E xs l => exact this
    | view E xs => exact this
    | hol E xs i fs => exact (f4 rfl).elim
  · intro x
    rw [sumK_map (ρ := ρ) (ρ' := ρ') g1 fun p hp => hρ p.1 p.2 hp]
    exact Nat.le_trans (sumK_le _ h1 (fun k hk => by
      obtain ⟨p, hp, rfl⟩ := List.mem_map.1 hk
      obtain ⟨B, hB⟩ := g3 p hp
      exact getB_dom hB) x) (r.sum x)
  · intro k' B' hk x hx
    obtain ⟨k, B, f2, f3, _⟩ := hq _ _ hk
    have f3 : ρ (inv m k') = ρ k := f3
    rw [f3] at hx
    exact r.fresh k B f2 x hx
  · intro k' B' hk x hx
    obtain ⟨k, B, f2, f3, rfl, _⟩ := hq _ _ hk
    have f3 : ρ (inv m k') = ρ k := f3
    rw [f3] at hx
    exact r.tops k B f2 x hx.scr

theorem Rel.keep (hd0 : Γ.hd = []) {L : List Nat} {m : List (Nat × Nat)} {bs : List (Nat × Blk)} (hb : keepB σ.blk m m = some bs) (h1 : nodupB (m.map (·.1)) = true) (h2 : nodupB (m.map (·.2)) = true)
    (hpk : ∀ p ∈ Γ.hm, lk m p.1 = some p.1) (r : Rel Γ σ a w) : Rel Γ { env := keepE L m 0 σ.env, blk := bs } a w := by
  obtain ⟨H, ρ, r⟩ := r
  obtain ⟨rb, hm, _⟩ := r.b.keep hb h1 h2
  refine ⟨H, _, ⟨rb, ⟨by rw [keepE_len]; exact r.e.size, fun j c hj => ?_⟩, r.d, r.n, (by rw [hd0]; intro p hp; cases hp), fun p hp => ?_⟩⟩
  · rcases keepE_get hj with rfl | ⟨c0, f1, rfl⟩
    · trivial
    · exact (r.e.get j c0 f1).scr hm
  · obtain ⟨f1, f2⟩ := hm _ _ (hpk p hp)
    exact ⟨f1, by rw [f2]; exact (r.hm p hp).2⟩

theorem Rel.closeHol (hd0 : Γ.hd = []) {k : Nat} (r : Rel Γ σ a w) : Rel Γ { σ with blk := Go.Proofs.Ytnmdhpaobmjefaa.closeHol σ.blk k } a w := by
  unfold Go.Proofs.Ytnmdhpaobmjefaa.closeHol
  split
  · split
    · rename_i bs' hc
      obtain ⟨H, ρ, r⟩ := r
      obtain ⟨ρ', r', _⟩ := RelH.close hd0 r hc
      exact ⟨H, ρ', r'⟩
    · exact r
  · exact r

theorem Rel.closeAll (hd0 : Γ.hd = []) : ∀ {ks : List Nat} {σ : SS}, Rel Γ σ a w → Rel Γ { σ with blk := Go.Proofs.Ytnmdhpaobmjefaa.closeAll ks σ.blk } a w
  | [], _, r => r
  | _ :: ks, _, r => Rel.closeAll hd0 (ks := ks) (r.closeHol hd0)

theorem selfB_get {m : List (Nat × Nat)} : ∀ {ks : List Nat}, selfB m ks = true → ∀ k ∈ ks, lk m k = some k
  | [], _, k, hk => by cases hk
  | j :: ks, h, k, hk => by
    simp only [selfB, Bool.and_eq_true] at h
    cases hk with
    | head =>
      have h1 := h.1
      split at h1
      · rename_i k' hk'; rw [hk']; simpa using h1
      · cases h1
    | tail _ hk => exact selfB_get h.2 k hk

theorem Rel.mat {mt : Mat} (h : σ.mat mt = some σ') (r : Rel Γ σ a w) : Rel Γ σ' a w := by
  obtain ⟨H, ρ, r⟩ := r
  have nw : ∀ (k : Nat) (E : ETy), getB σ.blk k = none → ∃ ρ', RelH Γ H ρ' (σ.new k (.own E (fun _ => []) false)) a w ∧ (ρ' k).1 = .slice none 0 0 := fun k E hk =>
    ⟨upd ρ k (.slice none 0 0, fun _ => 0), r.new' (p := (.slice none 0 0, fun _ => 0)) hk (fun _ _ _ => rfl) (fun _ _ => rfl) (Ext.refl _) rfl (fun x hx => by simp at hx) (fun x => by simp) (OwnL.nil rfl) (by simp), by rw [upd_same]⟩
  cases mt with
  | env s E k =>
    simp only [SS.mat] at h
    split at h
    · rename_i v hv hk
      split at h
      · rename_i hn
        cases h
        obtain ⟨ρ', r1, h1⟩ := nw k E hk
        have hv' : v = .c .nil := by
          unfold isNilV at hn
          split at hn
          · rfl
          · cases hn
        subst hv'
        refine ⟨H, ρ', r1.b, ⟨by simpa [SS.new] using r1.e.size, fun j c hj => ?_⟩, r1.d, r1.n, r1.hd, r1.hm⟩
        rw [List.getElem?_set] at hj
        split at hj
        · rename_i hs
          split at hj
          · cases hj
            have := r.e.get s _ hv
            simp only [RV, RC] at this
            subst hs
            exact ⟨dom_insB.2 (.inl rfl), by rw [this, h1]⟩
          · cases hj
        · exact r1.e.get j c hj
      · cases h
    · cases h
  | box bk c E k =>
    simp only [SS.mat] at h
    split at h
    · rename_i cs hbk hk
      split at h
      · rename_i x hx
        split at h
        · rename_i hn
          cases h
          obtain ⟨ρ', r1, h1⟩ := nw k E hk
          have hx' : x = .nil := by
            unfold isNilC at hn
            split at hn
            · rfl
            · cases hn
          subst hx'
          have hg : getB (insB σ.blk k (.own E (fun _ => []) false)) bk = some (.box cs) := getB_of_mem r1.b.nd (mem_insB.2 (.inr (getB_mem hbk)))
          obtain ⟨b, vs, e, fz, f1, f2, f3, f4, f5⟩ := r1.b.blk bk _ (getB_mem hg)
          have f6 := f5.2 c _ hx
          simp only [RC] at f6
          refine ⟨H, ρ', r1.setBlk (w' := w) hg (fun _ _ => rfl) (Ext.refl _) ⟨b, vs, e, fz, f1, f2, f3, f4, by simpa using f5.1, fun j y hj => ?_⟩ (fun _ h => h) (fun _ h => h)⟩
          rw [List.getElem?_set] at hj
          split at hj
          · rename_i hjc
            split at hj
            · cases hj
              subst hjc
              exact ⟨dom_insB.2 (.inl rfl), by rw [f6, h1]⟩
            · cases hj
          · exact f5.2 j y hj
        · cases h
      · cases h
    · cases h

theorem Rel.mats : ∀ {ms : List Mat} {σ σ' : SS}, σ.mats ms = some σ' → Rel Γ σ a w → Rel Γ σ' a w
  | [], σ, σ', h, r => by simp only [SS.mats, Option.some.injEq] at h; subst h; exact r
  | m :: ms, σ, σ', h, r => by
    simp only [SS.mats] at h
    split at h
    · rename_i σ1 h1; exact Rel.mats h (r.mat h1)
    · cases h

theorem Rel.norm (hd0 : Γ.hd = []) {pk : List Nat} (hpk : ∀ p ∈ Γ.hm, p.1 ∈ pk) {N : Norm} (h : σ.norm pk N = some σ') (r : Rel Γ σ a w) : Rel Γ σ' a w := by
  unfold SS.norm at h
  split at h
  · rename_i σ1 h1
    split at h
    · rename_i bs hb
      split at h
      · rename_i hn
        cases h
        exact Rel.keep (σ := { σ1 with blk := Go.Proofs.Ytnmdhpaobmjefaa.closeAll (σ1.blk.map (·.1)) σ1.blk }) hd0 hb hn.1 hn.2.1 (fun p hp => selfB_get hn.2.2 _ (hpk p hp)) ((r.mats h1).closeAll hd0)
      · cases h
    · cases h
  · cases h
end

/-- a loop whose measure is a number that goes along with the relation -/
theorem wp_loopN {P : Program} {c : Code} {Q : Exit → Act → World → Prop} (I : Nat → Act → World → Prop)
    (round : ∀ n a w, I n a w → c.wp P (Exit.then (fun a' w' => ∃ m, m < n ∧ I m a' w') Q) a w) {n : Nat} {a : Act} {w : World} (h₀ : I n a w) : (Code.loop c).wp P Q a w := by
  intro b k cs
  have key : ∀ n a w, I n a w → ∃ e a' w', Q e a' w' ∧ Arrives P (lone (b.at a (.code c :: .inLoop c :: k)) cs w) b k cs e a' w' := by
    intro n
    induction n using Nat.strongRecOn with
    | _ n ih =>
      intro a w hI
      obtain ⟨e, a₁, w₁, hq, harr⟩ := round n a w hI b (.inLoop c :: k) cs
      cases e with
      | normal =>
        obtain ⟨m, hlt, hI₁⟩ := hq
        obtain ⟨e₂, a₂, w₂, hq₂, harr₂⟩ := ih m hlt a₁ w₁ hI₁
        exact ⟨e₂, a₂, w₂, hq₂, .of_steps (Steps.trans harr (.one step_inLoop)) harr₂⟩
      | exit id => exact ⟨_, a₁, w₁, hq, .pass (x := .inLoop c) rfl (fun _ _ => .inl (by simp)) harr⟩
      | goto l => exact ⟨_, a₁, w₁, hq, .pass (x := .inLoop c) rfl (fun _ _ => .inl (by simp)) harr⟩
      | ret => exact ⟨_, a₁, w₁, hq, .pass (x := .inLoop c) rfl (fun _ _ => .inl (by simp)) harr⟩
      | panic ch => exact ⟨_, a₁, w₁, hq, .pass (x := .inLoop c) rfl (fun _ _ => .inl (by simp)) harr⟩
      | outgrown => exact ⟨_, a₁, w₁, hq, .pass (x := .inLoop c) rfl (fun _ _ => .inl (by simp)) harr⟩
  obtain ⟨e, a', w', hq, harr⟩ := key n a w h₀
  exact ⟨e, a', w', hq, .of_steps (.one step_loop) harr⟩

theorem vcCode_ok {P : Program} {tab : Tab} (hT : tabB P tab = true) {Γ : Ctx} (hd0 : Γ.hd = []) {pk : List Nat} (hpk : ∀ p ∈ Γ.hm, p.1 ∈ pk) : ∀ (c : Code) {σ : SS} {a : Act} {w : World} {K : Exit → SS → Prop} {Q : Exit → Act → World → Prop}, vcCode P tab pk c σ K → Rel Γ σ a w →
    (∀ e σ' a' w', K e σ' → Rel Γ σ' a' w' → Q e a' w') → c.wp P Q a w := by
  intro c
  induction c with
  | skip => intro σ a w K Q h r hQ; exact wp_skip (hQ _ _ _ _ h r)
  | region id ops draw =>
    intro σ a w K Q h r hQ
    cases draw with
    | false => exact wp_region_list (vcOps_ok hT hd0 _ h r fun σ' a' w' h' r' => hQ _ _ _ _ h' r')
    | true => exact vcDraw_region hT hd0 h r fun σ' a' w' h' r' => hQ _ _ _ _ h' r'
  | seq x y ihx ihy =>
    intro σ a w K Q h r hQ
    refine wp_seq (ihx h r fun e σ' a' w' h' r' => ?_)
    cases e with
    | normal => exact ihy h' r' hQ
    | exit id => exact hQ _ _ _ _ h' r'
    | goto l => exact hQ _ _ _ _ h' r'
    | ret => exact hQ _ _ _ _ h' r'
    | panic ch => exact hQ _ _ _ _ h' r'
    | outgrown => exact hQ _ _ _ _ h' r'
  | cond c x y ihx ihy =>
    intro σ a w K Q h r hQ
    simp only [vcCode] at h
    have hc : RV _ _ _ (σ.ev c) (a.eval c) := ev_ok r.choose_spec.choose_spec.e c
    split at h
    · rename_i hv
      rw [hv] at hc
      exact wp_cond (t := true) hc (ihx h r hQ)
    · rename_i hv
      rw [hv] at hc
      exact wp_cond (t := false) hc (ihy h r hQ)
    · rename_i t hv
      rw [hv] at hc
      have hc' := RL.of_bool hc
      obtain ⟨h⟩ := h
      refine wp_cond hc' ?_
      cases ht : t () with
      | true => rw [ht] at h; exact ihx h r hQ
      | false => rw [ht] at h; exact ihy h r hQ
    · cases h
  | block id x ih =>
    intro σ a w K Q h r hQ
    refine wp_block (ih h r fun e σ' a' w' h' r' => ?_)
    cases e with
    | exit i =>
      simp only [Exit.inBlock]
      simp only at h'
      split at h'
      · rename_i hi; rw [if_pos hi]; exact hQ _ _ _ _ h' r'
      · rename_i hi; rw [if_neg hi]; exact hQ _ _ _ _ h' r'
    | normal => exact hQ _ _ _ _ h' r'
    | goto l => exact hQ _ _ _ _ h' r'
    | ret => exact hQ _ _ _ _ h' r'
    | panic ch => exact hQ _ _ _ _ h' r'
    | outgrown => exact hQ _ _ _ _ h' r'
  | loop x ih =>
    intro σ a w K Q h r hQ
    obtain ⟨X, st, φ, m, x0, h0, hs, hr⟩ := h
    refine wp_loopN (fun n a w => ∃ x, φ x ∧ m x () = n ∧ Rel Γ (st x) a w) (fun n a w ⟨x, hx, hm, r⟩ => ?_) (n := m x0 ()) ⟨x0, h0, rfl, hs Γ a w hd0 hpk r⟩
    refine ih (hr x hx) r fun e σ' a' w' h' r' => ?_
    cases e with
    | normal =>
      obtain ⟨x', hm', hx', hs'⟩ := h'
      exact ⟨m x' (), by rw [← hm]; exact hm', x', hx', rfl, hs' Γ a' w' hd0 hpk r'⟩
    | exit id => exact hQ _ _ _ _ h' r'
    | goto l => exact hQ _ _ _ _ h' r'
    | ret => exact hQ _ _ _ _ h' r'
    | panic ch => exact hQ _ _ _ _ h' r'
    | outgrown => exact hQ _ _ _ _ h' r'
  | exit id => intro σ a w K Q h r hQ; exact wp_exit (hQ _ _ _ _ h r)
  | ret => intro σ a w K Q h r hQ; exact wp_ret (hQ _ _ _ _ h r)
  | _ => intro σ a w K Q h r hQ; exact h.elim

/-! ### what is known of arguments: no list is too long -/

def deep : (E : ETy) → E.α → Prop
  | .spk, x => x.length ≤ maxL
  | .cab, x => x.row.length ≤ maxL ∧ x.spoke.length ≤ maxL ∧ ∀ s ∈ x.spoke, s.length ≤ maxL
  | .rep, x => x.ids.length ≤ maxL
  | .str, x => x.length ≤ maxL
  | _, _ => True

def okLf : Lf → Prop
  | .list E t => (t ()).length ≤ maxL ∧ ∀ x ∈ t (), deep E x
  | .str t => (t ()).length ≤ maxL
  | .int .i64 t => -9223372036854775808 ≤ t () ∧ t () ≤ 9223372036854775807
  | _ => True

def okC : C → Prop
  | .lf l => okLf l
  | _ => True

def okCs : List C → Prop
  | [] => True
  | c :: cs => okC c ∧ okCs cs

def okAs : List V → Prop
  | [] => True
  | .c x :: vs => okC x ∧ okAs vs
  | .agg cs :: vs => okCs cs ∧ okAs vs
  | .tup _ :: vs => okAs vs

theorem RL.len {H : Hp} {E : ETy} {t : Unit → List E.α} {v : Value} (h : RL H (.list E t) v) : (t ()).length ≤ maxL := by
  cases h with
  | nil h => rw [h]; simp [maxL]
  | list hb hl hm ho hc => exact hm

theorem RL.elem {H : Hp} {E : ETy} {t : Unit → List E.α} {v : Value} (h : RL H (.list E t) v) : ∀ x ∈ t (), ∃ f : Nat → Value, ∀ j l, (cellsT E fun _ => x)[j]? = some l → RL H l (f j) := by
  cases h with
  | nil h => intro x hx; rw [h] at hx; cases hx
  | list hb hl hm ho hc =>
    intro x hx
    obtain ⟨i, hi, rfl⟩ := List.getElem_of_mem hx
    exact ⟨fun j => _, fun j l hj => hc i _ (List.getElem?_eq_getElem hi) j l hj⟩

theorem RL.deep {H : Hp} {E : ETy} {x : E.α} {f : Nat → Value} (h : ∀ j l, (cellsT E fun _ => x)[j]? = some l → RL H l (f j)) : Go.Proofs.Ytnmdhpaobmjefaa.deep E x := by
  cases E with
  | spk => exact (h 0 _ rfl).len
  | cab =>
    have h6 := h 6 _ rfl
    refine ⟨(h 5 _ rfl).len, h6.len, fun s hs => ?_⟩
    obtain ⟨g, hg⟩ := h6.elem s hs
    exact (hg 0 _ rfl).len
  | rep => exact (h 1 _ rfl).len
  | str => exact (RL.of_str (h 0 _ rfl)).2
  | _ => trivial

theorem RL.ok {H : Hp} {l : Lf} {v : Value} (h : RL H l v) : okLf l := by
  cases l with
  | int k t =>
    have h2 := (RL.of_int h).2
    cases k <;> first | exact has_i64.1 h2 | trivial
  | bool t => trivial
  | str t => exact (RL.of_str h).2
  | list E t => exact ⟨h.len, fun x hx => by obtain ⟨f, hf⟩ := h.elem x hx; exact RL.deep hf⟩

theorem RC.ok {H : Hp} {ρ : Rho} {D : Nat → Prop} {c : C} {v : Value} (h : RC H ρ D c v) : okC c := by
  cases c with
  | lf l => exact RL.ok h
  | _ => trivial

theorem RCs.ok {H : Hp} {ρ : Rho} {D : Nat → Prop} {f : Nat → Value} : ∀ {cs : List C}, (∀ (j : Nat) c, cs[j]? = some c → RC H ρ D c (f j)) → okCs cs := by
  intro cs
  induction cs generalizing f with
  | nil => intro _; trivial
  | cons c cs ih => intro h; exact ⟨(h 0 c rfl).ok, ih (f := fun j => f (j + 1)) fun j c hj => h (j + 1) c (by simpa using hj)⟩

theorem args_ok {H : Hp} {ρ : Rho} {D : Nat → Prop} {f : Nat → Value} : ∀ {as : List V}, (∀ (j : Nat) c, as[j]? = some c → RV H ρ D c (f j)) → okAs as := by
  intro as
  induction as generalizing f with
  | nil => intro _; trivial
  | cons c cs ih =>
    intro h
    have h1 := ih (f := fun j => f (j + 1)) fun j c hj => h (j + 1) c (by simpa using hj)
    cases c with
    | c x => exact ⟨RC.ok (h 0 _ rfl), h1⟩
    | agg l => obtain ⟨vs, _, h2⟩ := h 0 _ rfl; exact ⟨RCs.ok (f := fun j => vs.getD j Go.undef) h2.2, h1⟩
    | tup l => exact h1

/-- the state in which a function begins -/
def start (as : List V) (n : Nat) : SS := { env := as ++ List.replicate (n - as.length) (.c .undef), blk := [] }

/-- what is to be shown of a function -/
def vcFunc (P : Program) (tab : Tab) (fn : Func) (c : Code) (as : List V) (post : V → List Blk → Prop) : Prop :=
  vcCode P tab [] c (start as fn.ntmps) fun e σ => match e with
    | .normal => fin tab fn.results.toList post σ
    | .ret => fin tab fn.results.toList post σ
    | _ => False

theorem spec_of_vc {P : Program} {tab : Tab} (hT : tabB P tab = true) {f : FuncId} {fn : Func} {c : Code} (hf : P.funcs[f]? = some fn) (hb : fn.body = some c) (hnm : (fn.name == "runtime.NumGoroutine") = false)
    {as : List V} {post : V → List Blk → Prop} (h : okAs as → vcFunc P tab fn c as post) : Spec P f as post := by
  refine ⟨⟨fn, hf, hnm, by rw [hb]; rfl⟩, fun w vs hargs => ?_⟩
  refine calls_of_wp hf hb ?_
  let Γ : Ctx := ⟨fun b => w.heap[b]?, [], w, []⟩
  have r : Rel Γ (start as fn.ntmps) { tmps := vs ++ Array.replicate (fn.ntmps - vs.size) Go.undef, defers := [] } w := by
    refine ⟨fun b => w.heap[b]?, fun _ => default, ⟨⟨fun k hk => by simp [dom, start] at hk, by simp [start], fun _ _ h => h, fun _ _ h => h, fun k B hk => by simp [start] at hk, fun x => by simp [start, tot],
      fun k B hk => by simp [start] at hk, fun k B hk => by simp [start] at hk⟩, ⟨by simp [start, hargs.1], fun j c hj => ?_⟩, rfl, Ext.refl _, (fun p hp => by cases hp), fun p hp => by cases hp⟩⟩
    have e : dom (start as fn.ntmps).blk = fun _ => False := by funext k; simp [dom, start]
    rw [e]
    simp only [start] at hj
    rcases Nat.lt_or_ge j as.length with hlt | hge
    · rw [List.getElem?_append_left hlt] at hj
      have := hargs.2 j c hj
      rw [Array.getD_eq_getD_getElem?, Array.getElem?_append_left (by rw [hargs.1]; exact hlt), ← Array.getD_eq_getD_getElem?]
      exact this
    · rw [List.getElem?_append_right hge, List.getElem?_replicate] at hj
      split at hj
      · cases hj; trivial
      · cases hj
  refine vcCode_ok hT rfl (fun p hp => by cases hp) c (h (args_ok hargs.2)) r fun e σ' a' w' h' r' => ?_
  have done : fin tab fn.results.toList post σ' → ∃ v, (results fn a'.tmps).run P w' = .ok v w' ∧ ∃ v' rv nb H' ρ', Ending.returned v = .returned v' ∧ post rv nb ∧ nb.all ownB = true ∧ RelB w'.heap (fun b => w.heap[b]?) H' ρ' (num 0 nb) ∧
      RV noH ρ' (dom (num 0 nb)) rv v' ∧ Ext w w' := fun hf => by
    obtain ⟨H, ρ, r'⟩ := r'
    obtain ⟨v, h1, rv, nb, H', ρ', h2, h3, h4, h5⟩ := fin_ok hT r' (fn := fn) hf
    exact ⟨v, h1, v, rv, nb, H', ρ', rfl, h2, h3, h4, h5, r'.n⟩
  have hdf : a'.defers = [] := by obtain ⟨H, ρ, r'⟩ := r'; exact r'.d
  cases e with
  | normal => obtain ⟨v, h1, h2⟩ := done h'; exact ⟨hdf, v, h1, h2⟩
  | ret => obtain ⟨v, h1, h2⟩ := done h'; exact ⟨hdf, v, h1, h2⟩
  | exit id => cases h'
  | goto l => cases h'
  | panic ch => cases h'
  | outgrown => cases h'

end Go.Proofs.Ytnmdhpaobmjefaa
