/-
  A store into an element of an owned list. No conditions.
-/
import Derived.Test.YtnmdhpaobmjefaaLst
namespace Go.Proofs.Ytnmdhpaobmjefaa
open Go

section
variable {Γ : Ctx} {H : Hp} {ρ : Rho} {σ : SS} {a : Act} {w w' : World}

theorem getB_setB_same {bs : List (Nat × Blk)} {k : Nat} {B : Blk} (h : dom bs k) : getB (setB bs k B) k = some B := by
  induction bs with
  | nil => simp [dom] at h
  | cons p r ih =>
    simp only [setB]
    split
    · simp [getB]
    · rename_i hp
      simp only [getB, if_neg hp]
      refine ih ?_
      simp only [dom, List.map_cons, List.mem_cons] at h
      exact h.resolve_left (Ne.symm hp)

/-- a name that is dead has memory again, behind the same header -/
theorem RelH.revive (hd0 : Γ.hd = []) (r : RelH Γ H ρ σ a w) {k : Nat} (hk : dom σ.blk k) (h0 : ∀ x, (ρ k).2 x = 0) {B : Blk} {p : Nat → Nat}
    (hh : ∀ x, x < w.heap.size → 0 < tot ρ σ.blk x ∨ H x ≠ none → w'.heap[x]? = w.heap[x]?) (hsz : Ext w w')
    (hB : BlkR w'.heap H (upd ρ k ((ρ k).1, p)) (dom (setB σ.blk k B)) B ((ρ k).1, p)) (htop : ∀ x, Top B ((ρ k).1, p) x → 0 < p x)
    (hp : ∀ x, 0 < p x → H x = none ∧ tot ρ σ.blk x = 0) (hle : ∀ x, p x ≤ 1) :
    RelH Γ H (upd ρ k ((ρ k).1, p)) { σ with blk := setB σ.blk k B } a w' := by
  have hf : ∀ j, (upd ρ k ((ρ k).1, p) j).1 = (ρ j).1 := fun j => by
    by_cases h : j = k
    · subst h; rw [upd_same]
    · rw [upd_other h]
  have g : Grow H H ρ (upd ρ k ((ρ k).1, p)) (dom σ.blk) (dom (setB σ.blk k B)) := ⟨fun _ _ h => h, fun j hj => ⟨dom_setB.2 hj, hf j⟩⟩
  refine ⟨⟨fun j hj => by rw [hf]; exact r.b.oc j (dom_setB.1 hj), by rw [keys_setB]; exact r.b.nd, r.b.h0, fun b o hb => ?_, fun j A hj => ?_, fun x => ?_, fun j A hj x hx => ?_, fun j A hj x hx => ?_⟩, r.e.grow g, r.d, r.n.trans hsz, (fun p hp => by rw [hd0] at hp; cases hp), fun p hp => ⟨dom_setB.2 (r.hm p hp).1, by rw [hf]; exact (r.hm p hp).2⟩⟩
  · have := r.b.hh b o hb
    rw [hh b (lt_of_aget this) (.inr (by rw [hb]; simp))]
    exact this
  · rcases mem_setB r.b.nd hj with ⟨rfl, rfl⟩ | ⟨hne, hj⟩
    · rw [upd_same]; exact hB
    · rw [upd_other hne]
      exact (r.b.blk j A hj).mono g fun b hb => hh b (r.lt (Nat.lt_of_lt_of_le hb (tot_le hj b))) (.inl (Nat.lt_of_lt_of_le hb (tot_le hj b)))
  · have h1 := tot_setB (ρ := ρ) (ρ' := upd ρ k ((ρ k).1, p)) r.b.nd (B := B) hk (fun j hj => upd_other hj) x
    rw [upd_same, h0 x] at h1
    show tot _ (setB σ.blk k B) x ≤ 1
    have h2 := r.b.sum x
    have h3 := hle x
    rcases Nat.eq_zero_or_pos (p x) with h4 | h4
    · simp only [h4] at h1; omega
    · have := (hp x h4).2
      simp only at h1
      omega
  · rcases mem_setB r.b.nd hj with ⟨rfl, rfl⟩ | ⟨hne, hj⟩
    · rw [upd_same] at hx
      have := (hp x hx).1
      cases h0 : Γ.H0 x with
      | none => rfl
      | some o => rw [r.b.h0 x o h0] at this; cases this
    · rw [upd_other hne] at hx; exact r.b.fresh j A hj x hx
  · rcases mem_setB r.b.nd hj with ⟨rfl, rfl⟩ | ⟨hne, hj⟩
    · rw [upd_same] at hx; exact (hp x (htop x hx)).1
    · rw [upd_other hne] at hx; exact r.b.tops j A hj x hx

theorem updL_zero : ∀ {ks : List Nat} {ρ : Rho} {k x : Nat}, (k ∈ ks ∨ (ρ k).2 x = 0) → (updL ρ ks k).2 x = 0
  | [], ρ, k, x, h => h.resolve_left (by simp)
  | j :: ks, ρ, k, x, h => by
    simp only [updL]
    refine updL_zero ?_
    by_cases hjk : k = j
    · right; subst hjk; rw [upd_same]
    · rcases h with h | h
      · rcases List.mem_cons.1 h with h | h
        · exact (hjk h).elim
        · exact .inl h
      · right; rw [upd_other hjk]; exact h

/-- row i of a table of counts is another -/
theorem segN_set {n sz i : Nat} (hi : i < n) {S : Nat → Nat → Nat → Nat} {T : Nat → Nat → Nat} {x : Nat} :
    segN n sz (fun q => if q = i then T else S q) x + sumN sz (fun j => S i j x) = segN n sz S x + sumN sz fun j => T j x := by
  unfold segN
  have := sumN_set (f := fun q => sumN sz fun j => (if q = i then T else S q) j x) (g := fun q => sumN sz fun j => S q j x) hi fun j hj => by simp only [if_neg hj]
  simp only [if_pos] at this
  omega

/-- an element is another: the cells of a list -/
theorem Seg.set {h : Array Obj} {E : ETy} {xs : List E.α} {cs ds : Nat → Value} {S T : Nat → Nat → Nat → Nat} {x : E.α} {i : Nat} (hs : Seg h E xs cs S) (ht : Seg h E [x] ds T) :
    Seg h E (xs.set i x) (fun q => if i * E.sz ≤ q ∧ q < i * E.sz + E.sz then ds (q - i * E.sz) else cs q) (fun q => if q = i then T 0 else S q) := fun q y hy j l hj => by
  have hjl := cell_lt hj
  rw [List.getElem?_set] at hy
  by_cases hq : i = q
  · subst hq
    rw [if_pos rfl] at hy
    split at hy
    · cases hy
      simp only [if_pos]
      rw [if_pos (by omega), Nat.add_sub_cancel_left]
      have := ht 0 x rfl j l hj
      rwa [Nat.zero_mul, Nat.zero_add] at this
    · cases hy
  · rw [if_neg hq] at hy
    simp only [if_neg (Ne.symm hq)]
    rw [if_neg]
    · exact hs q y hy j l hj
    · intro hc
      rcases Nat.lt_or_gt_of_ne hq with h1 | h1
      · have := Nat.mul_le_mul_right E.sz (show i + 1 ≤ q from h1)
        rw [Nat.add_mul] at this
        omega
      · have := Nat.mul_le_mul_right E.sz (show q + 1 ≤ i from h1)
        rw [Nat.add_mul] at this
        omega

end

end Go.Proofs.Ytnmdhpaobmjefaa
