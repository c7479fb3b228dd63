/-
  States that change: a new name, a name that dies, a frame that is another. No conditions.
-/
import Derived.Test.YtnmdhpaobmjefaaEv
namespace Go.Proofs.Ytnmdhpaobmjefaa
open Go

def upd (ρ : Rho) (k : Nat) (p : Value × (Nat → Nat)) : Rho := fun j => if j = k then p else ρ j

theorem upd_same (ρ : Rho) (k : Nat) (p : Value × (Nat → Nat)) : upd ρ k p k = p := by simp [upd]
theorem upd_other {ρ : Rho} {k j : Nat} {p : Value × (Nat → Nat)} (h : j ≠ k) : upd ρ k p j = ρ j := by simp [upd, h]

theorem lt_of_aget {α : Type} {l : Array α} {i : Nat} {x : α} (h : l[i]? = some x) : i < l.size := by
  rcases Nat.lt_or_ge i l.size with h' | h'
  · exact h'
  · rw [Array.getElem?_eq_none h'] at h; cases h

theorem BlkR.there {h : Array Obj} {H : Hp} {ρ : Rho} {D : Nat → Prop} {B : Blk} {p : Value × (Nat → Nat)} (hr : BlkR h H ρ D B p) : ∀ x, 0 < p.2 x → x < h.size := by
  intro x hx
  cases B with
  | dead => simp only [BlkR] at hr; rw [hr] at hx; simp at hx
  | box cs =>
    obtain ⟨b, vs, e, fz, _, h2, h3, _⟩ := hr
    rw [h2] at hx
    simp only [one] at hx
    split at hx
    · rename_i hb; subst hb; exact lt_of_aget h3
    · simp at hx
  | own E xs l => obtain ⟨cs, e, fz, h1⟩ := OwnL.there (h := h) hr x hx; exact lt_of_aget h1
  | view E xs => rw [hr.2] at hx; simp at hx
  | hol E xs i fs =>
    obtain ⟨b, o, c, cs, e, fz, S, h1, h2, h3, h4, h5, h6, h7, h8, h9⟩ := hr
    rw [h2] at hx
    rcases cnt_cases hx with rfl | ⟨q, j, hq, hj, h10⟩
    · exact lt_of_aget h3
    · obtain ⟨y, hy⟩ : ∃ y, (xs ())[q]? = some y := ⟨_, List.getElem?_eq_getElem hq⟩
      obtain ⟨l, hl⟩ : ∃ l, (cellsT E fun _ => y)[j]? = some l := ⟨_, List.getElem?_eq_getElem (by rw [cellsT_len]; exact hj)⟩
      have h11 := h9 q y hy j l hl
      split at h11
      · rw [h11.2.2] at h10; simp at h10
      · obtain ⟨cs, e, fz, h12⟩ := h11.there x h10
        exact lt_of_aget h12

theorem tot_pos {ρ : Rho} {bs : List (Nat × Blk)} {x : Nat} (h : 0 < tot ρ bs x) : ∃ j A, (j, A) ∈ bs ∧ 0 < (ρ j).2 x := by
  induction bs with
  | nil => simp [tot] at h
  | cons q bs ih =>
    simp only [tot] at h
    by_cases h0 : 0 < (ρ q.1).2 x
    · exact ⟨q.1, q.2, List.mem_cons_self, h0⟩
    · obtain ⟨j, A, h2, h3⟩ := ih (by omega); exact ⟨j, A, List.mem_cons_of_mem _ h2, h3⟩

/-- the heap has changed, but not where it is known or owned; one more name, whose blocks are nobody's -/
theorem RelH.new' {Γ : Ctx} {H : Hp} {ρ : Rho} {σ : SS} {a : Act} {w w' : World} (r : RelH Γ H ρ σ a w) {k : Nat} {B : Blk} {p : Value × (Nat → Nat)} (hk : getB σ.blk k = none)
    (holdH : ∀ b o, H b = some o → w'.heap[b]? = w.heap[b]?) (hold : ∀ b, 0 < tot ρ σ.blk b → w'.heap[b]? = w.heap[b]?) (hsz : Ext w w') (hone : p.1.oneCell' = true)
    (hnew : ∀ x, 0 < p.2 x → H x = none ∧ tot ρ σ.blk x = 0) (hle : ∀ x, p.2 x ≤ 1)
    (hB : BlkR w'.heap H (upd ρ k p) (dom (insB σ.blk k B)) B p) (hdead : B ≠ .dead) :
    RelH Γ H (upd ρ k p) { σ with blk := insB σ.blk k B } a w' := by
  have hkd := getB_none hk
  have hne : ∀ j, dom σ.blk j → j ≠ k := fun j hj he => hkd (he ▸ hj)
  have g : Grow H H ρ (upd ρ k p) (dom σ.blk) (dom (insB σ.blk k B)) := ⟨fun _ _ h => h, fun j hj => ⟨dom_insB.2 (.inr hj), by rw [upd_other (hne j hj)]⟩⟩
  have hmem : ∀ j A, (j, A) ∈ σ.blk → dom σ.blk j := fun j A h => List.mem_map.2 ⟨_, h, rfl⟩
  refine ⟨⟨?_, nodup_insB r.b.nd hkd, r.b.h0, ?_, ?_, ?_, ?_, ?_⟩, r.e.grow g, r.d, r.n.trans hsz, ?_, ?_⟩
  · intro j hj
    rcases dom_insB.1 hj with rfl | hj
    · rw [upd_same]; exact hone
    · rw [upd_other (hne j hj)]; exact r.b.oc j hj
  · intro b o hb
    rw [holdH b o hb]; exact r.b.hh b o hb
  · intro j A hj
    rcases mem_insB.1 hj with h1 | h1
    · cases h1; rw [upd_same]; exact hB
    · rw [upd_other (hne j (hmem j A h1))]
      exact (r.b.blk j A h1).mono g fun b hb => hold b (Nat.lt_of_lt_of_le hb (tot_le h1 b))
  · intro x
    rw [tot_insB, upd_same, tot_congr (ρ := ρ) (ρ' := upd ρ k p) (fun j hj => upd_other (hne j hj))]
    by_cases hx : 0 < p.2 x
    · have h2 := (hnew x hx).2
      have := hle x
      omega
    · have := r.b.sum x; omega
  · intro j A hj x hx
    rcases mem_insB.1 hj with h1 | h1
    · cases h1
      rw [upd_same] at hx
      have := (hnew x hx).1
      cases h0 : Γ.H0 x with
      | none => rfl
      | some o => rw [r.b.h0 x o h0] at this; cases this
    · rw [upd_other (hne j (hmem j A h1))] at hx
      exact r.b.fresh j A h1 x hx
  · intro j A hj x hx
    rcases mem_insB.1 hj with h1 | h1
    · cases h1
      rw [upd_same] at hx
      refine (hnew x ?_).1
      cases B with
      | dead => exact (hdead rfl).elim
      | box cs => exact hx
      | view E xs => exact hx.elim
      | hol E xs i fs => exact hx
      | own E xs l =>
        cases l with
        | false => exact hx
        | true =>
          obtain ⟨o, n, c, h2⟩ := hx
          have : OwnL w'.heap (.list E xs) p.1 p.2 := hB
          rw [h2] at this
          generalize hv : Value.slice (some ⟨x, o, none⟩) n c = v at this
          generalize hS : p.2 = S at this
          cases this with
          | nil => cases hv
          | list S' hb hf hl hm ho hc => cases hv; exact cnt_top _ _ _ _
    · rw [upd_other (hne j (hmem j A h1))] at hx
      exact r.b.tops j A h1 x hx
  · intro q hq
    obtain ⟨h1, h2⟩ := r.hd q hq
    exact ⟨dom_insB.2 (.inr h1), by rw [upd_other (hne _ h1)]; exact h2⟩
  · intro q hq
    obtain ⟨h1, h2⟩ := r.hm q hq
    exact ⟨dom_insB.2 (.inr h1), by rw [upd_other (hne _ h1)]; exact h2⟩

theorem RelH.none_above {Γ : Ctx} {H : Hp} {ρ : Rho} {σ : SS} {a : Act} {w : World} (r : RelH Γ H ρ σ a w) {x : Nat} (hx : w.heap.size ≤ x) : H x = none ∧ tot ρ σ.blk x = 0 := by
  constructor
  · cases hH : H x with
    | none => rfl
    | some o => have := lt_of_aget (r.b.hh x o hH); omega
  · rcases Nat.eq_zero_or_pos (tot ρ σ.blk x) with h | h
    · exact h
    · obtain ⟨j, A, h3, h4⟩ := tot_pos h
      have := (r.b.blk j A h3).there x h4
      omega

theorem RelH.lt {Γ : Ctx} {H : Hp} {ρ : Rho} {σ : SS} {a : Act} {w : World} (r : RelH Γ H ρ σ a w) {x : Nat} (h : 0 < tot ρ σ.blk x) : x < w.heap.size := by
  rcases Nat.lt_or_ge x w.heap.size with h' | h'
  · exact h'
  · have := (r.none_above h').2; omega

/-- one more name, whose blocks are new -/
theorem RelH.new {Γ : Ctx} {H : Hp} {ρ : Rho} {σ : SS} {a : Act} {w w' : World} (r : RelH Γ H ρ σ a w) {k : Nat} {B : Blk} {p : Value × (Nat → Nat)} (hk : getB σ.blk k = none)
    (hold : ∀ b, b < w.heap.size → w'.heap[b]? = w.heap[b]?) (hsz : Ext w w') (hone : p.1.oneCell' = true) (hnew : ∀ x, 0 < p.2 x → w.heap.size ≤ x) (hle : ∀ x, p.2 x ≤ 1)
    (hB : BlkR w'.heap H (upd ρ k p) (dom (insB σ.blk k B)) B p) (hdead : B ≠ .dead) :
    RelH Γ H (upd ρ k p) { σ with blk := insB σ.blk k B } a w' :=
  r.new' hk (fun b o hb => hold b (lt_of_aget (r.b.hh b o hb))) (fun b hb => hold b (r.lt hb)) hsz hone (fun x hx => r.none_above (hnew x hx)) hle hB hdead

theorem alloc_old (w : World) (o : Obj) : ∀ b, b < w.heap.size → (w.alloc o).heap[b]? = w.heap[b]? := fun b hb => by
  show (w.heap.push o)[b]? = w.heap[b]?
  rw [Array.getElem?_push, if_neg (Nat.ne_of_lt hb)]

theorem alloc_new (w : World) (o : Obj) : (w.alloc o).heap[w.heap.size]? = some o := by
  show (w.heap.push o)[w.heap.size]? = some o
  simp

theorem alloc_ext (w : World) (cs : Array Value) (e : TypeId) : Ext w (w.alloc (.cells cs e)) := by
  refine ⟨by simp, rfl, rfl, fun a => ?_⟩
  unfold World.frozen?
  rcases Nat.lt_trichotomy a.block w.heap.size with h | h | h
  · rw [alloc_old w _ _ h]
  · rw [h, alloc_new, Array.getElem?_eq_none (Nat.le_refl _)]
    simp
  · rw [Array.getElem?_eq_none (show w.heap.size ≤ a.block by omega), Array.getElem?_eq_none (by simp; omega)]

theorem one_le (b x : Nat) : one b x ≤ 1 := by simp only [one]; split <;> omega
theorem one_pos {b x : Nat} (h : 0 < one b x) : x = b := by simp only [one] at h; split at h <;> first | assumption | omega

theorem NF_zero (vs : Array Value) : NF vs (0, 0) := .inl (Nat.le_refl _)

/-- a new variable -/
theorem RelH.newBox {Γ : Ctx} {H : Hp} {ρ : Rho} {σ : SS} {a : Act} {w : World} (r : RelH Γ H ρ σ a w) {k : Nat} (hk : getB σ.blk k = none) {cs : List C} {vs : Array Value} (e : TypeId)
    (hc : RCs H ρ (dom σ.blk) cs vs) :
    ∃ ρ', RelH Γ H ρ' { σ with blk := insB σ.blk k (.box cs) } a (w.alloc (.cells vs e)) ∧ (ρ' k).1 = .pointer (some ⟨w.heap.size, 0, none⟩) ∧ ∀ j, dom σ.blk j → ρ' j = ρ j := by
  have hkd := getB_none hk
  have hne : ∀ j, dom σ.blk j → j ≠ k := fun j hj he => hkd (he ▸ hj)
  refine ⟨upd ρ k (.pointer (some ⟨w.heap.size, 0, none⟩), one w.heap.size), ?_, by rw [upd_same], fun j hj => upd_other (hne j hj)⟩
  refine r.new hk (alloc_old w _) (alloc_ext w _ _) rfl (fun x hx => by rw [one_pos hx]; exact Nat.le_refl _) (one_le _) ?_ (by simp)
  exact ⟨w.heap.size, vs, e, (0, 0), rfl, rfl, alloc_new w _, NF_zero _, hc.grow ⟨fun _ _ h => h, fun j hj => ⟨dom_insB.2 (.inr hj), by rw [upd_other (hne j hj)]⟩⟩⟩

end Go.Proofs.Ytnmdhpaobmjefaa
