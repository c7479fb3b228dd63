/-
  Owned lists: their elements one by one, names that are used up, a list that is made of others. No conditions.
-/
import Derived.Test.YtnmdhpaobmjefaaMem
import Derived.Deep.AppendSrc
namespace Go.Proofs.Ytnmdhpaobmjefaa
open Go

/-! ### elements in cells -/

def segN (n sz : Nat) (S : Nat → Nat → Nat → Nat) (x : Nat) : Nat := sumN n fun i => sumN sz fun j => S i j x

/-- the elements of a list, in cells counted from 0 on -/
def Seg (h : Array Obj) (E : ETy) (xs : List E.α) (cs : Nat → Value) (S : Nat → Nat → Nat → Nat) : Prop :=
  ∀ i x, xs[i]? = some x → ∀ j l, (cellsT E fun _ => x)[j]? = some l → OwnL h l (cs (i * E.sz + j)) (S i j)

def glue {α : Type} (n : Nat) (f g : Nat → α) : Nat → α := fun i => if i < n then f i else g (i - n)

theorem sumN_app {n m : Nat} {f : Nat → Nat} : sumN (n + m) f = sumN n f + sumN m fun i => f (n + i) := by
  induction m with
  | zero => simp [sumN]
  | succ m ih => rw [← Nat.add_assoc]; simp only [sumN, ih]; omega

theorem segN_glue {n m sz : Nat} {S T : Nat → Nat → Nat → Nat} {x : Nat} : segN (n + m) sz (glue n S T) x = segN n sz S x + segN m sz T x := by
  unfold segN
  rw [sumN_app]
  congr 1
  · exact sumN_congr fun i hi => by simp [glue, hi]
  · exact sumN_congr fun i _ => by simp only [glue, if_neg (Nat.not_lt.2 (Nat.le_add_right n i)), Nat.add_sub_cancel_left]

theorem segN_in {n sz : Nat} {S : Nat → Nat → Nat → Nat} {i j x : Nat} (hi : i < n) (hj : j < sz) : S i j x ≤ segN n sz S x :=
  Nat.le_trans (sumN_pos (f := fun j => S i j x) hj) (sumN_pos (f := fun i => sumN sz fun j => S i j x) hi)

theorem segN_ex {n sz : Nat} {S : Nat → Nat → Nat → Nat} {x : Nat} (h : 0 < segN n sz S x) : ∃ i j, i < n ∧ j < sz ∧ 0 < S i j x := by
  obtain ⟨i, hi, h1⟩ := sumN_exists h
  obtain ⟨j, hj, h2⟩ := sumN_exists h1
  exact ⟨i, j, hi, hj, h2⟩

theorem cell_lt {E : ETy} {x : E.α} {j : Nat} {l : Lf} (h : (cellsT E fun _ => x)[j]? = some l) : j < E.sz := by
  have := lt_of_get h; rwa [cellsT_len] at this

theorem cell_idx {i j n sz : Nat} (hi : i < n) (hj : j < sz) : i * sz + j < n * sz := by
  have : (i + 1) * sz ≤ n * sz := Nat.mul_le_mul_right _ hi
  rw [Nat.add_mul] at this
  omega

section
variable {h h' : Array Obj} {E : ETy} {xs ys : List E.α} {cs ds : Nat → Value} {S T : Nat → Nat → Nat → Nat}

theorem Seg.mono (hs : Seg h E xs cs S) (hk : ∀ x, 0 < segN xs.length E.sz S x → h'[x]? = h[x]?) : Seg h' E xs cs S := fun i x hx j l hj =>
  (hs i x hx j l hj).mono fun b hb => hk b (Nat.lt_of_lt_of_le hb (segN_in (lt_of_get hx) (cell_lt hj)))

theorem Seg.cells (hs : Seg h E xs cs S) (hc : ∀ q, q < xs.length * E.sz → ds q = cs q) : Seg h E xs ds S := fun i x hx j l hj => by
  rw [hc _ (cell_idx (lt_of_get hx) (cell_lt hj))]
  exact hs i x hx j l hj

theorem Seg.glue (hs : Seg h E xs cs S) (ht : Seg h E ys ds T) : Seg h E (xs ++ ys) (glue (xs.length * E.sz) cs ds) (glue xs.length S T) := fun i x hx j l hj => by
  rcases Nat.lt_or_ge i xs.length with hi | hi
  · rw [List.getElem?_append_left hi] at hx
    simp only [Go.Proofs.Ytnmdhpaobmjefaa.glue, hi, if_true, cell_idx hi (cell_lt hj)]
    exact hs i x hx j l hj
  · rw [List.getElem?_append_right hi] at hx
    have h1 : ¬ i * E.sz + j < xs.length * E.sz := by have := Nat.mul_le_mul_right E.sz hi; omega
    simp only [Go.Proofs.Ytnmdhpaobmjefaa.glue, if_neg (Nat.not_lt.2 hi), if_neg h1]
    have h2 : i * E.sz + j - xs.length * E.sz = (i - xs.length) * E.sz + j := by rw [Nat.sub_mul]; have := Nat.mul_le_mul_right E.sz hi; omega
    rw [h2]
    exact ht _ x hx j l hj

theorem Seg.nil : Seg h E [] cs S := fun i x hx => by simp at hx

/-- the elements of a list that lies in a block -/
theorem Seg.own {b off c : Nat} {vs : Array Value} {e : TypeId} {fz : Nat × Nat} (hs : Seg h E xs (fun q => vs.getD (off + q) Go.undef) S) (hb : h[b]? = some (.cells vs e fz)) (hf : NF vs fz)
    (hl : xs.length ≤ c) (hm : xs.length ≤ maxL) (ho : off + c * E.sz ≤ vs.size) : OwnL h (.list E fun _ => xs) (.slice (some ⟨b, off, none⟩) xs.length c) (cnt b xs.length E.sz S) :=
  .list (t := fun _ => xs) S hb hf hl hm ho fun i x hx j l hj => by have := hs i x hx j l hj; rwa [Nat.add_assoc]

/-- what an owned list is -/
theorem OwnL.seg {xs : Unit → List E.α} {v : Value} {p : Nat → Nat} (ho : OwnL h (.list E xs) v p) :
    (v = .slice none 0 0 ∧ xs () = [] ∧ p = fun _ => 0) ∨
    ∃ b off c vs e fz S, v = .slice (some ⟨b, off, none⟩) (xs ()).length c ∧ p = cnt b (xs ()).length E.sz S ∧ h[b]? = some (.cells vs e fz) ∧ NF vs fz ∧ (xs ()).length ≤ c ∧ (xs ()).length ≤ maxL ∧
      off + c * E.sz ≤ vs.size ∧ Seg h E (xs ()) (fun q => vs.getD (off + q) Go.undef) S := by
  cases ho with
  | nil h0 => exact .inl ⟨rfl, h0, rfl⟩
  | list S hb hf hl hm hoff hc =>
    exact .inr ⟨_, _, _, _, _, _, S, rfl, rfl, hb, hf, hl, hm, hoff, fun i x hx j l hj => by have := hc i x hx j l hj; rwa [Nat.add_assoc] at this⟩

end

/-! ### names that are used up -/

def killL : List (Nat × Blk) → List Nat → List (Nat × Blk)
  | bs, [] => bs
  | bs, k :: ks => killL (setB bs k .dead) ks

def updL : Rho → List Nat → Rho
  | ρ, [] => ρ
  | ρ, k :: ks => updL (upd ρ k ((ρ k).1, fun _ => 0)) ks

theorem updL_fst : ∀ {ks : List Nat} {ρ : Rho} {k : Nat}, (updL ρ ks k).1 = (ρ k).1
  | [], _, _ => rfl
  | j :: ks, ρ, k => by
    simp only [updL, updL_fst (ks := ks)]
    by_cases h : k = j
    · subst h; rw [upd_same]
    · rw [upd_other h]

theorem updL_other : ∀ {ks : List Nat} {ρ : Rho} {k : Nat}, k ∉ ks → updL ρ ks k = ρ k
  | [], _, _, _ => rfl
  | j :: ks, ρ, k, h => by
    simp only [List.mem_cons, not_or] at h
    simp only [updL, updL_other (ks := ks) h.2, upd_other h.1]

theorem dom_killL {k : Nat} : ∀ {ks : List Nat} {bs : List (Nat × Blk)}, dom (killL bs ks) k ↔ dom bs k
  | [], _ => Iff.rfl
  | j :: ks, bs => by simp only [killL, dom_killL (ks := ks), dom_setB]

theorem getB_setB_none {bs : List (Nat × Blk)} {k j : Nat} {B : Blk} (h : getB bs k = none) : getB (setB bs j B) k = none := by
  cases hg : getB (setB bs j B) k with
  | none => rfl
  | some A => exact (getB_none h (dom_setB.1 (getB_dom hg))).elim

theorem getB_killL_none {k : Nat} : ∀ {ks : List Nat} {bs : List (Nat × Blk)}, getB bs k = none → getB (killL bs ks) k = none
  | [], _, h => h
  | _ :: ks, _, h => getB_killL_none (ks := ks) (getB_setB_none h)

section
variable {Γ : Ctx} {H : Hp} {ρ : Rho} {σ : SS} {a : Act} {w w' : World}

theorem RelH.kill (r : RelH Γ H ρ σ a w) {k : Nat} (hk : dom σ.blk k) : RelH Γ H (upd ρ k ((ρ k).1, fun _ => 0)) { σ with blk := setB σ.blk k .dead } a w := by
  have e : dom (setB σ.blk k .dead) = dom σ.blk := by funext j; exact propext dom_setB
  have hf : ∀ j, (upd ρ k ((ρ k).1, fun _ => 0) j).1 = (ρ j).1 := fun j => by
    by_cases h : j = k
    · subst h; rw [upd_same]
    · rw [upd_other h]
  have g : Grow H H ρ (upd ρ k ((ρ k).1, fun _ => 0)) (dom σ.blk) (dom (setB σ.blk k .dead)) := ⟨fun _ _ h => h, fun j hj => ⟨dom_setB.2 hj, hf j⟩⟩
  refine ⟨⟨fun j hj => by rw [hf]; exact r.b.oc j (dom_setB.1 hj), by rw [keys_setB]; exact r.b.nd, r.b.h0, r.b.hh, fun j A hj => ?_, fun x => ?_, fun j A hj x hx => ?_, fun j A hj x hx => ?_⟩, r.e.grow g, r.d, r.n, fun p hp => ?_, fun p hp => ⟨dom_setB.2 (r.hm p hp).1, by rw [hf]; exact (r.hm p hp).2⟩⟩
  · rcases mem_setB r.b.nd hj with ⟨rfl, rfl⟩ | ⟨hne, hj⟩
    · rw [upd_same]; rfl
    · rw [upd_other hne]; exact (r.b.blk j A hj).mono g fun _ _ => rfl
  · have h1 := tot_setB (ρ := ρ) (ρ' := upd ρ k ((ρ k).1, fun _ => 0)) r.b.nd (B := .dead) hk (fun j hj => upd_other hj) x
    rw [upd_same] at h1
    have := r.b.sum x
    show tot _ (setB σ.blk k .dead) x ≤ 1
    simp only [Nat.add_zero] at h1
    omega
  · rcases mem_setB r.b.nd hj with ⟨rfl, rfl⟩ | ⟨hne, hj⟩
    · rw [upd_same] at hx; simp at hx
    · rw [upd_other hne] at hx; exact r.b.fresh j A hj x hx
  · rcases mem_setB r.b.nd hj with ⟨rfl, rfl⟩ | ⟨hne, hj⟩
    · cases hx
    · rw [upd_other hne] at hx; exact r.b.tops j A hj x hx
  · obtain ⟨h1, h2⟩ := r.hd p hp
    refine ⟨dom_setB.2 h1, by rw [hf]; exact h2.1, fun x => ?_⟩
    by_cases h : p.1 = k
    · rw [h, upd_same]; exact Nat.zero_le _
    · rw [upd_other h]; exact h2.2 x

theorem RelH.killL : ∀ {ks : List Nat} {ρ : Rho} {σ : SS}, RelH Γ H ρ σ a w → (∀ k ∈ ks, dom σ.blk k) → RelH Γ H (updL ρ ks) { σ with blk := killL σ.blk ks } a w
  | [], _, _, r, _ => r
  | k :: ks, _, _, r, hd => RelH.killL (ks := ks) (r.kill (hd k List.mem_cons_self)) fun j hj => dom_setB.2 (hd j (List.mem_cons_of_mem _ hj))

theorem tot_killL : ∀ {ks : List Nat} {ρ : Rho} {bs : List (Nat × Blk)} {x : Nat}, (bs.map (·.1)).Nodup → nodupB ks = true → (∀ k ∈ ks, dom bs k) → tot (updL ρ ks) (Go.Proofs.Ytnmdhpaobmjefaa.killL bs ks) x + sumK ρ ks x = tot ρ bs x
  | [], _, _, _, _, _, _ => by simp [updL, Go.Proofs.Ytnmdhpaobmjefaa.killL, sumK]
  | k :: ks, ρ, bs, x, hn, hd, hk => by
    obtain ⟨h1, h2⟩ := nodupB_cons hd
    have ih := tot_killL (ks := ks) (ρ := upd ρ k ((ρ k).1, fun _ => 0)) (bs := setB bs k .dead) (x := x) (by rw [keys_setB]; exact hn) h2 fun j hj => dom_setB.2 (hk j (List.mem_cons_of_mem _ hj))
    have h3 := tot_setB (ρ := ρ) (ρ' := upd ρ k ((ρ k).1, fun _ => 0)) hn (B := .dead) (hk k List.mem_cons_self) (fun j hj => upd_other hj) x
    rw [upd_same] at h3
    have h4 : sumK (upd ρ k ((ρ k).1, fun _ => 0)) ks x = sumK ρ ks x := by
      have : ∀ {ks : List Nat}, k ∉ ks → sumK (upd ρ k ((ρ k).1, fun _ => 0)) ks x = sumK ρ ks x := by
        intro ks
        induction ks with
        | nil => intro _; rfl
        | cons j ks ih =>
          intro h
          simp only [List.mem_cons, not_or] at h
          simp only [sumK, ih h.2, upd_other (Ne.symm h.1)]
      exact this h1
    simp only [updL, Go.Proofs.Ytnmdhpaobmjefaa.killL, sumK]
    simp only [Nat.add_zero] at h3
    omega

theorem sumK_pos {ρ : Rho} {x : Nat} : ∀ {ks : List Nat}, 0 < sumK ρ ks x → ∃ k ∈ ks, 0 < (ρ k).2 x
  | [], h => by simp [sumK] at h
  | k :: ks, h => by
    rcases Nat.eq_zero_or_pos ((ρ k).2 x) with h0 | h0
    · have h : 0 < (ρ k).2 x + sumK ρ ks x := h
      rw [h0, Nat.zero_add] at h
      obtain ⟨j, hj, h1⟩ := sumK_pos (ks := ks) h
      exact ⟨j, List.mem_cons_of_mem _ hj, h1⟩
    · exact ⟨k, List.mem_cons_self, h0⟩

theorem unlent_get : ∀ {ks : List Nat} {bs : List (Nat × Blk)}, unlent bs ks = true → ∀ k ∈ ks, ∃ E xs, getB bs k = some (.own E xs false)
  | [], _, _, k, hk => by cases hk
  | j :: ks, bs, h, k, hk => by
    simp only [unlent, Bool.and_eq_true] at h
    cases hk with
    | head =>
      cases hg : getB bs j with
      | none => simp [hg] at h
      | some B =>
        cases B with
        | own E xs l => cases l with
          | false => exact ⟨E, xs, rfl⟩
          | true => simp [hg] at h
        | dead => simp [hg] at h
        | box cs => simp [hg] at h
        | view E xs => simp [hg] at h
        | hol E xs i fs => simp [hg] at h
    | tail _ hk => exact unlent_get h.2 k hk

/-- names are used up, and their memory is a new name's -/
theorem RelH.eat (r : RelH Γ H ρ σ a w) {ks : List Nat} (hn : nodupB ks = true) (hu : unlent σ.blk ks = true) {k : Nat} (hk : getB σ.blk k = none) {E : ETy} {xs : Unit → List E.α} {p : Value × (Nat → Nat)}
    (hh : ∀ x, x < w.heap.size → sumK ρ ks x = 0 → w'.heap[x]? = w.heap[x]?) (hsz : Ext w w') (hown : OwnL w'.heap (.list E xs) p.1 p.2) (hone : p.1.oneCell' = true)
    (hp : ∀ x, x < w.heap.size → p.2 x ≤ sumK ρ ks x) (hp' : ∀ x, w.heap.size ≤ x → p.2 x ≤ 1) :
    ∃ ρ', RelH Γ H ρ' { σ with blk := insB (Go.Proofs.Ytnmdhpaobmjefaa.killL σ.blk ks) k (.own E xs false) } a w' ∧ (ρ' k).1 = p.1 ∧ ∀ j, j ≠ k → (ρ' j).1 = (ρ j).1 := by
  have hd : ∀ j ∈ ks, dom σ.blk j := fun j hj => by obtain ⟨E, xs, hg⟩ := unlent_get hu j hj; exact getB_dom hg
  have r1 := r.killL hd
  have hsum := fun x => tot_killL (ρ := ρ) (x := x) r.b.nd hn hd
  have hHn : ∀ x, 0 < sumK ρ ks x → H x = none := fun x hx => by
    obtain ⟨j, hj, h1⟩ := sumK_pos hx
    obtain ⟨E, xs, hg⟩ := unlent_get hu j hj
    exact r.b.tops j _ (getB_mem hg) x h1
  refine ⟨upd (updL ρ ks) k p, r1.new' (getB_killL_none hk) (fun b o hb => ?_) (fun b hb => ?_) hsz hone (fun x hx => ?_) (fun x => ?_) hown (by simp), by rw [upd_same], fun j hj => by rw [upd_other hj, updL_fst]⟩
  · refine hh b (lt_of_aget (r.b.hh b o hb)) ?_
    rcases Nat.eq_zero_or_pos (sumK ρ ks b) with h | h
    · exact h
    · rw [hHn b h] at hb; cases hb
  · have h1 := hsum b
    have h2 := r.b.sum b
    have hb' : 0 < tot (updL ρ ks) (Go.Proofs.Ytnmdhpaobmjefaa.killL σ.blk ks) b := hb
    exact hh b (r.lt (by omega)) (by omega)
  · rcases Nat.lt_or_ge x w.heap.size with h | h
    · have h1 := hp x h
      have h2 := hsum x
      have h3 := r.b.sum x
      exact ⟨hHn x (by omega), by simp only; omega⟩
    · have h1 := r.none_above h
      have h2 := hsum x
      exact ⟨h1.1, by simp only; omega⟩
  · rcases Nat.lt_or_ge x w.heap.size with h | h
    · have h1 := hp x h
      have h2 := hsum x
      have h3 := r.b.sum x
      omega
    · exact hp' x h

end

end Go.Proofs.Ytnmdhpaobmjefaa
