/-
  Owned lists of which an element's cells stand under names of their own: opening, closing, storing. No conditions.
-/
import Derived.Test.YtnmdhpaobmjefaaStore
namespace Go.Proofs.Ytnmdhpaobmjefaa
open Go

theorem filled_none {fs : List (Option Nat)} (h : fs.all Option.isNone = true) (i q j : Nat) : filled fs i q j = none := by
  unfold filled
  split
  · split
    · rename_i k hk
      have := List.all_eq_true.1 h _ (List.mem_of_getElem? hk)
      cases this
    · rfl
  · rfl

theorem filled_set {fs : List (Option Nat)} {i q j m : Nat} {o : Option Nat} (hj : j < fs.length) : filled (fs.set j o) i q m = if q = i ∧ m = j then o else filled fs i q m := by
  unfold filled
  by_cases hq : q = i
  · simp only [hq, if_true, true_and]
    rw [List.getElem?_set]
    by_cases hm : m = j
    · subst hm
      simp only [if_true, hj]
      cases o <;> rfl
    · rw [if_neg (Ne.symm hm), if_neg hm]
  · simp only [hq, if_false, false_and]

section
variable {h : Array Obj} {ρ : Rho} {D : Nat → Prop} {E : ETy} {xs : List E.α} {i : Nat} {fs : List (Option Nat)} {cs : Nat → Value} {S : Nat → Nat → Nat → Nat}

theorem HSeg.seg (hs : HSeg h ρ D E xs i fs cs S) (hf : fs.all Option.isNone = true) : Seg h E xs cs S := fun q x hx j l hj => by
  have := hs q x hx j l hj
  rw [filled_none hf] at this
  exact this

theorem Seg.hseg (hs : Seg h E xs cs S) (hf : fs.all Option.isNone = true) : HSeg h ρ D E xs i fs cs S := fun q x hx j l hj => by
  rw [filled_none hf]
  exact hs q x hx j l hj
end

/-- an owned list, seen as one of which no cell is open -/
theorem own_hol {h : Array Obj} {H : Hp} {ρ : Rho} {D : Nat → Prop} {E : ETy} {xs : Unit → List E.α} {l : Bool} {p : Value × (Nat → Nat)} (ho : BlkR h H ρ D (.own E xs l) p) {i : Unit → Nat} (hi : i () < (xs ()).length)
    {fs : List (Option Nat)} (hf : fs.all Option.isNone = true) : BlkR h H ρ D (.hol E xs i fs) p := by
  have ho : OwnL h (.list E xs) p.1 p.2 := ho
  rcases ho.seg with ⟨_, h0, _⟩ | ⟨b, off, c, vs, e, fz, S, h1, h2, h3, h4, h5, h6, h7, h8⟩
  · rw [h0] at hi; simp at hi
  · exact ⟨b, off, c, vs, e, fz, S, h1, h2, h3, h4, h5, h6, h7, hi, h8.hseg hf⟩

theorem hol_own {h : Array Obj} {H : Hp} {ρ : Rho} {D : Nat → Prop} {E : ETy} {xs : Unit → List E.α} {p : Value × (Nat → Nat)} {i : Unit → Nat} {fs : List (Option Nat)} (ho : BlkR h H ρ D (.hol E xs i fs) p)
    (hf : fs.all Option.isNone = true) (l : Bool) : BlkR h H ρ D (.own E xs l) p := by
  obtain ⟨b, o, c, cs, e, fz, S, h1, h2, h3, h4, h5, h6, h7, h8, h9⟩ := ho
  have := (h9.seg hf).own h3 h4 h5 h6 h7
  show OwnL h (.list E xs) p.1 p.2
  rw [h1, h2]
  exact this

/-- one cell's count is another -/
theorem segN_upd {n sz i j : Nat} (hi : i < n) (hj : j < sz) {S : Nat → Nat → Nat → Nat} {T : Nat → Nat} {x : Nat} :
    segN n sz (fun q m => if q = i ∧ m = j then T else S q m) x + S i j x = segN n sz S x + T x := by
  unfold segN
  have h1 := sumN_set (f := fun q => sumN sz fun m => (if q = i ∧ m = j then T else S q m) x) (g := fun q => sumN sz fun m => S q m x) hi fun q hq => by simp only [hq, false_and, if_false]
  have h2 := sumN_set (f := fun m => (if m = j then T else S i m) x) (g := fun m => S i m x) hj fun m hm => by simp only [if_neg hm]
  simp only [true_and, if_true] at h1 h2
  show (sumN n fun q => sumN sz fun m => (if q = i ∧ m = j then T else S q m) x) + _ = _ + _
  omega

/-- the cells of an element, those that stand under names by what these hold -/
def fillL (bs : List (Nat × Blk)) : List (Option Nat) → List Lf → Option (List Lf × List Nat)
  | _, [] => some ([], [])
  | [], l :: ls => some (l :: ls, [])
  | o :: fs, l :: ls =>
    match fillL bs fs ls with
    | some (r, ks) =>
      match o with
      | none => some (l :: r, ks)
      | some k => (match getB bs k with | some (.own E xs false) => some (.list E xs :: r, k :: ks) | _ => none)
    | none => none

theorem fillL_ok {bs : List (Nat × Blk)} {ρ : Rho} : ∀ {fs : List (Option Nat)} {ls ls' : List Lf} {ks : List Nat}, fillL bs fs ls = some (ls', ks) →
    ls'.length = ls.length ∧ unlent bs ks = true ∧ (∀ (j : Nat) l', ls'[j]? = some l' → (∃ k E xs, fs[j]? = some (some k) ∧ getB bs k = some (.own E xs false) ∧ k ∈ ks ∧ l' = .list E xs) ∨ ((∀ k, fs[j]? ≠ some (some k)) ∧ ls[j]? = some l')) ∧
    ∀ (T : Nat → Nat → Nat), (∀ (j : Nat) k, fs[j]? = some (some k) → j < ls.length → T j = fun _ => 0) →
      ∀ x, sumN ls.length (fun j => (match fs[j]? with | some (some k) => (ρ k).2 | _ => T j) x) = sumN ls.length (fun j => T j x) + sumK ρ ks x
  | fs, [], ls', ks, h => by
    have : ls' = [] ∧ ks = [] := by cases fs <;> simp_all [fillL]
    obtain ⟨rfl, rfl⟩ := this
    exact ⟨rfl, rfl, fun j l' hj => by simp at hj, fun T _ x => rfl⟩
  | [], l :: ls, ls', ks, h => by
    simp only [fillL, Option.some.injEq, Prod.mk.injEq] at h
    obtain ⟨rfl, rfl⟩ := h
    exact ⟨rfl, rfl, fun j l' hj => .inr ⟨fun k => by simp, hj⟩, fun T _ x => by simp [sumK]⟩
  | o :: fs, l :: ls, ls', ks, h => by
    simp only [fillL] at h
    split at h
    · rename_i r ks' hr
      obtain ⟨g1, g2, g3, g4⟩ := fillL_ok (ρ := ρ) hr
      cases o with
      | none =>
        simp only [Option.some.injEq, Prod.mk.injEq] at h
        obtain ⟨rfl, rfl⟩ := h
        refine ⟨by simp [g1], g2, fun j l' hj => ?_, fun T hT x => ?_⟩
        · cases j with
          | zero => exact .inr ⟨fun k => by simp, by simpa using hj⟩
          | succ j => simpa using g3 j l' (by simpa using hj)
        · have := g4 (fun j => T (j + 1)) (fun j k hj hl => hT (j + 1) k (by simpa using hj) (by simpa using hl)) x
          simp only [List.length_cons]
          rw [sumN_succ', sumN_succ']
          simp only [List.getElem?_cons_succ, List.getElem?_cons_zero] at this ⊢
          omega
      | some k =>
        simp only at h
        split at h
        · rename_i E xs hk
          simp only [Option.some.injEq, Prod.mk.injEq] at h
          obtain ⟨rfl, rfl⟩ := h
          refine ⟨by simp [g1], by simp only [unlent, hk, g2, Bool.and_self], fun j l' hj => ?_, fun T hT x => ?_⟩
          · cases j with
            | zero => exact .inl ⟨k, E, xs, rfl, hk, List.mem_cons_self, by simpa using hj.symm⟩
            | succ j =>
              rcases g3 j l' (by simpa using hj) with ⟨k', E', xs', q1, q2, q3, q4⟩ | q
              · exact .inl ⟨k', E', xs', by simpa using q1, q2, List.mem_cons_of_mem _ q3, q4⟩
              · exact .inr (by simpa using q)
          · have := g4 (fun j => T (j + 1)) (fun j k hj hl => hT (j + 1) k (by simpa using hj) (by simpa using hl)) x
            have h0 := hT 0 k rfl (by simp)
            simp only [List.length_cons, sumK]
            rw [sumN_succ', sumN_succ', h0]
            simp only [List.getElem?_cons_succ, List.getElem?_cons_zero] at this ⊢
            omega
        · cases h
    · cases h

/-- an open element is shut -/
def closeB (bs : List (Nat × Blk)) (k : Nat) : Option (List (Nat × Blk)) :=
  match getB bs k with
  | some (.hol E xs i fs) =>
    match fillL bs fs (cellsT E (getE E xs i)) with
    | some (ls, ks) =>
      match toE E ls with
      | some x => if nodupB (k :: ks) = true then some (setB (killL bs (k :: ks)) k (.own E (fun _ => (xs ()).set (i ()) (x ())) false)) else none
      | none => none
    | none => none
  | some _ => some bs
  | none => none

section
variable {Γ : Ctx} {H : Hp} {ρ : Rho} {σ : SS} {a : Act} {w w' : World}

theorem BlkR.tops {h : Array Obj} {D : Nat → Prop} {E : ETy} {xs : Unit → List E.α} {i : Unit → Nat} {fs : List (Option Nat)} {p : Value × (Nat → Nat)} (_ : BlkR h H ρ D (.hol E xs i fs) p) (x : Nat) (hx : Top (.hol E xs i fs) p x) : 0 < p.2 x := hx

/-- names are used up, and one of them has memory again that was theirs -/
theorem RelH.rebuild (hd0 : Γ.hd = []) (r : RelH Γ H ρ σ a w) {k : Nat} {ks : List Nat} (hn : nodupB (k :: ks) = true) (hd : ∀ j ∈ k :: ks, dom σ.blk j) (hH : ∀ j ∈ k :: ks, ∀ x, 0 < (ρ j).2 x → H x = none) {B : Blk} {p : Nat → Nat}
    (hh : ∀ x, x < w.heap.size → sumK ρ (k :: ks) x = 0 → w'.heap[x]? = w.heap[x]?) (hsz : Ext w w')
    (hB : ∀ ρ' : Rho, (∀ j, (ρ' j).1 = (ρ j).1) → (∀ j, j ∉ k :: ks → ρ' j = ρ j) → BlkR w'.heap H ρ' (dom σ.blk) B ((ρ k).1, p)) (htop : ∀ x, Top B ((ρ k).1, p) x → 0 < p x)
    (hp : ∀ x, p x ≤ sumK ρ (k :: ks) x) :
    ∃ ρ', RelH Γ H ρ' { σ with blk := setB (Go.Proofs.Ytnmdhpaobmjefaa.killL σ.blk (k :: ks)) k B } a w' ∧ ∀ j, (ρ' j).1 = (ρ j).1 := by
  have r1 := r.killL hd
  have hsum := fun y => tot_killL (ρ := ρ) (x := y) r.b.nd hn hd
  have hHn : ∀ y, 0 < sumK ρ (k :: ks) y → H y = none := fun y hy => by
    obtain ⟨j, hj, h1⟩ := sumK_pos hy
    exact hH j hj y h1
  have hfst : ∀ j, (upd (updL ρ (k :: ks)) k ((updL ρ (k :: ks) k).1, p) j).1 = (ρ j).1 := fun j => by
    by_cases h : j = k
    · subst h; rw [upd_same]; exact updL_fst
    · rw [upd_other h, updL_fst]
  have edom : dom (setB (Go.Proofs.Ytnmdhpaobmjefaa.killL σ.blk (k :: ks)) k B) = dom σ.blk := by
    funext j; rw [dom_setB, dom_killL]
  refine ⟨_, r1.revive (w' := w') (k := k) (B := B) (p := p) hd0 (dom_killL.2 (hd k List.mem_cons_self)) (fun y => updL_zero (.inl List.mem_cons_self))
      (fun y hlt hy => hh y hlt ?_) hsz ?_ (by rw [updL_fst]; exact htop) (fun y hy => ?_) (fun y => ?_), hfst⟩
  · have h2 := hsum y
    have h3 := r.b.sum y
    rcases Nat.eq_zero_or_pos (sumK ρ (k :: ks) y) with h | h
    · exact h
    · rcases hy with hy | hy
      · simp only at hy; omega
      · exact (hy (hHn y h)).elim
  · rw [edom, updL_fst]
    refine hB _ (by rw [← updL_fst (ks := k :: ks) (ρ := ρ) (k := k)]; exact hfst) fun j hj => ?_
    rw [upd_other (by rintro rfl; exact hj List.mem_cons_self), updL_other hj]
  · have h1 := hp y
    have h2 := hsum y
    have h3 := r.b.sum y
    exact ⟨hHn y (by omega), by simp only; omega⟩
  · have h1 := hp y
    have h2 := hsum y
    have h3 := r.b.sum y
    omega

theorem unlent_tops (r : RelH Γ H ρ σ a w) {ks : List Nat} (hu : unlent σ.blk ks = true) : (∀ j ∈ ks, dom σ.blk j) ∧ ∀ j ∈ ks, ∀ x, 0 < (ρ j).2 x → H x = none :=
  ⟨fun j hj => by obtain ⟨E, xs, hg⟩ := unlent_get hu j hj; exact getB_dom hg, fun j hj x hx => by obtain ⟨E, xs, hg⟩ := unlent_get hu j hj; exact r.b.tops j _ (getB_mem hg) x hx⟩

theorem sumK_cons (ρ : Rho) (k : Nat) (ks : List Nat) (x : Nat) : sumK ρ (k :: ks) x = (ρ k).2 x + sumK ρ ks x := rfl

/-- an open element is shut -/
theorem RelH.close (hd0 : Γ.hd = []) (r : RelH Γ H ρ σ a w) {k : Nat} {bs : List (Nat × Blk)} (h : closeB σ.blk k = some bs) : ∃ ρ', RelH Γ H ρ' { σ with blk := bs } a w ∧ ∀ j, (ρ' j).1 = (ρ j).1 := by
  unfold closeB at h
  split at h
  · rename_i E xs i fs hk
    split at h
    · rename_i ls ks hfl
      split at h
      · rename_i x hx
        split at h
        · rename_i hn
          cases h
          obtain ⟨g1, g2, g3, g4⟩ := fillL_ok (ρ := ρ) hfl
          rw [cellsT_len] at g4
          obtain ⟨hdk, hHk⟩ := unlent_tops r g2
          have hkb := r.b.blk k _ (getB_mem hk)
          obtain ⟨b, o, c, cs, e, fz, S, h1, h2, h3, h4, h5, h6, h7, h8, h9⟩ := hkb
          have hxi : (xs ())[i ()]? = some (getE E xs i ()) := by
            simp only [getE, List.getD_eq_getElem?_getD, List.getElem?_eq_getElem h8, Option.getD_some]
          have hcell : cellsT E x = ls := toE_ok hx fun t ht => by
            have h10 : ls[0]? = some (.int .u8 t) := by rw [ht]; rfl
            rcases g3 0 _ h10 with ⟨_, _, _, _, _, _, q⟩ | ⟨q1, q2⟩
            · cases q
            · have h11 := h9 (i ()) _ hxi 0 _ q2
              have : filled fs (i ()) (i ()) 0 = none := by
                unfold filled; rw [if_pos rfl]; split
                · rename_i k' hk'; exact (q1 k' hk').elim
                · rfl
              rw [this] at h11
              have hint : ∀ (v : Value) (T : Nat → Nat), OwnL w.heap (.int .u8 t) v T → IntKind.u8.has (t ()) := fun v T h => by
                cases h with
                | int hr => exact hr
              exact hint _ _ h11
          have hfill : ∀ (j : Nat) k', fs[j]? = some (some k') → j < E.sz → cs.getD (o + (i () * E.sz + j)) Go.undef = (ρ k').1 ∧ S (i ()) j = fun _ => 0 := fun j k' hj hl => by
            obtain ⟨l, hl'⟩ : ∃ l, (cellsT E fun _ => getE E xs i ())[j]? = some l := ⟨_, List.getElem?_eq_getElem (by rw [cellsT_len]; exact hl)⟩
            have := h9 (i ()) _ hxi j l hl'
            have hf : filled fs (i ()) (i ()) j = some k' := by unfold filled; rw [if_pos rfl, hj]
            rw [hf] at this
            exact this.2
          let S' : Nat → Nat → Nat → Nat := fun q j => if q = i () then (match fs[j]? with | some (some k) => (ρ k).2 | _ => S q j) else S q j
          have hsum : ∀ y, segN (xs ()).length E.sz S' y = segN (xs ()).length E.sz S y + sumK ρ ks y := fun y => by
            have q1 := segN_set (sz := E.sz) (S := S) (T := fun j => match fs[j]? with | some (some k) => (ρ k).2 | _ => S (i ()) j) (x := y) h8
            have q2 := g4 (S (i ())) (fun j k' hj hl => (hfill j k' hj hl).2) y
            have q3 : S' = fun q => if q = i () then (fun j => match fs[j]? with | some (some k) => (ρ k).2 | _ => S (i ()) j) else S q := by
              funext q j
              simp only [S']
              by_cases hq : q = i ()
              · subst hq; simp only [if_true]
              · simp only [if_neg hq]
            rw [q3]
            omega
          have hseg : Seg w.heap E ((xs ()).set (i ()) (x ())) (fun q => cs.getD (o + q) Go.undef) S' := fun q y hy j l hj => by
            rw [List.getElem?_set] at hy
            by_cases hq : i () = q
            · rw [if_pos hq, if_pos (by omega)] at hy
              cases hy
              have hj' : (cellsT E x)[j]? = some l := hj
              rw [hcell] at hj'
              subst hq
              simp only [S', if_true]
              rcases g3 j l hj' with ⟨k', E', xs', q1, q2, q3, rfl⟩ | ⟨q1, q2⟩
              · have hjl : j < E.sz := cell_lt hj
                rw [q1, (hfill j k' q1 hjl).1]
                exact r.b.blk k' _ (getB_mem q2)
              · have h11 := h9 (i ()) _ hxi j l q2
                have hf : filled fs (i ()) (i ()) j = none := by
                  unfold filled; rw [if_pos rfl]; split
                  · rename_i k' hk'; exact (q1 k' hk').elim
                  · rfl
                rw [hf] at h11
                split
                · rename_i k' hk'; exact (q1 k' hk').elim
                · exact h11
            · rw [if_neg hq] at hy
              have h11 := h9 q y hy j l hj
              have hf : filled fs (i ()) q j = none := by unfold filled; rw [if_neg (Ne.symm hq)]
              rw [hf] at h11
              simp only [S', if_neg (Ne.symm hq)]
              exact h11
          have hown := hseg.own (b := b) (off := o) (c := c) h3 h4 (by rw [List.length_set]; exact h5) (by rw [List.length_set]; exact h6) h7
          rw [List.length_set] at hown
          refine r.rebuild hd0 (p := cnt b (xs ()).length E.sz S') hn (fun j hj => ?_) (fun j hj y hy => ?_) (fun _ _ _ => rfl) (Ext.refl _) (fun ρ' hρ _ => ?_) (fun y hy => hy) fun y => ?_
          · rcases List.mem_cons.1 hj with rfl | hj
            · exact getB_dom hk
            · exact hdk j hj
          · rcases List.mem_cons.1 hj with rfl | hj
            · exact r.b.tops _ _ (getB_mem hk) y hy
            · exact hHk j hj y hy
          · show OwnL w.heap _ (ρ k).1 _
            rw [h1]; exact hown
          · have := hsum y
            rw [sumK_cons, h2]
            simp only [cnt]
            simp only [segN] at this
            omega
        · cases h
      · cases h
    · cases h
  · cases h
    exact ⟨ρ, r, fun _ => rfl⟩
  · cases h

/-- a cell of an open element gets a name of its own -/
theorem RelH.open1 (hd0 : Γ.hd = []) (r : RelH Γ H ρ σ a w) {k kk : Nat} {E E' : ETy} {xs : Unit → List E.α} {ys : Unit → List E'.α} {i : Unit → Nat} {fs : List (Option Nat)} (hk : getB σ.blk k = some (.hol E xs i fs)) (hkk : getB σ.blk kk = none) {j : Nat}
    (hj : (cellsT E (getE E xs i))[j]? = some (.list E' ys)) (hf : fs[j]? = some none) :
    ∃ ρ', RelH Γ H ρ' { σ with blk := setB (insB (setB σ.blk k .dead) kk (.own E' ys false)) k (.hol E xs i (fs.set j (some kk))) } a w ∧ (∀ q, dom σ.blk q → (ρ' q).1 = (ρ q).1) ∧
      ∃ b o n c cs e fz, (ρ k).1 = .slice (some ⟨b, o, none⟩) n c ∧ w.heap[b]? = some (.cells cs e fz) ∧ (ρ' kk).1 = cs.getD (o + (i () * E.sz + j)) Go.undef := by
  have hjl : j < E.sz := by have := lt_of_get hj; rwa [cellsT_len] at this
  have hjf : j < fs.length := lt_of_get hf
  have hkb := r.b.blk k _ (getB_mem hk)
  obtain ⟨b, o, c, cs, e, fz, S, h1, h2, h3, h4, h5, h6, h7, h8, h9⟩ := hkb
  have hxi : (xs ())[i ()]? = some (getE E xs i ()) := by
    simp only [getE, List.getD_eq_getElem?_getD, List.getElem?_eq_getElem h8, Option.getD_some]
  have hown := h9 (i ()) _ hxi j _ hj
  have hfn : filled fs (i ()) (i ()) j = none := by unfold filled; rw [if_pos rfl, hf]
  rw [hfn] at hown
  simp only at hown
  let S' : Nat → Nat → Nat → Nat := fun q m => if q = i () ∧ m = j then (fun _ => 0) else S q m
  have hS : ∀ y, cnt b (xs ()).length E.sz S y = cnt b (xs ()).length E.sz S' y + S (i ()) j y := fun y => by
    have := segN_upd (S := S) (T := fun _ => 0) (x := y) h8 hjl
    simp only [segN] at this
    simp only [cnt, S']
    omega
  have hkd : dom σ.blk k := getB_dom hk
  have hne : kk ≠ k := fun he => getB_none hkk (he ▸ hkd)
  have hks : ∀ y, sumK ρ [k] y = cnt b (xs ()).length E.sz S y := fun y => by simp [sumK, h2]
  have hHn : ∀ y, 0 < cnt b (xs ()).length E.sz S y → H y = none := fun y hy => r.b.tops k _ (getB_mem hk) y (by show 0 < (ρ k).2 y; rw [h2]; exact hy)
  have htot := fun y => tot_killL (ρ := ρ) (ks := [k]) (x := y) r.b.nd rfl (fun j hj => by simp at hj; subst hj; exact hkd)
  have r1 := r.kill hkd
  let ρ1 : Rho := upd ρ k ((ρ k).1, fun _ => 0)
  have htot1 : ∀ y, tot ρ1 (setB σ.blk k .dead) y + cnt b (xs ()).length E.sz S y = tot ρ σ.blk y := fun y => by have := htot y; rw [hks y] at this; exact this
  have hone : (cs.getD (o + (i () * E.sz + j)) Go.undef).oneCell' = true := hown.one
  have r2 := r1.new' (w' := w) (k := kk) (B := .own E' ys false) (p := (cs.getD (o + (i () * E.sz + j)) Go.undef, S (i ()) j)) (getB_setB_none hkk) (fun _ _ _ => rfl) (fun _ _ => rfl) (Ext.refl _) hone
    (fun y hy => by
      have q1 := hS y
      have q2 := htot1 y
      have q3 := r.b.sum y
      exact ⟨hHn y (by simp only at hy; omega), by show tot ρ1 (setB σ.blk k .dead) y = 0; simp only at hy; omega⟩)
    (fun y => by
      have q1 := hS y
      have q2 := htot1 y
      have q3 := r.b.sum y
      simp only; omega) hown (by simp)
  let ρ2 : Rho := upd ρ1 kk (cs.getD (o + (i () * E.sz + j)) Go.undef, S (i ()) j)
  have e2 : ∀ q, q ≠ kk → ρ2 q = ρ1 q := fun q hq => upd_other hq
  have e1 : ∀ q, (ρ1 q).1 = (ρ q).1 := fun q => by
    by_cases h : q = k
    · subst h; simp only [ρ1]; rw [upd_same]
    · simp only [ρ1]; rw [upd_other h]
  have hk2 : (ρ2 k) = ((ρ k).1, fun _ => 0) := by rw [e2 k (Ne.symm hne)]; exact upd_same _ _ _
  have htot2 : ∀ y, tot ρ2 (insB (setB σ.blk k .dead) kk (.own E' ys false)) y + cnt b (xs ()).length E.sz S' y = tot ρ σ.blk y := fun y => by
    have q1 := hS y
    have q2 := htot1 y
    rw [tot_insB, tot_congr (ρ := ρ1) (ρ' := ρ2) fun q hq => e2 q fun he => getB_none hkk (by rw [← he]; exact dom_setB.1 hq)]
    have : (ρ2 kk).2 y = S (i ()) j y := by simp only [ρ2]; rw [upd_same]
    omega
  have hd2 : dom (insB (setB σ.blk k .dead) kk (.own E' ys false)) k := dom_insB.2 (.inr (dom_setB.2 hkd))
  have e3 : ∀ q, (upd ρ2 k ((ρ2 k).1, cnt b (xs ()).length E.sz S') q).1 = (ρ2 q).1 := fun q => by
    by_cases h : q = k
    · subst h; rw [upd_same]
    · rw [upd_other h]
  have r3 := RelH.revive (w' := w) hd0 r2 (k := k) (B := .hol E xs i (fs.set j (some kk))) (p := cnt b (xs ()).length E.sz S') hd2 (fun y => by
      show (ρ2 k).2 y = 0
      rw [hk2]) (fun _ _ _ => rfl) (Ext.refl _)
    (by
      refine ⟨b, o, c, cs, e, fz, S', ?_, rfl, h3, h4, h5, h6, h7, h8, fun q x hx m l hm => ?_⟩
      · show (ρ2 k).1 = _
        rw [hk2]; exact h1
      · rw [filled_set hjf]
        by_cases hq : q = i () ∧ m = j
        · rw [if_pos hq]
          obtain ⟨rfl, rfl⟩ := hq
          refine ⟨dom_setB.2 (dom_insB.2 (.inl rfl)), ?_, by simp [S']⟩
          show _ = (upd ρ2 k ((ρ2 k).1, cnt b (xs ()).length E.sz S') kk).1
          rw [e3]
          simp only [ρ2]; rw [upd_same]
        · rw [if_neg hq]
          have h10 := h9 q x hx m l hm
          have hSq : S' q m = S q m := by simp only [S', if_neg hq]
          rw [hSq]
          split at h10
          · obtain ⟨g1, g2, g3⟩ := h10
            have hkn : ∀ k', k' = kk → ¬ dom σ.blk k' := fun k' he hd => getB_none hkk (he ▸ hd)
            refine ⟨dom_setB.2 (dom_insB.2 (.inr (dom_setB.2 g1))), ?_, g3⟩
            show _ = (upd ρ2 k ((ρ2 k).1, cnt b (xs ()).length E.sz S') _).1
            rw [e3, e2 _ fun he => hkn _ he g1, e1]; exact g2
          · exact h10)
    (fun y hy => hy)
    (fun y hy => by
      have q1 := htot2 y
      have q2 := r.b.sum y
      have q3 := hS y
      refine ⟨hHn y (by omega), ?_⟩
      show tot ρ2 (insB (setB σ.blk k .dead) kk (.own E' ys false)) y = 0
      omega)
    (fun y => by
      have q1 := htot2 y
      have q2 := r.b.sum y
      omega)
  refine ⟨_, r3, fun q hq => ?_, b, o, _, c, cs, e, fz, h1, h3, ?_⟩
  · show (upd ρ2 k ((ρ2 k).1, cnt b (xs ()).length E.sz S') q).1 = _
    rw [e3, e2 q fun he => getB_none hkk (he ▸ hq), e1]
  · show (upd ρ2 k ((ρ2 k).1, cnt b (xs ()).length E.sz S') kk).1 = _
    rw [e3]
    simp only [ρ2]; rw [upd_same]

end

/-! ### storing into an element -/

def spliceL (ls : List Lf) (off : Nat) (new : List Lf) : List Lf := ls.take off ++ (new ++ ls.drop (off + new.length))

theorem splice_get {ls new : List Lf} {off j : Nat} (h : off + new.length ≤ ls.length) : (spliceL ls off new)[j]? = if off ≤ j ∧ j < off + new.length then new[j - off]? else ls[j]? := by
  unfold spliceL
  rcases Nat.lt_or_ge j off with h1 | h1
  · rw [List.getElem?_append_left (by rw [List.length_take]; omega), List.getElem?_take, if_pos h1, if_neg (by omega)]
  · rw [List.getElem?_append_right (by rw [List.length_take]; omega), List.length_take, Nat.min_eq_left (by omega)]
    rcases Nat.lt_or_ge j (off + new.length) with h2 | h2
    · rw [List.getElem?_append_left (by omega), if_pos ⟨h1, h2⟩]
    · rw [List.getElem?_append_right (by omega), if_neg (by omega), List.getElem?_drop]
      congr 1; omega

def clearF : List (Option Nat) → Nat → Nat → List (Option Nat)
  | [], _, _ => []
  | o :: fs, 0, 0 => o :: fs
  | _ :: fs, 0, n + 1 => none :: clearF fs 0 n
  | o :: fs, off + 1, n => o :: clearF fs off n

theorem clearF_get : ∀ {fs : List (Option Nat)} {off n j : Nat}, (clearF fs off n)[j]? = if off ≤ j ∧ j < off + n then (fs[j]?).map fun _ => none else fs[j]?
  | [], off, n, j => by simp [clearF]
  | o :: fs, 0, 0, j => by
    have : ¬ (0 ≤ j ∧ j < 0 + 0) := by omega
    simp only [clearF, if_neg this]
  | o :: fs, 0, n + 1, 0 => by simp [clearF]
  | o :: fs, 0, n + 1, j + 1 => by
    simp only [clearF, List.getElem?_cons_succ]
    rw [clearF_get]
    have : (0 ≤ j ∧ j < 0 + n) ↔ (0 ≤ j + 1 ∧ j + 1 < 0 + (n + 1)) := by omega
    simp only [this]
  | o :: fs, off + 1, n, 0 => by
    simp [clearF]
  | o :: fs, off + 1, n, j + 1 => by
    simp only [clearF, List.getElem?_cons_succ]
    rw [clearF_get]
    have : (off ≤ j ∧ j < off + n) ↔ (off + 1 ≤ j + 1 ∧ j + 1 < off + 1 + n) := by omega
    simp only [this]

theorem filled_clear {fs : List (Option Nat)} {off n i q j : Nat} : filled (clearF fs off n) i q j = if off ≤ j ∧ j < off + n then none else filled fs i q j := by
  unfold filled
  rw [clearF_get]
  by_cases h : off ≤ j ∧ j < off + n
  · simp only [if_pos h]
    split
    · cases fs[j]? <;> rfl
    · rfl
  · simp only [if_neg h]

theorem sumN_add {n : Nat} {f g : Nat → Nat} : sumN n (fun j => f j + g j) = sumN n f + sumN n g := by
  induction n with
  | zero => rfl
  | succ n ih => simp only [sumN, ih]; omega

theorem sumN_range {off n sz : Nat} {f g : Nat → Nat} (h : off + n ≤ sz) : sumN sz (fun j => if off ≤ j ∧ j < off + n then f (j - off) else g j) ≤ sumN sz g + sumN n f := by
  have h1 : sumN sz (fun j => if off ≤ j ∧ j < off + n then f (j - off) else g j) ≤ sumN sz fun j => g j + (if off ≤ j ∧ j < off + n then f (j - off) else 0) :=
    sumN_le fun j hj => by split <;> omega
  have h2 : sumN sz (fun j => if off ≤ j ∧ j < off + n then f (j - off) else 0) = sumN n f := by
    obtain ⟨m, rfl⟩ : ∃ m, sz = off + (n + m) := ⟨sz - off - n, by omega⟩
    rw [sumN_app, sumN_zero (n := off) (fun i hi => by rw [if_neg (by omega)]), sumN_app, sumN_zero (n := m) (fun i hi => by rw [if_neg (by omega)]), Nat.zero_add, Nat.add_zero]
    exact sumN_congr fun i hi => by rw [if_pos (by omega), Nat.add_sub_cancel_left]
  rw [sumN_add, h2] at h1
  exact h1

def mkHol (E : ETy) (xs : Unit → List E.α) (i : Unit → Nat) (fs : List (Option Nat)) : Blk := if fs.all Option.isNone = true then .own E xs false else .hol E xs i fs

theorem mkHol_ok {h : Array Obj} {H : Hp} {ρ : Rho} {D : Nat → Prop} {E : ETy} {xs : Unit → List E.α} {i : Unit → Nat} {fs : List (Option Nat)} {p : Value × (Nat → Nat)} (hr : BlkR h H ρ D (.hol E xs i fs) p) : BlkR h H ρ D (mkHol E xs i fs) p := by
  unfold mkHol
  split
  · rename_i hf; exact hol_own hr hf false
  · exact hr

theorem mkHol_top {E : ETy} {xs : Unit → List E.α} {i : Unit → Nat} {fs : List (Option Nat)} {p : Value × (Nat → Nat)} {x : Nat} (h : Top (mkHol E xs i fs) p x) : 0 < p.2 x := by
  unfold mkHol at h
  split at h <;> exact h

section
variable {Γ : Ctx} {H : Hp} {ρ : Rho} {σ : SS} {a : Act} {w w' : World}

/-- cells of an element are stored -/
theorem RelH.storeHol {P : Program} (hd0 : Γ.hd = []) (r : RelH Γ H ρ σ a w) {k : Nat} {ks : List Nat} (hn : nodupB (k :: ks) = true) {E : ETy} {xs : Unit → List E.α} {i : Unit → Nat} {fs : List (Option Nat)} (hdk : dom σ.blk k)
    (hB : BlkR w.heap H ρ (dom σ.blk) (.hol E xs i fs) (ρ k)) (hHk : ∀ x, 0 < (ρ k).2 x → H x = none) (hu : unlent σ.blk ks = true) {b o n c : Nat} (hv : (ρ k).1 = .slice (some ⟨b, o, none⟩) n c) {off : Nat} {us : List Value} {new : List Lf}
    (hul : us.length = new.length) (hoff : off + new.length ≤ E.sz) {T : Nat → Nat → Nat} (hown : ∀ (j : Nat) l, new[j]? = some l → OwnL w.heap l (us.getD j Go.undef) (T j)) (hT : ∀ y, sumN new.length (fun j => T j y) = sumK ρ ks y)
    {x : Unit → E.α} (hx : cellsT E x = spliceL (cellsT E (getE E xs i)) off new) :
    ∃ w', (storeCells ⟨b, o + i () * E.sz + off, none⟩ us).run P w = .ok () w' ∧
      ∃ ρ', RelH Γ H ρ' { σ with blk := setB (Go.Proofs.Ytnmdhpaobmjefaa.killL σ.blk (k :: ks)) k (mkHol E (fun _ => (xs ()).set (i ()) (x ())) i (clearF fs off new.length)) } a w' := by
  obtain ⟨b', o', c', vs, e, fz, S, h1, h2, h3, h4, h5, h6, h7, h8, h9⟩ := hB
  rw [hv] at h1
  simp only [Value.slice.injEq, Option.some.injEq, Addr.mk.injEq, and_true] at h1
  obtain ⟨⟨rfl, rfl⟩, rfl, rfl⟩ := h1
  obtain ⟨hdks, hHks⟩ := unlent_tops r hu
  have hd : ∀ j ∈ k :: ks, dom σ.blk j := fun j hj => by rcases List.mem_cons.1 hj with rfl | hj; exact hdk; exact hdks j hj
  have hle : ∀ y, (ρ k).2 y + sumK ρ ks y ≤ 1 := fun y => by
    have h1 := sumK_le (ρ := ρ) (k :: ks) hn hd y
    have h2 := r.b.sum y
    simp only [sumK] at h1
    omega
  have hxi : (xs ())[i ()]? = some (getE E xs i ()) := by
    simp only [getE, List.getD_eq_getElem?_getD, List.getElem?_eq_getElem h8, Option.getD_some]
  have hin : i () * E.sz + E.sz ≤ (xs ()).length * E.sz := by
    have := Nat.mul_le_mul_right E.sz (show i () + 1 ≤ (xs ()).length from h8)
    rwa [Nat.add_mul, Nat.one_mul] at this
  have hcap := Nat.mul_le_mul_right E.sz h5
  have hone : ∀ u ∈ us, u.oneCell' = true := fun u hu' => by
    obtain ⟨q, hq, rfl⟩ := List.getElem_of_mem hu'
    obtain ⟨l, hl⟩ : ∃ l, new[q]? = some l := ⟨_, List.getElem?_eq_getElem (by omega)⟩
    have := (hown q l hl).one
    rwa [List.getD_eq_getElem?_getD, List.getElem?_eq_getElem hq] at this
  obtain ⟨w', g1, g2, g3, g4⟩ := run_storeCells (P := P) us w b (o + i () * E.sz + off) 0 vs e fz h3 h4 (by omega) hone
  rw [Nat.add_zero] at g2
  let S' : Nat → Nat → Nat → Nat := fun q j => if q = i () then (if off ≤ j ∧ j < off + new.length then T (j - off) else S q j) else S q j
  have hS' : ∀ y, segN (xs ()).length E.sz S' y ≤ segN (xs ()).length E.sz S y + sumK ρ ks y := fun y => by
    have q1 := segN_set (sz := E.sz) (S := S) (T := fun j => if off ≤ j ∧ j < off + new.length then T (j - off) else S (i ()) j) (x := y) h8
    have q2 := sumN_range (f := fun j => T j y) (g := fun j => S (i ()) j y) hoff
    have q3 : S' = fun q => if q = i () then (fun j => if off ≤ j ∧ j < off + new.length then T (j - off) else S (i ()) j) else S q := by
      funext q j
      simp only [S']
      by_cases hq : q = i ()
      · subst hq; simp only [if_true]
      · simp only [if_neg hq]
    have q4 : (sumN E.sz fun j => (fun j => if off ≤ j ∧ j < off + new.length then T (j - off) else S (i ()) j) j y) = sumN E.sz fun j => if off ≤ j ∧ j < off + new.length then T (j - off) y else S (i ()) j y :=
      sumN_congr fun j _ => by show (if _ then _ else _ : Nat → Nat) y = _; split <;> rfl
    rw [← q3, q4] at q1
    rw [hT y] at q2
    omega
  have hpb : ∀ y, (ρ k).2 y = (if y = b then 1 else 0) + segN (xs ()).length E.sz S y := fun y => by rw [h2]; rfl
  have hbz : segN (xs ()).length E.sz S b = 0 ∧ sumK ρ ks b = 0 := by
    have h1 := hle b
    have h2 := hpb b
    rw [if_pos rfl] at h2
    omega
  have hH' : ∀ q y, (xs ())[q]? = some y ∨ q = i () → ∀ j, j < E.sz → ∀ z, 0 < S' q j z → z ≠ b := fun q y hy j hj z hz hzb => by
    subst hzb
    have hq : q < (xs ()).length := by rcases hy with hy | rfl; exact lt_of_get hy; exact h8
    have := segN_in (S := S') (x := z) hq hj
    have := hS' z
    omega
  have hget : ∀ q, o + q < vs.size → ¬ (i () * E.sz + off ≤ q ∧ q < i () * E.sz + off + new.length) → (setVs vs (o + i () * E.sz + off) us).getD (o + q) Go.undef = vs.getD (o + q) Go.undef := fun q hq hc => by
    rw [setVs_get _ _ _ _ (by omega), if_neg (by omega)]
  have hgetN : ∀ j, j < new.length → (setVs vs (o + i () * E.sz + off) us).getD (o + (i () * E.sz + (off + j))) Go.undef = us.getD j Go.undef := fun j hj => by
    rw [setVs_get _ _ _ _ (by omega), if_pos (by omega)]
    congr 1; omega
  refine ⟨w', g1, Exists.imp (fun _ h => And.left h) (r.rebuild hd0 (p := cnt b (xs ()).length E.sz S') hn hd (fun j hj y hy => by rcases List.mem_cons.1 hj with rfl | hj; exact hHk y hy; exact hHks j hj y hy) (fun y _ hy => g3 y fun he => ?_) g4 (fun ρ' hρ hρ' => mkHol_ok ?_) (fun y hy => mkHol_top hy) fun y => ?_)⟩
  · subst he
    have := hpb y
    rw [if_pos rfl] at this
    rw [sumK_cons] at hy
    omega
  · refine ⟨b, o, c, setVs vs (o + i () * E.sz + off) us, e, fz, S', by rw [List.length_set]; exact hv, by rw [List.length_set], g2, by rcases h4 with h | h; exact .inl h; exact .inr (by rw [setVs_size]; exact h), by rw [List.length_set]; exact h5,
      by rw [List.length_set]; exact h6, by rw [setVs_size]; exact h7, by rw [List.length_set]; exact h8, fun q y hy j l hj => ?_⟩
    have hjl := cell_lt hj
    rw [List.getElem?_set] at hy
    by_cases hq : i () = q
    · rw [if_pos hq, if_pos h8] at hy
      cases hy
      subst hq
      have hj' : (cellsT E x)[j]? = some l := hj
      rw [hx, splice_get (by rw [cellsT_len]; exact hoff)] at hj'
      rw [filled_clear]
      simp only [S', if_true]
      by_cases hr : off ≤ j ∧ j < off + new.length
      · rw [if_pos hr] at hj' ⊢
        rw [if_pos hr]
        have q1 := hgetN (j - off) (by omega)
        rw [show off + (j - off) = j by omega] at q1
        show OwnL w'.heap l ((setVs vs (o + i () * E.sz + off) us).getD (o + (i () * E.sz + j)) Go.undef) (T (j - off))
        rw [q1]
        refine (hown _ _ hj').mono fun z hz => g3 z ?_
        exact hH' (i ()) (getE E xs i ()) (.inr rfl) j hjl z (by simp only [S', if_true, if_pos hr]; exact hz)
      · rw [if_neg hr] at hj' ⊢
        rw [if_neg hr]
        have h10 := h9 (i ()) _ hxi j l hj'
        have q1 := hget (i () * E.sz + j) (by omega) (by omega)
        simp only [q1]
        split at h10
        · obtain ⟨f1, f2, f3⟩ := h10
          exact ⟨f1, by rw [hρ]; exact f2, f3⟩
        · refine h10.mono fun z hz => g3 z (hH' (i ()) (getE E xs i ()) (.inr rfl) j hjl z (by simp only [S', if_true, if_neg hr]; exact hz))
    · rw [if_neg hq] at hy
      have h10 := h9 q y hy j l hj
      have hf : ∀ fs' : List (Option Nat), filled fs' (i ()) q j = none := fun fs' => by unfold filled; rw [if_neg (Ne.symm hq)]
      rw [hf] at h10 ⊢
      simp only [S', if_neg (Ne.symm hq)]
      have hqn : q * E.sz + j < (xs ()).length * E.sz := cell_idx (lt_of_get hy) hjl
      have q1 := hget (q * E.sz + j) (by omega) (fun hc => by
        rcases Nat.lt_or_gt_of_ne hq with h1 | h1
        · have := Nat.mul_le_mul_right E.sz (show i () + 1 ≤ q from h1)
          rw [Nat.add_mul] at this
          omega
        · have := Nat.mul_le_mul_right E.sz (show q + 1 ≤ i () from h1)
          rw [Nat.add_mul] at this
          omega)
      show OwnL w'.heap l ((setVs vs (o + i () * E.sz + off) us).getD (o + (q * E.sz + j)) Go.undef) (S q j)
      rw [q1]
      exact h10.mono fun z hz => g3 z (hH' q y (.inl hy) j hjl z (by simp only [S', if_neg (Ne.symm hq)]; exact hz))
  · have := hS' y
    have := hpb y
    rw [sumK_cons]
    simp only [cnt]
    simp only [segN] at *
    omega

end

end Go.Proofs.Ytnmdhpaobmjefaa
