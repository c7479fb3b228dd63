/-
  The operations that leave memory alone and are reckoned without a question: loads, fields, comparisons. No conditions.
-/
import Derived.Test.YtnmdhpaobmjefaaDet
namespace Go.Proofs.Ytnmdhpaobmjefaa
open Go

section
variable {P : Program} {w : World} {T : TypeId}

theorem cell_of {b o : Nat} {vs : Array Value} {e : TypeId} {fz : Nat × Nat} {v : Value} (hb : w.heap[b]? = some (.cells vs e fz)) (hv : vs[o]? = some v) :
    w.cell? ⟨b, o, none⟩ = some v := by simp [World.cell?, hb, hv]

theorem run_loadSc {d : TypeDesc} {b o : Nat} {vs : Array Value} {e : TypeId} {fz : Nat × Nat} {v : Value} (hU : P.underlying T = some d) (hd : aggD d = false)
    (hb : w.heap[b]? = some (.cells vs e fz)) (hv : vs[o]? = some v) : (Instr.loadAt T (.pointer (some ⟨b, o, none⟩))).run P w = .ok v w := by
  simp [Instr.loadAt, Instr.sureAddr, loadVar, run_agg w hU, hd, cell_of hb hv]

theorem addr_add (b o j : Nat) : (⟨b, o, none⟩ : Addr).add j = ⟨b, o + j, none⟩ := by
  unfold Addr.add; split
  · rename_i h; subst h; rfl
  · rfl

theorem run_loadAgg {d : TypeDesc} {i : TypeInfo} {b o : Nat} {vs : Array Value} {e : TypeId} {fz : Nat × Nat} (hU : P.underlying T = some d) (hd : aggD d = true) (hi : P.info? T = some i)
    (hb : w.heap[b]? = some (.cells vs e fz)) (hs : o + i.size ≤ vs.size) :
    (Instr.loadAt T (.pointer (some ⟨b, o, none⟩))).run P w = .ok (.agg ((List.range i.size).map fun j => vs.getD (o + j) Go.undef).toArray) w := by
  have h := run_loadCells (P := P) w ⟨b, o, none⟩ i.size (fun j => vs.getD (o + j) Go.undef) (fun j hj => by
    rw [addr_add]
    refine cell_of hb ?_
    rw [Array.getD_eq_getD_getElem?, Array.getElem?_eq_getElem (by omega)]
    rfl)
  simp [Instr.loadAt, Instr.sureAddr, loadVar, run_agg w hU, hd, run_szOf w hi, h]

end

/-- the cells from o on, n of them -/
def cut (cs : List C) (o n : Nat) : List C := (cs.drop o).take n

theorem cut_get {cs : List C} {o n j : Nat} {c : C} (h : (cut cs o n)[j]? = some c) : j < n ∧ cs[o + j]? = some c := by
  simp only [cut, List.getElem?_take, List.getElem?_drop] at h
  split at h
  · rename_i hj; exact ⟨hj, h⟩
  · cases h

theorem cut_len {cs : List C} {o n : Nat} (h : o + n ≤ cs.length) : (cut cs o n).length = n := by simp [cut]; omega

theorem RCs.cut {H : Hp} {ρ : Rho} {D : Nat → Prop} {cs : List C} {vs : Array Value} (h : RCs H ρ D cs vs) {o n : Nat} (hn : o + n ≤ cs.length) :
    RCs H ρ D (cut cs o n) ((List.range n).map fun j => vs.getD (o + j) Go.undef).toArray := by
  refine ⟨by simp [cut_len hn], fun j c hj => ?_⟩
  obtain ⟨h1, h2⟩ := cut_get hj
  have := h.2 _ _ h2
  rw [Array.getD_eq_getD_getElem?]
  simp only [List.getElem?_toArray, List.getElem?_map, List.getElem?_range h1, Option.map_some, Option.getD_some]
  exact this

def lfs (ls : List Lf) : List C := ls.map .lf

def Lf.sc : Lf → Bool
  | .list _ _ => false
  | _ => true

def getE (E : ETy) (xs : Unit → List E.α) (i : Unit → Nat) : Unit → E.α := fun _ => (xs ()).getD (i ()) E.dflt

/-- a load: what is loaded -/
def exLoad (tab : Tab) (bs : List (Nat × Blk)) (T : TypeId) : V → Option V
  | .c (.ptr k off) =>
    match getB bs k, tget tab T with
    | some (.box cs), some (.st n _ _ _) => if off + n ≤ cs.length then some (.agg (cut cs off n)) else none
    | some (.box cs), some _ => (cs[off]?).map .c
    | _, _ => none
  | .c (.el E x off) =>
    match tget tab T with
    | some (.st n _ _ _) => if off + n ≤ E.sz ∧ 0 < n then some (.agg (cut (lfs (cellsT E x)) off n)) else none
    | some _ => ((lfs (cellsT E x))[off]?).map .c
    | none => none
  | .c (.pcs ls off) =>
    match tget tab T with
    | some (.st n _ _ _) => if off + n ≤ ls.length ∧ 0 < n then some (.agg (cut (lfs ls) off n)) else none
    | some _ => ((lfs ls)[off]?).map .c
    | none => none
  | .c (.oel k E i off) =>
    match getB bs k, tget tab T with
    | some (.own E' xs _), some (.st n _ _ _) => if E = E' ∧ (((cellsT E' (getE E' xs i)).drop off).take n).all Lf.sc = true ∧ off + n ≤ E'.sz then some (.agg (cut (lfs (cellsT E' (getE E' xs i))) off n)) else none
    | some (.own E' xs _), some _ => if E = E' then (match (cellsT E' (getE E' xs i))[off]? with | some l => if l.sc then some (.c (.lf l)) else none | none => none) else none
    | _, _ => none
  | _ => none

/-- the memory that an operation reads is as it was -/
def Keeps (H : Hp) (ρ : Rho) (rd : List Nat) (w w' : World) : Prop :=
  (∀ b o, H b = some o → w'.heap[b]? = some o) ∧ ∀ k ∈ rd, ∀ x, 0 < (ρ k).2 x → w'.heap[x]? = w.heap[x]?

theorem Keeps.refl {Γ : Ctx} {H : Hp} {ρ : Rho} {σ : SS} {a : Act} {w : World} (r : RelH Γ H ρ σ a w) (rd : List Nat) : Keeps H ρ rd w w :=
  ⟨r.b.hh, fun _ _ _ _ => rfl⟩

def rdV : V → List Nat
  | .c (.ptr k _) => [k]
  | .c (.oel k _ _ _) => [k]
  | _ => []

theorem ti_agg {P : Program} {T : TypeId} {ti : TI} (h : tiB P T ti = true) :
    ∃ d i, P.underlying T = some d ∧ (match ti with | .st n _ _ _ => aggD d = true ∧ P.info? T = some i ∧ i.size = n | _ => aggD d = false) := by
  cases ti with
  | sl E elem bytes => obtain ⟨h1, i, z, h2⟩ := ti_sl h; exact ⟨_, i, h1, rfl⟩
  | st n fs z q => obtain ⟨fields, h1, _, i, cs, h2, h3, _⟩ := ti_st h; exact ⟨_, i, h1, rfl, h2, h3⟩
  | sc z => obtain ⟨⟨d, h1, h2⟩, i, v, h3⟩ := ti_sc h; exact ⟨d, i, h1, h2⟩
  | it k => obtain ⟨_, i, v, _⟩ := ti_sc (ti_it h).2; exact ⟨_, i, (ti_it h).1, rfl⟩
  | bt => obtain ⟨_, i, v, _⟩ := ti_sc (ti_bt h).2; exact ⟨_, i, (ti_bt h).1, rfl⟩
  | ss => obtain ⟨_, i, v, _⟩ := ti_sc (ti_ss h).2; exact ⟨_, i, (ti_ss h).1, rfl⟩

theorem getD_some {vs : Array Value} {o : Nat} (h : o < vs.size) : vs[o]? = some (vs.getD o Go.undef) := by
  rw [Array.getD_eq_getD_getElem?, Array.getElem?_eq_getElem h]; rfl

theorem OwnL.rl_sc {h : Array Obj} {H : Hp} {l : Lf} {v : Value} {S : Nat → Nat} (ho : OwnL h l v S) (hs : l.sc = true) : RL H l v := by
  cases ho with
  | int hr => exact .int hr
  | bool => exact .bool
  | str hm => exact .str hm
  | nil h0 => simp [Lf.sc] at hs
  | list _ _ _ _ _ _ _ => simp [Lf.sc] at hs

theorem oel_cells {h : Array Obj} {E : ETy} {xs : Unit → List E.α} {b o n c : Nat} {S : Nat → Nat} (ho : OwnL h (.list E xs) (.slice (some ⟨b, o, none⟩) n c) S) {i : Nat} (hi : i < n) :
    ∃ cs e fz, h[b]? = some (.cells cs e fz) ∧ NF cs fz ∧ 0 < S b ∧ o + (i + 1) * E.sz ≤ cs.size ∧ n = (xs ()).length ∧
      ∀ j l, (cellsT E fun _ => (xs ()).getD i E.dflt)[j]? = some l → ∃ S', OwnL h l (cs.getD (o + i * E.sz + j) Go.undef) S' := by
  generalize hv : Value.slice (some ⟨b, o, none⟩) n c = v at ho
  generalize hl : Lf.list E xs = l at ho
  cases ho with
  | int hr => cases hv
  | bool => cases hl
  | str hm => cases hv
  | nil h0 => simp at hv
  | list S hb hf hl' hm ho hc =>
    simp only [Value.slice.injEq, Option.some.injEq, Addr.mk.injEq, and_true] at hv
    obtain ⟨⟨rfl, rfl⟩, rfl, rfl⟩ := hv
    cases hl
    refine ⟨_, _, _, hb, hf, cnt_top _ _ _ _, Nat.le_trans ?_ ho, rfl, fun j l hj => ⟨_, hc i _ ?_ j l hj⟩⟩
    · exact Nat.add_le_add_left (Nat.mul_le_mul_right _ (by omega)) _
    · rw [List.getD_eq_getElem?_getD, List.getElem?_eq_getElem hi]; rfl

section
variable {P : Program} {tab : Tab} (hT : tabB P tab = true) {Γ : Ctx} {H : Hp} {ρ : Rho} {σ : SS} {a : Act} {w : World} (r : RelH Γ H ρ σ a w)
include hT r

theorem exLoad_ok {T : TypeId} {x : V} {p : Value} {v : V} (h : exLoad tab σ.blk T x = some v) (hp : RV H ρ (dom σ.blk) x p) :
    ∃ y, RV H ρ (dom σ.blk) v y ∧ ∀ w', Keeps H ρ (rdV x) w w' → (Instr.loadAt T p).run P w' = .ok y w' := by
  unfold exLoad at h
  split at h
  · rename_i k off
    obtain ⟨hk, b, h1, rfl⟩ := hp
    split at h
    · rename_i cs n fs z q hB hti
      split at h
      · rename_i hn
        cases h
        obtain ⟨d, i, hU, hd, hi, hin⟩ := ti_agg (tget_ok hT hti)
        have hbox := r.b.blk k _ (getB_mem hB)
        obtain ⟨b', vs, e, fz, h2, h3, h4, h5, h6⟩ := hbox
        rw [h1] at h2
        simp only [Value.pointer.injEq, Option.some.injEq, Addr.mk.injEq, and_true] at h2
        subst h2
        refine ⟨_, ⟨_, rfl, h6.cut hn⟩, fun w' hk' => ?_⟩
        have h7 := hk'.2 k (by simp [rdV]) b (by simp [h3, one])
        rw [← hin]
        exact run_loadAgg hU hd hi (by rw [h7]; exact h4) (by rw [hin, h6.1]; exact hn)
      · cases h
    · rename_i cs ti hnot hB hti
      cases hc : cs[off]? with
      | none => simp [hc] at h
      | some c =>
        simp only [hc, Option.map_some, Option.some.injEq] at h
        subst h
        obtain ⟨d, i, hU, hd⟩ := ti_agg (tget_ok hT hti)
        have hd' : aggD d = false := by
          cases ti with
          | st n fs z q => exact (hnot n fs z q rfl).elim
          | _ => exact hd
        have hbox := r.b.blk k _ (getB_mem hB)
        obtain ⟨b', vs, e, fz, h2, h3, h4, h5, h6⟩ := hbox
        rw [h1] at h2
        simp only [Value.pointer.injEq, Option.some.injEq, Addr.mk.injEq, and_true] at h2
        subst h2
        refine ⟨_, h6.2 _ _ hc, fun w' hk' => ?_⟩
        have h7 := hk'.2 k (by simp [rdV]) b (by simp [h3, one])
        exact run_loadSc hU hd' (by rw [h7]; exact h4) (getD_some (by rw [h6.1]; exact lt_of_get hc))
    · cases h
  · rename_i E x off
    obtain ⟨b, o, cs, e, fz, h1, rfl, h3⟩ := hp
    split at h
    · rename_i n fs z q hti
      split at h
      · rename_i hn
        obtain ⟨hn, hn0⟩ := hn
        cases h
        obtain ⟨d, i, hU, hd, hi, hin⟩ := ti_agg (tget_ok hT hti)
        have hlen := cellsT_len E x
        have hget : ∀ j, j < n → ∃ l, (cellsT E x)[off + j]? = some l := fun j hj => ⟨_, List.getElem?_eq_getElem (by omega)⟩
        have hsz : o + i.size ≤ cs.size := by
          obtain ⟨l, hl⟩ := hget (n - 1) (by omega)
          have := (h3 _ l hl).1
          omega
        refine ⟨_, ⟨_, rfl, ?_, fun j c hj => ?_⟩, fun w' hk' => run_loadAgg hU hd hi (hk'.1 _ _ h1) hsz⟩
        · rw [cut_len (by simpa [lfs, hlen] using hn)]; simp [hin]
        · obtain ⟨h5, h6⟩ := cut_get hj
          simp only [lfs, List.getElem?_map, Option.map_eq_some_iff] at h6
          obtain ⟨l, hl, rfl⟩ := h6
          have := (h3 _ _ hl).2
          rw [Array.getD_eq_getD_getElem?]
          simp only [List.getElem?_toArray, List.getElem?_map, hin, List.getElem?_range h5, Option.map_some, Option.getD_some]
          exact this
      · cases h
    · rename_i ti hnot hti
      cases hc : (cellsT E x)[off]? with
      | none => simp [lfs, hc] at h
      | some l =>
        simp only [lfs, List.getElem?_map, hc, Option.map_some, Option.some.injEq] at h
        subst h
        obtain ⟨d, i, hU, hd⟩ := ti_agg (tget_ok hT hti)
        have hd' : aggD d = false := by
          cases ti with
          | st n fs z q => exact (hnot n fs z q rfl).elim
          | _ => exact hd
        have h4 := h3 0 l (by simpa using hc)
        simp only [Nat.add_zero] at h4
        exact ⟨_, h4.2, fun w' hk' => run_loadSc hU hd' (hk'.1 _ _ h1) (getD_some h4.1)⟩
    · cases h
  · rename_i ls off
    obtain ⟨b, o, cs, e, fz, h1, rfl, h3⟩ := hp
    split at h
    · rename_i n fs z q hti
      split at h
      · rename_i hn
        obtain ⟨hn, hn0⟩ := hn
        cases h
        obtain ⟨d, i, hU, hd, hi, hin⟩ := ti_agg (tget_ok hT hti)
        have hget : ∀ j, j < n → ∃ l, ls[off + j]? = some l := fun j hj => ⟨_, List.getElem?_eq_getElem (by omega)⟩
        have hsz : o + i.size ≤ cs.size := by
          obtain ⟨l, hl⟩ := hget (n - 1) (by omega)
          have := (h3 _ l hl).1
          omega
        refine ⟨_, ⟨_, rfl, ?_, fun j c hj => ?_⟩, fun w' hk' => run_loadAgg hU hd hi (hk'.1 _ _ h1) hsz⟩
        · rw [cut_len (by simpa [lfs] using hn)]; simp [hin]
        · obtain ⟨h5, h6⟩ := cut_get hj
          simp only [lfs, List.getElem?_map, Option.map_eq_some_iff] at h6
          obtain ⟨l, hl, rfl⟩ := h6
          have := (h3 _ _ hl).2
          rw [Array.getD_eq_getD_getElem?]
          simp only [List.getElem?_toArray, List.getElem?_map, hin, List.getElem?_range h5, Option.map_some, Option.getD_some]
          exact this
      · cases h
    · rename_i ti hnot hti
      cases hc : ls[off]? with
      | none => simp [lfs, hc] at h
      | some l =>
        simp only [lfs, List.getElem?_map, hc, Option.map_some, Option.some.injEq] at h
        subst h
        obtain ⟨d, i, hU, hd⟩ := ti_agg (tget_ok hT hti)
        have hd' : aggD d = false := by
          cases ti with
          | st n fs z q => exact (hnot n fs z q rfl).elim
          | _ => exact hd
        have h4 := h3 0 l (by simpa using hc)
        simp only [Nat.add_zero] at h4
        exact ⟨_, h4.2, fun w' hk' => run_loadSc hU hd' (hk'.1 _ _ h1) (getD_some h4.1)⟩
    · cases h
  · rename_i k E i off
    obtain ⟨hk, b, o, n, c, h1, hi, rfl⟩ := hp
    split at h
    · rename_i E' xs lent n' fs z q hB hti
      split at h
      · rename_i hn
        obtain ⟨rfl, hsc, hn⟩ := hn
        cases h
        obtain ⟨d, ii, hU, hd, hii, hin⟩ := ti_agg (tget_ok hT hti)
        have hown : OwnL w.heap (.list E xs) (ρ k).1 (ρ k).2 := r.b.blk k _ (getB_mem hB)
        rw [h1] at hown
        obtain ⟨cs, e, fz, h2, h3, h4, h5, h6, h7⟩ := oel_cells hown hi
        have hsz : o + i () * E.sz + off + ii.size ≤ cs.size := by rw [hin]; rw [Nat.add_mul] at h5; omega
        refine ⟨_, ⟨_, rfl, ?_, fun j c hj => ?_⟩, fun w' hk' => run_loadAgg hU hd hii (by rw [hk'.2 k (by simp [rdV]) b h4]; exact h2) hsz⟩
        · rw [cut_len (by simpa [lfs, cellsT_len] using hn)]; simp [hin]
        · obtain ⟨h8, h9⟩ := cut_get hj
          simp only [lfs, List.getElem?_map, Option.map_eq_some_iff] at h9
          obtain ⟨l, hl, rfl⟩ := h9
          obtain ⟨S', h10⟩ := h7 _ _ hl
          rw [Array.getD_eq_getD_getElem?]
          simp only [List.getElem?_toArray, List.getElem?_map, hin, List.getElem?_range h8, Option.map_some, Option.getD_some]
          rw [Nat.add_assoc]
          exact h10.rl_sc (List.all_eq_true.1 hsc _ (List.mem_of_getElem? (i := j) (by rw [List.getElem?_take, if_pos h8, List.getElem?_drop]; exact hl)))
      · cases h
    · rename_i E' xs lent ti hnot hB hti
      split at h
      · rename_i hE
        subst hE
        split at h
        · rename_i l hl
          split at h
          · rename_i hsc
            cases h
            obtain ⟨d, ii, hU, hd⟩ := ti_agg (tget_ok hT hti)
            have hd' : aggD d = false := by
              cases ti with
              | st n fs z q => exact (hnot n fs z q rfl).elim
              | _ => exact hd
            have hown : OwnL w.heap (.list E xs) (ρ k).1 (ρ k).2 := r.b.blk k _ (getB_mem hB)
            rw [h1] at hown
            obtain ⟨cs, e, fz, h2, h3, h4, h5, h6, h7⟩ := oel_cells hown hi
            obtain ⟨S', h10⟩ := h7 _ _ hl
            have hlt := lt_of_get hl
            rw [cellsT_len] at hlt
            rw [Nat.add_mul] at h5
            exact ⟨_, h10.rl_sc hsc, fun w' hk' => run_loadSc hU hd' (by rw [hk'.2 k (by simp [rdV]) b h4]; exact h2) (getD_some (by omega))⟩
          · cases h
        · cases h
      · cases h
    · cases h
  · cases h

end

end Go.Proofs.Ytnmdhpaobmjefaa
