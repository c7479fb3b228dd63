/-
  The operations that make memory or write it. No conditions.
-/
import Derived.Test.YtnmdhpaobmjefaaVc
namespace Go.Proofs.Ytnmdhpaobmjefaa
open Go

theorem dom_of_mem {bs : List (Nat × Blk)} {k : Nat} {B : Blk} (h : (k, B) ∈ bs) : dom bs k := List.mem_map.2 ⟨_, h, rfl⟩

theorem tot_two {ρ : Rho} {bs : List (Nat × Blk)} {k j : Nat} (hk : dom bs k) (hj : dom bs j) (hne : j ≠ k) (x : Nat) : (ρ k).2 x + (ρ j).2 x ≤ tot ρ bs x := by
  rw [tot_delB hk x]
  have h := dom_delB hj hne
  obtain ⟨⟨j', B⟩, h1, h2⟩ := List.mem_map.1 h
  simp only at h2
  subst h2
  have := tot_le (ρ := ρ) h1 x
  omega

/-- a name's block is another, behind the same header; nothing else has changed -/
theorem RelH.setBlk {Γ : Ctx} {H : Hp} {ρ : Rho} {σ : SS} {a : Act} {w w' : World} (r : RelH Γ H ρ σ a w) {k : Nat} {B B' : Blk} (hk : getB σ.blk k = some B)
    (hold : ∀ x, ¬ Top B (ρ k) x → w'.heap[x]? = w.heap[x]?) (hsz : Ext w w')
    (hB : BlkR w'.heap H ρ (dom σ.blk) B' (ρ k)) (htop : ∀ x, Top B' (ρ k) x → Top B (ρ k) x) (hS : ∀ x, Top B (ρ k) x → 0 < (ρ k).2 x) :
    RelH Γ H ρ { σ with blk := setB σ.blk k B' } a w' := by
  have hm := getB_mem hk
  have hd := dom_of_mem hm
  have e : dom (setB σ.blk k B') = dom σ.blk := by funext j; exact propext dom_setB
  refine ⟨⟨?_, by rw [keys_setB]; exact r.b.nd, r.b.h0, ?_, ?_, ?_, ?_, ?_⟩, by rw [e]; exact r.e, r.d, r.n.trans hsz, by rw [e]; exact r.hd, by rw [e]; exact r.hm⟩
  · intro j hj; exact r.b.oc j (dom_setB.1 hj)
  · intro b o hb
    rw [hold b fun ht => by have := r.b.tops k B hm b ht; rw [this] at hb; cases hb]
    exact r.b.hh b o hb
  · intro j A hj
    rw [e]
    rcases mem_setB r.b.nd hj with ⟨rfl, rfl⟩ | ⟨hne, hj⟩
    · exact hB
    · refine (r.b.blk j A hj).mono (Grow.refl _ _ _) fun b hb => hold b fun ht => ?_
      have h1 := tot_two (ρ := ρ) hd (dom_of_mem hj) hne b
      have h2 := r.b.sum b
      have h3 := hS b ht
      omega
  · intro x
    have := tot_setB (ρ := ρ) (ρ' := ρ) r.b.nd (B := B') hd (fun _ _ => rfl) x
    have := r.b.sum x
    show tot ρ (setB σ.blk k B') x ≤ 1
    omega
  · intro j A hj x hx
    rcases mem_setB r.b.nd hj with ⟨rfl, rfl⟩ | ⟨hne, hj⟩
    · exact r.b.fresh _ B hm x hx
    · exact r.b.fresh j A hj x hx
  · intro j A hj x hx
    rcases mem_setB r.b.nd hj with ⟨rfl, rfl⟩ | ⟨hne, hj⟩
    · exact r.b.tops _ B hm x (htop x hx)
    · exact r.b.tops j A hj x hx

/-! ### storing cells -/

theorem setVs_size : ∀ (us : List Value) (vs : Array Value) (o : Nat), (setVs vs o us).size = vs.size
  | [], _, _ => rfl
  | u :: us, vs, o => by simp only [setVs]; rw [setVs_size us]; simp

theorem frozen_no {w : World} {b o : Nat} {vs : Array Value} {e : TypeId} {fz : Nat × Nat} (hb : w.heap[b]? = some (.cells vs e fz)) (hf : NF vs fz) (ho : o < vs.size) : w.frozen? ⟨b, o, none⟩ = false := by
  obtain ⟨lo, hi⟩ := fz
  simp only [World.frozen?, hb]
  rcases hf with hf | hf
  · simp only at hf
    have : ¬ (lo ≤ o ∧ o < hi) := by omega
    simpa using this
  · simp only at hf
    have : ¬ (lo ≤ o ∧ o < hi) := by omega
    simpa using this

theorem setCell_heap (w : World) (b o : Nat) (v : Value) {vs : Array Value} {e : TypeId} {fz : Nat × Nat} (hb : w.heap[b]? = some (.cells vs e fz)) :
    (w.setCell ⟨b, o, none⟩ v).heap[b]? = some (.cells (vs.setIfInBounds o v) e fz) ∧ (∀ x, x ≠ b → (w.setCell ⟨b, o, none⟩ v).heap[x]? = w.heap[x]?) ∧ Ext w (w.setCell ⟨b, o, none⟩ v) := by
  obtain ⟨lo, hi⟩ := fz
  refine ⟨?_, fun x hx => ?_, ⟨by simp [World.setCell], rfl, rfl, fun a => World.frozen?_setCell _ _ _ _⟩⟩
  · simp only [World.setCell, Array.getElem?_modify, hb]
    simp
  · simp only [World.setCell, Array.getElem?_modify]
    rw [if_neg (Ne.symm hx)]

theorem run_storeCells {P : Program} : ∀ (us : List Value) (w : World) (b o i : Nat) (vs : Array Value) (e : TypeId) (fz : Nat × Nat), w.heap[b]? = some (.cells vs e fz) → NF vs fz → o + i + us.length ≤ vs.size →
    (∀ u ∈ us, u.oneCell' = true) →
    ∃ w', (storeCells ⟨b, o, none⟩ us i).run P w = .ok () w' ∧ w'.heap[b]? = some (.cells (setVs vs (o + i) us) e fz) ∧ (∀ x, x ≠ b → w'.heap[x]? = w.heap[x]?) ∧ Ext w w'
  | [], w, b, o, i, vs, e, fz, hb, _, _, _ => ⟨w, rfl, hb, fun _ _ => rfl, Ext.refl w⟩
  | u :: us, w, b, o, i, vs, e, fz, hb, hf, hs, h1 => by
    simp only [List.length_cons] at hs
    obtain ⟨g1, g2, g3⟩ := setCell_heap w b (o + i) u hb
    have hf' : NF (vs.setIfInBounds (o + i) u) fz := by rcases hf with h | h; exact .inl h; exact .inr (by simpa using h)
    obtain ⟨w', g4, g5, g6, g7⟩ := run_storeCells (P := P) us (w.setCell ⟨b, o + i, none⟩ u) b o (i + 1) _ e fz g1 hf' (by simp; omega) (fun x hx => h1 x (List.mem_cons_of_mem _ hx))
    refine ⟨w', ?_, g5, fun x hx => by rw [g6 x hx, g2 x hx], g3.trans g7⟩
    simp only [storeCells, Sem.run_bind, addr_add]
    rw [run_store P w _ u .plain (h1 u List.mem_cons_self), cell_of hb (getD_some (show o + i < vs.size by omega)), frozen_no hb hf (show o + i < vs.size by omega)]
    simpa using g4

/-! ### the operations -/

def szT (tab : Tab) (T : TypeId) : Option Nat :=
  match tget tab T with
  | some (.st n _ _ _) => some n
  | some _ => some 1
  | none => none

def zT (tab : Tab) (T : TypeId) : Option (List Z) :=
  match tget tab T with
  | some (.st _ _ z _) => some z
  | some (.sc z) => some [z]
  | some (.sl E _ _) => some [.nl E]
  | some (.it k) => some [.i k]
  | some .bt => some [.bo]
  | some .ss => some [.st]
  | none => none

/-- every block is as it was -/
def KeepW (w w' : World) : Prop := ∀ (b : Nat) o, w.heap[b]? = some o → w'.heap[b]? = some o

theorem KeepW.refl (w : World) : KeepW w w := fun _ _ h => h
theorem KeepW.alloc (w : World) (o : Obj) : KeepW w (w.alloc o) := fun b _ h => by rw [alloc_old w o b (lt_of_aget h)]; exact h

/-- it has cells that are lists -/
def tyL (tab : Tab) (T : TypeId) : Bool :=
  match tget tab T with
  | some (.sl _ _ _) => true
  | some (.st n _ z _) => decide (n ≤ 7) && z.any fun z => match z with | .nl _ => true | _ => false
  | _ => false

/-- it may write memory that was there -/
def isWr (tab : Tab) (o : Oper) : Bool :=
  match o.op with
  | .store _ _ _ => true
  | .load T _ => tyL tab T
  | .call c => match c.callee with
    | .builtin _ => true
    | .value (.func f) => (muT tab f).isSome
    | _ => true
  | _ => false

/-- a next state -/
def RelK (Γ : Ctx) (H : Hp) (wr : Bool) (w : World) (σ' : SS) (a' : Act) (w' : World) : Prop := (∃ ρ, RelH Γ H ρ σ' a' w') ∧ (wr = false → KeepW w w')

theorem RelK.rel {Γ : Ctx} {H : Hp} {wr : Bool} {w : World} {σ' : SS} {a' : Act} {w' : World} (h : RelK Γ H wr w σ' a' w') : Rel Γ σ' a' w' := ⟨H, h.1⟩

def SS.set (σ : SS) (k : Nat) (B : Blk) : SS := { σ with blk := setB σ.blk k B }
def SS.new (σ : SS) (k : Nat) (B : Blk) : SS := { σ with blk := insB σ.blk k B }

/-- the operations that make memory or write it -/
def vcMem (tab : Tab) (o : Oper) (σ : SS) (K : SS → Prop) : Prop :=
  match o.op, o.dst with
  | .box _ x, some d =>
    match cellsV (σ.ev x), getB σ.blk (8 * d) with
    | some cs, none => K ((σ.new (8 * d) (.box cs)).put (some d) (.c (.ptr (8 * d) 0)))
    | _, _ => False
  | .alloc T, some d =>
    match zT tab T, getB σ.blk (8 * d) with
    | some z, none => K ((σ.new (8 * d) (.box (z.map Z.c))).put (some d) (.c (.ptr (8 * d) 0)))
    | _, _ => False
  | .store T p v, none =>
    match σ.ev p, cellsV (σ.ev v), szT tab T with
    | .c (.ptr k off), some xs, some n =>
      match getB σ.blk k with
      | some (.box cs) => if xs.length = n ∧ off + n ≤ cs.length ∧ xs.all C.def? = true then K (σ.set k (.box (setCs cs off xs))) else False
      | _ => False
    | _, _, _ => False
  | _, _ => False

section
variable {P : Program} {tab : Tab} (hT : tabB P tab = true) {Γ : Ctx} {H : Hp} {ρ : Rho} {σ : SS} {a : Act} {w : World} (r : RelH Γ H ρ σ a w)
include hT r

omit hT r in
theorem wp_value {o : Oper} {a : Act} {w w' : World} {v : Value} {next : Act → World → Prop} {Q : Exit → Act → World → Prop} (h : (execOp a.eval o).run P w = .ok (.value v) w') (hn : next (a.put o.dst v) w') : o.wp P a w next Q := by
  unfold Oper.wp; rw [h]; exact hn

omit hT r in
theorem wp_skip' {o : Oper} {a : Act} {w w' : World} {next : Act → World → Prop} {Q : Exit → Act → World → Prop} (h : (execOp a.eval o).run P w = .ok .skip w') (hd : o.dst = none) (hn : next a w') : o.wp P a w next Q := by
  unfold Oper.wp; rw [h]
  simp only [Oper.upon, hd, Act.put]
  exact hn

omit r in
theorem zT_ok {T : TypeId} {z : List Z} (h : zT tab T = some z) : ∃ i v, P.info? T = some i ∧ i.zero = some v ∧ Z.oks z v.cells.toList = true := by
  have sc : ∀ {t : TypeId} {z : Z}, tiB P t (.sc z) = true → ∃ i v, P.info? t = some i ∧ i.zero = some v ∧ Z.oks [z] v.cells.toList = true := fun {t z} h => by
    obtain ⟨_, i, v, h1, h2, h3, h4, h5⟩ := ti_sc h
    refine ⟨i, v, h1, h3, ?_⟩
    have : v.cells = #[v] := by cases v <;> simp [Value.oneCell'] at h4 <;> rfl
    rw [this]
    simp [Z.oks, h5]
  unfold zT at h
  split at h
  · rename_i hti; cases h
    obtain ⟨fields, _, _, i, cs, h1, h2, h3, h4⟩ := ti_st (tget_ok hT hti)
    exact ⟨i, _, h1, h3, h4⟩
  · rename_i hti; cases h; exact sc (tget_ok hT hti)
  · rename_i hti; cases h; exact sc (ti_sl' (tget_ok hT hti))
  · rename_i hti; cases h; exact sc (ti_it (tget_ok hT hti)).2
  · rename_i hti; cases h; exact sc (ti_bt (tget_ok hT hti)).2
  · rename_i hti; cases h; exact sc (ti_ss (tget_ok hT hti)).2
  · cases h


theorem vcMem_ok {o : Oper} {K : SS → Prop} {Q : Exit → Act → World → Prop} (h : vcMem tab o σ K) :
    o.wp P a w (fun a' w' => ∃ σ', K σ' ∧ RelK Γ H (isWr tab o) w σ' a' w') Q := by
  have ev := ev_ok r.e
  unfold vcMem at h
  split at h
  · rename_i T x d hop hd
    split at h
    · rename_i cs hcs hg
      have hc := (ev x).cells hcs fun k hk => by
        have := ev x
        rw [hk] at this
        exact own_one r this
      obtain ⟨ρ', r1, h1, h2⟩ := r.newBox hg T hc
      refine wp_value (v := .pointer (some ⟨w.heap.size, 0, none⟩)) (w' := w.alloc (.cells (a.eval x).cells T)) ?_ ⟨_, h, ⟨ρ', ?_⟩, fun _ => KeepW.alloc w _⟩
      · simp [execOp, hop, Instr.box, newVar, newRow]
      · rw [hd]
        refine RelH.put r1 (v := .c (.ptr (8 * d) 0)) ⟨dom_insB.2 (.inl rfl), _, h1, rfl⟩ (some d)
    · cases h
  · rename_i T d hop hd
    split at h
    · rename_i z hz hg
      obtain ⟨i, v, hi, hv, hzo⟩ := zT_ok hT hz
      have hc := Z.oks_cs (H := H) (ρ := ρ) (D := dom σ.blk) hzo
      obtain ⟨ρ', r1, h1, h2⟩ := r.newBox hg T hc
      refine wp_value (v := .pointer (some ⟨w.heap.size, 0, none⟩)) (w' := w.alloc (.cells v.cells T)) ?_ ⟨_, h, ⟨ρ', ?_⟩, fun _ => KeepW.alloc w _⟩
      · simp [execOp, hop, Instr.alloc, newVar, newRow, run_zero w hi hv]
      · rw [hd]
        simp only [Array.toArray_toList] at r1
        refine RelH.put r1 (v := .c (.ptr (8 * d) 0)) ⟨dom_insB.2 (.inl rfl), _, h1, rfl⟩ (some d)
    · cases h
  · rename_i T p v hop hd
    split at h
    · rename_i k off xs n hp hxs hsz
      split at h
      · rename_i cs hg
        split at h
        · rename_i hc
          obtain ⟨hc1, hc2, hc3⟩ := hc
          have ep := ev p
          rw [hp] at ep
          obtain ⟨hkd, b, hh, hpv⟩ := ep
          have hv := (ev v).cells hxs fun k hk => by
            have := ev v
            rw [hk] at this
            exact own_one r this
          obtain ⟨b', vs, e, fz, h1, h2, h3, h4, h5⟩ := r.b.blk k _ (getB_mem hg)
          rw [hh] at h1
          simp only [Value.pointer.injEq, Option.some.injEq, Addr.mk.injEq, and_true] at h1
          subst h1
          have hone : ∀ u ∈ (a.eval v).cells.toList, u.oneCell' = true := by
            intro u hu
            obtain ⟨j, hj, hju⟩ := List.getElem_of_mem hu
            have hj' : j < xs.length := by rw [← hv.1]; simpa using hj
            have h6 := hv.2 j _ (List.getElem?_eq_getElem hj')
            rw [Array.getD_eq_getD_getElem?, Array.getElem?_eq_getElem (by simpa using hj)] at h6
            simp only [Option.getD_some] at h6
            have h7 := List.all_eq_true.1 hc3 _ (List.getElem_mem hj')
            rw [← hju]
            simp only [Array.getElem_toList]
            exact (RC.cells h6 h7 fun k hk => by rw [hk] at h6; obtain ⟨h8, h9⟩ := h6; rw [h9]; exact r.b.oc k h8).2
          obtain ⟨w', h6, h7, h8, h9⟩ := run_storeCells (P := P) (a.eval v).cells.toList w b off 0 vs e fz h3 h4 (by rw [h5.1]; have := hv.1; simp only [Array.length_toList]; omega) hone
          have hszT : ∃ i, P.info? T = some i ∧ i.size = n := by
            unfold szT at hsz
            split at hsz
            · rename_i hti; cases hsz
              obtain ⟨fields, _, _, i, cs, h1, h2, _⟩ := ti_st (tget_ok hT hti)
              exact ⟨i, h1, h2⟩
            · rename_i ti hne hti; cases hsz
              have sc : ∀ {t : TypeId} {z : Z}, tiB P t (.sc z) = true → ∃ i, P.info? t = some i ∧ i.size = 1 := fun {t z} h => by
                obtain ⟨_, i, v, h1, h2, _⟩ := ti_sc h; exact ⟨i, h1, h2⟩
              have ht := tget_ok hT hti
              cases ti with
              | st n fs z q => exact (hne _ _ _ _ rfl).elim
              | sl E elem bytes => exact sc (ti_sl' ht)
              | sc z => exact sc ht
              | it k => exact sc (ti_it ht).2
              | bt => exact sc (ti_bt ht).2
              | ss => exact sc (ti_ss ht).2
            · cases hsz
          obtain ⟨i, hi, his⟩ := hszT
          refine wp_skip' (w' := w') ?_ hd ⟨_, h, ⟨ρ, ?_⟩, fun hw => by simp [isWr, hop] at hw⟩
          · have hcs : ¬ ((a.eval v).cells.size ≠ i.size) := by have := hv.1; omega
            simp only [execOp, hop, Instr.storeAt, hpv, Instr.sureAddr, storeVar, Sem.run_bind, Sem.run_pure, Result.andThen_ok, run_szOf w hi]
            rw [if_neg hcs]
            simp only [Result.andThen_ok, h6]
          · refine r.setBlk hg (fun x hx => h8 x fun he => hx ?_) h9 ?_ (fun x hx => hx) (fun x hx => hx)
            · rw [he]; show 0 < (ρ k).2 b; rw [h2]; simp [one]
            · refine ⟨b, _, e, fz, hh, h2, h7, ?_, ?_⟩
              · rcases h4 with h | h
                · exact .inl h
                · exact .inr (by rw [setVs_size]; exact h)
              · rw [Nat.add_zero]
                exact RCs.sets xs _ h5 (by simpa using hv)
        · cases h
      · cases h
    · cases h
  · cases h

end

end Go.Proofs.Ytnmdhpaobmjefaa
