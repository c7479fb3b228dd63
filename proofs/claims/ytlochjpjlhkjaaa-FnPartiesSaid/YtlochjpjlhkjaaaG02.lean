/- Parts of a proof. No conditions. -/

import Derived.Test.YtlochjpjlhkjaaaG01
import Derived.Deep.AppendSrc
import Derived.Great.BuildSlice
import Derived.Laws.MakeOwn
set_option linter.unusedSimpArgs false
set_option linter.unusedVariables false
namespace Go.Proofs.Ytlochjpjlhkjaaa
open Go
theorem dom_of_mem {bs : List (Nat × Blk)} {k : Nat} {B : Blk} (h : (k, B) ∈ bs) : dom bs k := List.mem_map.2 ⟨_, h, rfl⟩
theorem tot_two {ρ : Rho} {bs : List (Nat × Blk)} {k j : Nat} (hk : dom bs k) (hj : dom bs j) (hne : j ≠ k) (x : Nat) : (ρ k).2 x + (ρ j).2 x ≤ tot ρ bs x := by
  rw [tot_delB hk x]
  have h := dom_delB hj hne
  obtain ⟨⟨j', B⟩, h1, h2⟩ := List.mem_map.1 h
  simp only at h2
  subst h2
  have := tot_le (ρ := ρ) h1 x
  omega
theorem RelH.setBlk {Γ : Ctx} {H : Hp} {ρ : Rho} {σ : SS} {a : Act} {w w' : World} (r : RelH Γ H ρ σ a w) {k : Nat} {B B' : Blk} (hk : getB σ.blk k = some B)
    (hold : ∀ x, ¬ Top B (ρ k) x → w'.heap[x]? = w.heap[x]?) (hsz : Ext w w')
    (hB : BlkR w'.heap H ρ (dom σ.blk) B' (ρ k)) (htop : ∀ x, Top B' (ρ k) x → Top B (ρ k) x) (hS : ∀ x, Top B (ρ k) x → 0 < (ρ k).2 x) :
    RelH Γ H ρ { σ with blk := setB σ.blk k B' } a w' := by
  have hm := getB_mem hk
  have hd := dom_of_mem hm
  have e : dom (setB σ.blk k B') = dom σ.blk := by funext j; exact propext dom_setB
  refine ⟨⟨?_, by rw [keys_setB]; exact r.b.nd, r.b.h0, ?_, ?_, ?_, ?_, ?_⟩, by rw [e]; exact r.e, r.d, r.n.trans hsz, by rw [e]; exact r.hd, by rw [e]; exact r.hm⟩
  · intro j hj; exact r.b.oc j (dom_setB.1 hj)
  · intro b o hb
    rw [hold b fun ht => by have := r.b.tops k B hm b ht; rw [this] at hb; cases hb]
    exact r.b.hh b o hb
  · intro j A hj
    rw [e]
    rcases mem_setB r.b.nd hj with ⟨rfl, rfl⟩ | ⟨hne, hj⟩
    · exact hB
    · refine (r.b.blk j A hj).mono (Grow.refl _ _ _) fun b hb => hold b fun ht => ?_
      have h1 := tot_two (ρ := ρ) hd (dom_of_mem hj) hne b
      have h2 := r.b.sum b
      have h3 := hS b ht
      omega
  · intro x
    have := tot_setB (ρ := ρ) (ρ' := ρ) r.b.nd (B := B') hd (fun _ _ => rfl) x
    have := r.b.sum x
    show tot ρ (setB σ.blk k B') x ≤ 1
    omega
  · intro j A hj x hx
    rcases mem_setB r.b.nd hj with ⟨rfl, rfl⟩ | ⟨hne, hj⟩
    · exact r.b.fresh _ B hm x hx
    · exact r.b.fresh j A hj x hx
  · intro j A hj x hx
    rcases mem_setB r.b.nd hj with ⟨rfl, rfl⟩ | ⟨hne, hj⟩
    · exact r.b.tops _ B hm x (htop x hx)
    · exact r.b.tops j A hj x hx
theorem setVs_size : ∀ (us : List Value) (vs : Array Value) (o : Nat), (setVs vs o us).size = vs.size
  | [], _, _ => rfl
  | u :: us, vs, o => by simp only [setVs]; rw [setVs_size us]; simp
theorem frozen_no {w : World} {b o : Nat} {vs : Array Value} {e : TypeId} {fz : Nat × Nat} (hb : w.heap[b]? = some (.cells vs e fz)) (hf : NF vs fz) (ho : o < vs.size) : w.frozen? ⟨b, o, none⟩ = false := by
  obtain ⟨lo, hi⟩ := fz
  simp only [World.frozen?, hb]
  rcases hf with hf | hf
  · simp only at hf
    have : ¬ (lo ≤ o ∧ o < hi) := by omega
    simpa using this
  · simp only at hf
    have : ¬ (lo ≤ o ∧ o < hi) := by omega
    simpa using this
theorem setCell_heap (w : World) (b o : Nat) (v : Value) {vs : Array Value} {e : TypeId} {fz : Nat × Nat} (hb : w.heap[b]? = some (.cells vs e fz)) :
    (w.setCell ⟨b, o, none⟩ v).heap[b]? = some (.cells (vs.setIfInBounds o v) e fz) ∧ (∀ x, x ≠ b → (w.setCell ⟨b, o, none⟩ v).heap[x]? = w.heap[x]?) ∧ Ext w (w.setCell ⟨b, o, none⟩ v) := by
  obtain ⟨lo, hi⟩ := fz
  refine ⟨?_, fun x hx => ?_, Ext.of (by simp [World.setCell]) rfl rfl fun a => World.frozen?_setCell _ _ _ _⟩
  · simp only [World.setCell, Array.getElem?_modify, hb]
    simp
  · simp only [World.setCell, Array.getElem?_modify]
    rw [if_neg (Ne.symm hx)]
theorem run_storeCells {P : Program} : ∀ (us : List Value) (w : World) (b o i : Nat) (vs : Array Value) (e : TypeId) (fz : Nat × Nat), w.heap[b]? = some (.cells vs e fz) → NF vs fz → o + i + us.length ≤ vs.size →
    (∀ u ∈ us, u.oneCell' = true) →
    ∃ w', (storeCells ⟨b, o, none⟩ us i).run P w = .ok () w' ∧ w'.heap[b]? = some (.cells (setVs vs (o + i) us) e fz) ∧ (∀ x, x ≠ b → w'.heap[x]? = w.heap[x]?) ∧ Ext w w'
  | [], w, b, o, i, vs, e, fz, hb, _, _, _ => ⟨w, rfl, hb, fun _ _ => rfl, Ext.refl w⟩
  | u :: us, w, b, o, i, vs, e, fz, hb, hf, hs, h1 => by
    simp only [List.length_cons] at hs
    obtain ⟨g1, g2, g3⟩ := setCell_heap w b (o + i) u hb
    have hf' : NF (vs.setIfInBounds (o + i) u) fz := by rcases hf with h | h; exact .inl h; exact .inr (by simpa using h)
    obtain ⟨w', g4, g5, g6, g7⟩ := run_storeCells (P := P) us (w.setCell ⟨b, o + i, none⟩ u) b o (i + 1) _ e fz g1 hf' (by simp; omega) (fun x hx => h1 x (List.mem_cons_of_mem _ hx))
    refine ⟨w', ?_, g5, fun x hx => by rw [g6 x hx, g2 x hx], g3.trans g7⟩
    simp only [storeCells, Sem.run_bind, addr_add]
    rw [run_store P w _ u .plain (h1 u List.mem_cons_self), cell_of hb (getD_some (show o + i < vs.size by omega)), frozen_no hb hf (show o + i < vs.size by omega)]
    simpa using g4
def szT (tab : Tab) (T : TypeId) : Option Nat :=
  match tget tab T with
  | some (.st n _ _ _) => some n
  | some _ => some 1
  | none => none
def zT (tab : Tab) (T : TypeId) : Option (List Z) :=
  match tget tab T with
  | some (.st _ _ z _) => some z
  | some (.sc z) => some [z]
  | some (.sl E _ _) => some [.nl E]
  | some (.it k) => some [.i k]
  | some .bt => some [.bo]
  | some .ss => some [.st]
  | some (.mp _ _) => none
  | none => none
def KeepW (w w' : World) : Prop := ∀ (b : Nat) o, w.heap[b]? = some o → w'.heap[b]? = some o
theorem KeepW.refl (w : World) : KeepW w w := fun _ _ h => h
theorem KeepW.alloc (w : World) (o : Obj) : KeepW w (w.alloc o) := fun b _ h => by rw [alloc_old w o b (lt_of_aget h)]; exact h
def tyL (tab : Tab) (T : TypeId) : Bool :=
  match tget tab T with
  | some (.sl _ _ _) => true
  | some (.st n _ z _) => decide (n ≤ 7) && z.any fun z => match z with | .nl _ => true | _ => false
  | _ => false
def isWr (tab : Tab) (o : Oper) : Bool :=
  match o.op with
  | .store _ _ _ => true
  | .mapUpdate _ _ _ _ => true
  | .load T _ => tyL tab T
  | .call c => match c.callee with
    | .builtin _ => true
    | .value (.func f) => (muT tab f).isSome
    | _ => true
  | _ => false
def RelK (Γ : Ctx) (H : Hp) (wr : Bool) (w : World) (σ' : SS) (a' : Act) (w' : World) : Prop := (∃ ρ, RelH Γ H ρ σ' a' w') ∧ (wr = false → KeepW w w')
theorem RelK.rel {Γ : Ctx} {H : Hp} {wr : Bool} {w : World} {σ' : SS} {a' : Act} {w' : World} (h : RelK Γ H wr w σ' a' w') : Rel Γ σ' a' w' := ⟨H, h.1⟩
def SS.set (σ : SS) (k : Nat) (B : Blk) : SS := { σ with blk := setB σ.blk k B }
def SS.new (σ : SS) (k : Nat) (B : Blk) : SS := { σ with blk := insB σ.blk k B }
def vcMem (tab : Tab) (o : Oper) (σ : SS) (K : SS → Prop) : Prop :=
  match o.op, o.dst with
  | .box _ x, some d =>
    match cellsV (σ.ev x), getB σ.blk (8 * d) with
    | some cs, none => K ((σ.new (8 * d) (.box cs)).put (some d) (.c (.ptr (8 * d) 0)))
    | _, _ => False
  | .alloc T, some d =>
    match zT tab T, getB σ.blk (8 * d) with
    | some z, none => K ((σ.new (8 * d) (.box (z.map Z.c))).put (some d) (.c (.ptr (8 * d) 0)))
    | _, _ => False
  | .store T p v, none =>
    match σ.ev p, cellsV (σ.ev v), szT tab T with
    | .c (.ptr k off), some xs, some n =>
      match getB σ.blk k with
      | some (.box cs) => if xs.length = n ∧ off + n ≤ cs.length ∧ xs.all C.def? = true then K (σ.set k (.box (setCs cs off xs))) else False
      | _ => False
    | _, _, _ => False
  | .makeMap T none, some d =>
    match tget tab T, getB σ.blk (8 * d) with
    | some (.mp _ _), none => K ((σ.new (8 * d) (.mp fun _ => [])).put (some d) (.c (.own (8 * d))))
    | _, _ => False
  | .lookup T x i false, some d =>
    match tget tab T, σ.ev x, σ.ev i with
    | some (.mp _ _), .c (.own k), .c (.lf (.int .i64 t)) =>
      match getB σ.blk k with
      | some (.mp m) => K (σ.put (some d) (iV .i64 fun _ => mget (m ()) (t ())))
      | _ => False
    | _, _, _ => False
  | .mapUpdate T x i v, none =>
    match tget tab T, σ.ev x, σ.ev i, σ.ev v with
    | some (.mp _ _), .c (.own k), .c (.lf (.int .i64 t)), .c (.lf (.int .i64 u)) =>
      match getB σ.blk k with
      | some (.mp m) => Ob (fun _ => (m ()).length < 9223372036854775807) fun _ => K (σ.set k (.mp fun _ => mput (m ()) (t ()) (u ())))
      | _ => False
    | _, _, _, _ => False
  | .call c, some d =>
    match c.callee, c.args.toList, c.argTypes.toList with
    | .builtin .len, [x], [T] =>
      match tget tab T, σ.ev x with
      | some (.mp _ _), .c (.own k) =>
        match getB σ.blk k with
        | some (.mp m) => K (σ.put (some d) (iV .i64 fun _ => ((m ()).length : Int)))
        | _ => False
      | _, _ => False
    | _, _, _ => False
  | _, _ => False
section
variable {P : Program} {tab : Tab} (hT : tabB P tab = true) {Γ : Ctx} {H : Hp} {ρ : Rho} {σ : SS} {a : Act} {w : World} (r : RelH Γ H ρ σ a w)
include hT r
omit hT r in
theorem wp_value {o : Oper} {a : Act} {w w' : World} {v : Value} {next : Act → World → Prop} {Q : Exit → Act → World → Prop} (h : (execOp a.eval o).run P w = .ok (.value v) w') (hn : next (a.put o.dst v) w') : o.wp P a w next Q := by
  unfold Oper.wp; rw [h]; exact hn
omit hT r in
theorem wp_skip' {o : Oper} {a : Act} {w w' : World} {next : Act → World → Prop} {Q : Exit → Act → World → Prop} (h : (execOp a.eval o).run P w = .ok .skip w') (hd : o.dst = none) (hn : next a w') : o.wp P a w next Q := by
  unfold Oper.wp; rw [h]
  simp only [Oper.upon, hd, Act.put]
  exact hn
omit r in
theorem zT_ok {T : TypeId} {z : List Z} (h : zT tab T = some z) : ∃ i v, P.info? T = some i ∧ i.zero = some v ∧ Z.oks z v.cells.toList = true := by
  have sc : ∀ {t : TypeId} {z : Z}, tiB P t (.sc z) = true → ∃ i v, P.info? t = some i ∧ i.zero = some v ∧ Z.oks [z] v.cells.toList = true := fun {t z} h => by
    obtain ⟨_, i, v, h1, h2, h3, h4, h5⟩ := ti_sc h
    refine ⟨i, v, h1, h3, ?_⟩
    have : v.cells = #[v] := by cases v <;> simp [Value.oneCell'] at h4 <;> rfl
    rw [this]
    simp [Z.oks, h5]
  unfold zT at h
  split at h
  · rename_i hti; cases h
    obtain ⟨fields, _, _, i, cs, h1, h2, h3, h4⟩ := ti_st (tget_ok hT hti)
    exact ⟨i, _, h1, h3, h4⟩
  · rename_i hti; cases h; exact sc (tget_ok hT hti)
  · rename_i hti; cases h; exact sc (ti_sl' (tget_ok hT hti))
  · rename_i hti; cases h; exact sc (ti_it (tget_ok hT hti)).2
  · rename_i hti; cases h; exact sc (ti_bt (tget_ok hT hti)).2
  · rename_i hti; cases h; exact sc (ti_ss (tget_ok hT hti)).2
  · cases h
  · cases h
theorem vcStore_ok {o : Oper} {K : SS → Prop} {Q : Exit → Act → World → Prop} {T : TypeId} {p v : Operand} {k off : Nat} (hop : o.op = .store T p v) (hd : o.dst = none) (hp : σ.ev p = .c (.ptr k off)) (h : vcMem tab o σ K) :
    o.wp P a w (fun a' w' => ∃ σ', K σ' ∧ RelH Γ H ρ σ' a' w' ∧ ∀ x, (ρ k).2 x = 0 → w'.heap[x]? = w.heap[x]?) Q := by
  have ev := ev_ok r.e
  unfold vcMem at h
  simp only [hop, hd, hp] at h
  split at h
  · rename_i k' off' xs n hpk hxs hsz
    cases hpk
    split at h
    · rename_i cs hg
      split at h
      · rename_i hc
        obtain ⟨hc1, hc2, hc3⟩ := hc
        have ep := ev p
        rw [hp] at ep
        obtain ⟨hkd, b, hh, hpv⟩ := ep
        have hv := (ev v).cells hxs fun k hk => by
          have := ev v
          rw [hk] at this
          exact own_one r this
        obtain ⟨b', vs, e, fz, h1, h2, h3, h4, h5⟩ := r.b.blk k _ (getB_mem hg)
        rw [hh] at h1
        simp only [Value.pointer.injEq, Option.some.injEq, Addr.mk.injEq, and_true] at h1
        subst h1
        have hone : ∀ u ∈ (a.eval v).cells.toList, u.oneCell' = true := by
          intro u hu
          obtain ⟨j, hj, hju⟩ := List.getElem_of_mem hu
          have hj' : j < xs.length := by rw [← hv.1]; simpa using hj
          have h6 := hv.2 j _ (List.getElem?_eq_getElem hj')
          rw [Array.getD_eq_getD_getElem?, Array.getElem?_eq_getElem (by simpa using hj)] at h6
          simp only [Option.getD_some] at h6
          have h7 := List.all_eq_true.1 hc3 _ (List.getElem_mem hj')
          rw [← hju]
          simp only [Array.getElem_toList]
          exact (RC.cells h6 h7 fun k hk => by rw [hk] at h6; obtain ⟨h8, h9⟩ := h6; rw [h9]; exact r.b.oc k h8).2
        obtain ⟨w', h6, h7, h8, h9⟩ := run_storeCells (P := P) (a.eval v).cells.toList w b off 0 vs e fz h3 h4 (by rw [h5.1]; have := hv.1; simp only [Array.length_toList]; omega) hone
        have hszT : ∃ i, P.info? T = some i ∧ i.size = n := by
          unfold szT at hsz
          split at hsz
          · rename_i hti; cases hsz
            obtain ⟨fields, _, _, i, cs, h1, h2, _⟩ := ti_st (tget_ok hT hti)
            exact ⟨i, h1, h2⟩
          · rename_i ti hne hti; cases hsz
            have sc : ∀ {t : TypeId} {z : Z}, tiB P t (.sc z) = true → ∃ i, P.info? t = some i ∧ i.size = 1 := fun {t z} h => by
              obtain ⟨_, i, v, h1, h2, _⟩ := ti_sc h; exact ⟨i, h1, h2⟩
            have ht := tget_ok hT hti
            cases ti with
            | st n fs z q => exact (hne _ _ _ _ rfl).elim
            | sl E elem bytes => exact sc (ti_sl' ht)
            | sc z => exact sc ht
            | it k => exact sc (ti_it ht).2
            | bt => exact sc (ti_bt ht).2
            | ss => exact sc (ti_ss ht).2
            | mp kt et => exact sc (ti_mp ht).2.2.2
          · cases hsz
        obtain ⟨i, hi, his⟩ := hszT
        refine wp_skip' (w' := w') ?_ hd ⟨_, h, ?_, fun x hx => h8 x fun he => by rw [he, h2] at hx; simp [one] at hx⟩
        · have hcs : ¬ ((a.eval v).cells.size ≠ i.size) := by have := hv.1; omega
          simp only [execOp, hop, Instr.storeAt, hpv, Instr.sureAddr, storeVar, Sem.run_bind, Sem.run_pure, Result.andThen_ok, run_szOf w hi]
          rw [if_neg hcs]
          simp only [Result.andThen_ok, h6]
        · refine r.setBlk hg (fun x hx => h8 x fun he => hx ?_) h9 ?_ (fun x hx => hx) (fun x hx => hx)
          · rw [he]; show 0 < (ρ k).2 b; rw [h2]; simp [one]
          · refine ⟨b, _, e, fz, hh, h2, h7, ?_, ?_⟩
            · rcases h4 with h | h
              · exact .inl h
              · exact .inr (by rw [setVs_size]; exact h)
            · rw [Nat.add_zero]
              exact RCs.sets xs _ h5 (by simpa using hv)
      · cases h
    · cases h
  · cases h
theorem vcMem_ok {o : Oper} {K : SS → Prop} {Q : Exit → Act → World → Prop} (h : vcMem tab o σ K) :
    o.wp P a w (fun a' w' => ∃ σ', K σ' ∧ RelK Γ H (isWr tab o) w σ' a' w') Q := by
  have ev := ev_ok r.e
  unfold vcMem at h
  split at h
  · rename_i T x d hop hd
    split at h
    · rename_i cs hcs hg
      have hc := (ev x).cells hcs fun k hk => by
        have := ev x
        rw [hk] at this
        exact own_one r this
      obtain ⟨ρ', r1, h1, h2⟩ := r.newBox hg T hc
      refine wp_value (v := .pointer (some ⟨w.heap.size, 0, none⟩)) (w' := w.alloc (.cells (a.eval x).cells T)) ?_ ⟨_, h, ⟨ρ', ?_⟩, fun _ => KeepW.alloc w _⟩
      · simp [execOp, hop, Instr.box, newVar, newRow]
      · rw [hd]
        refine RelH.put r1 (v := .c (.ptr (8 * d) 0)) ⟨dom_insB.2 (.inl rfl), _, h1, rfl⟩ (some d)
    · cases h
  · rename_i T d hop hd
    split at h
    · rename_i z hz hg
      obtain ⟨i, v, hi, hv, hzo⟩ := zT_ok hT hz
      have hc := Z.oks_cs (H := H) (ρ := ρ) (D := dom σ.blk) hzo
      obtain ⟨ρ', r1, h1, h2⟩ := r.newBox hg T hc
      refine wp_value (v := .pointer (some ⟨w.heap.size, 0, none⟩)) (w' := w.alloc (.cells v.cells T)) ?_ ⟨_, h, ⟨ρ', ?_⟩, fun _ => KeepW.alloc w _⟩
      · simp [execOp, hop, Instr.alloc, newVar, newRow, run_zero w hi hv]
      · rw [hd]
        simp only [Array.toArray_toList] at r1
        refine RelH.put r1 (v := .c (.ptr (8 * d) 0)) ⟨dom_insB.2 (.inl rfl), _, h1, rfl⟩ (some d)
    · cases h
  · rename_i T p v hop hd
    split at h
    · rename_i k off xs n hp hxs hsz
      split at h
      · rename_i cs hg
        split at h
        · rename_i hc
          obtain ⟨hc1, hc2, hc3⟩ := hc
          have ep := ev p
          rw [hp] at ep
          obtain ⟨hkd, b, hh, hpv⟩ := ep
          have hv := (ev v).cells hxs fun k hk => by
            have := ev v
            rw [hk] at this
            exact own_one r this
          obtain ⟨b', vs, e, fz, h1, h2, h3, h4, h5⟩ := r.b.blk k _ (getB_mem hg)
          rw [hh] at h1
          simp only [Value.pointer.injEq, Option.some.injEq, Addr.mk.injEq, and_true] at h1
          subst h1
          have hone : ∀ u ∈ (a.eval v).cells.toList, u.oneCell' = true := by
            intro u hu
            obtain ⟨j, hj, hju⟩ := List.getElem_of_mem hu
            have hj' : j < xs.length := by rw [← hv.1]; simpa using hj
            have h6 := hv.2 j _ (List.getElem?_eq_getElem hj')
            rw [Array.getD_eq_getD_getElem?, Array.getElem?_eq_getElem (by simpa using hj)] at h6
            simp only [Option.getD_some] at h6
            have h7 := List.all_eq_true.1 hc3 _ (List.getElem_mem hj')
            rw [← hju]
            simp only [Array.getElem_toList]
            exact (RC.cells h6 h7 fun k hk => by rw [hk] at h6; obtain ⟨h8, h9⟩ := h6; rw [h9]; exact r.b.oc k h8).2
          obtain ⟨w', h6, h7, h8, h9⟩ := run_storeCells (P := P) (a.eval v).cells.toList w b off 0 vs e fz h3 h4 (by rw [h5.1]; have := hv.1; simp only [Array.length_toList]; omega) hone
          have hszT : ∃ i, P.info? T = some i ∧ i.size = n := by
            unfold szT at hsz
            split at hsz
            · rename_i hti; cases hsz
              obtain ⟨fields, _, _, i, cs, h1, h2, _⟩ := ti_st (tget_ok hT hti)
              exact ⟨i, h1, h2⟩
            · rename_i ti hne hti; cases hsz
              have sc : ∀ {t : TypeId} {z : Z}, tiB P t (.sc z) = true → ∃ i, P.info? t = some i ∧ i.size = 1 := fun {t z} h => by
                obtain ⟨_, i, v, h1, h2, _⟩ := ti_sc h; exact ⟨i, h1, h2⟩
              have ht := tget_ok hT hti
              cases ti with
              | st n fs z q => exact (hne _ _ _ _ rfl).elim
              | sl E elem bytes => exact sc (ti_sl' ht)
              | sc z => exact sc ht
              | it k => exact sc (ti_it ht).2
              | bt => exact sc (ti_bt ht).2
              | ss => exact sc (ti_ss ht).2
              | mp kt et => exact sc (ti_mp ht).2.2.2
            · cases hsz
          obtain ⟨i, hi, his⟩ := hszT
          refine wp_skip' (w' := w') ?_ hd ⟨_, h, ⟨ρ, ?_⟩, fun hw => by simp [isWr, hop] at hw⟩
          · have hcs : ¬ ((a.eval v).cells.size ≠ i.size) := by have := hv.1; omega
            simp only [execOp, hop, Instr.storeAt, hpv, Instr.sureAddr, storeVar, Sem.run_bind, Sem.run_pure, Result.andThen_ok, run_szOf w hi]
            rw [if_neg hcs]
            simp only [Result.andThen_ok, h6]
          · refine r.setBlk hg (fun x hx => h8 x fun he => hx ?_) h9 ?_ (fun x hx => hx) (fun x hx => hx)
            · rw [he]; show 0 < (ρ k).2 b; rw [h2]; simp [one]
            · refine ⟨b, _, e, fz, hh, h2, h7, ?_, ?_⟩
              · rcases h4 with h | h
                · exact .inl h
                · exact .inr (by rw [setVs_size]; exact h)
              · rw [Nat.add_zero]
                exact RCs.sets xs _ h5 (by simpa using hv)
        · cases h
      · cases h
    · cases h
  · rename_i T d hop hd
    split at h
    · rename_i kt et hti hg
      obtain ⟨ρ', r1, h1⟩ := r.newMap hg
      refine wp_value (v := .map (some w.heap.size)) (w' := w.alloc (.map #[] 0)) ?_ ⟨_, h, ⟨ρ', ?_⟩, fun _ => KeepW.alloc w _⟩
      · simp [execOp, hop, Instr.makeMap]
      · rw [hd]
        exact RelH.put r1 (v := .c (.own (8 * d))) ⟨dom_insB.2 (.inl rfl), h1.symm⟩ (some d)
    · cases h
  · rename_i T x i d hop hd
    split at h
    · rename_i kt et k t hti hx hi
      split at h
      · rename_i m hg
        have ex := ev x
        rw [hx] at ex
        obtain ⟨hkd, hxv⟩ := ex
        have ei := ev i
        rw [hi] at ei
        obtain ⟨hiv, hih⟩ := RL.of_int ei
        obtain ⟨b, es, c, h1, h2, h3, h4⟩ := r.b.blk k _ (getB_mem hg)
        obtain ⟨t1, t2, ⟨ei', t3, t4⟩, _⟩ := ti_mp (tget_ok hT hti)
        have hrun := run_lookup (P := P) t1 t2 t3 t4 h3 h4 (t ())
        refine wp_value (v := .int .i64 (mget (m ()) (t ()))) (w' := w) ?_ ⟨_, h, ⟨ρ, ?_⟩, fun _ => KeepW.refl w⟩
        · simp only [execOp, hop, hxv, h1, hiv, hrun, Sem.run_bind, Result.andThen_ok, Sem.run_pure]
        · rw [hd]
          exact r.put (v := iV .i64 fun _ => mget (m ()) (t ())) (RL.int (t := fun _ => mget (m ()) (t ())) (h4.get _)) (some d)
      · cases h
    · cases h
  · rename_i T x i v hop hd
    split at h
    · rename_i kt et k t u hti hx hi hv
      split at h
      · rename_i m hg
        obtain ⟨hlen, h⟩ := h
        have ex := ev x
        rw [hx] at ex
        obtain ⟨hkd, hxv⟩ := ex
        have ei := ev i
        rw [hi] at ei
        obtain ⟨hiv, hih⟩ := RL.of_int ei
        have eu := ev v
        rw [hv] at eu
        obtain ⟨huv, huh⟩ := RL.of_int eu
        obtain ⟨b, es, c, h1, h2, h3, h4⟩ := r.b.blk k _ (getB_mem hg)
        obtain ⟨t1, t2, _, _⟩ := ti_mp (tget_ok hT hti)
        obtain ⟨es', c', hrun, h5⟩ := run_mapUpdate (P := P) t1 t2 h3 h4 (t ()) (u ()) huh hlen
        have hb : b < w.heap.size := lt_of_aget h3
        have hnew : (w.heap.setIfInBounds b (.map es' c'))[b]? = some (.map es' c') := by rw [Array.getElem?_setIfInBounds, if_pos rfl, if_pos hb]
        have hother : ∀ y, y ≠ b → (w.heap.setIfInBounds b (.map es' c'))[y]? = w.heap[y]? := fun y hy => by rw [Array.getElem?_setIfInBounds, if_neg (Ne.symm hy)]
        refine wp_skip' (w' := { w with heap := w.heap.setIfInBounds b (.map es' c') }) ?_ hd ⟨_, h, ⟨ρ, ?_⟩, fun hw => by simp [isWr, hop] at hw⟩
        · simp only [execOp, hop, hxv, h1, hiv, huv, hrun, Sem.run_bind, Result.andThen_ok, Sem.run_pure]
        · refine r.setBlk hg (fun y hy => hother y fun he => hy ?_) (Ext.of (by simp) rfl rfl (frozen_map fun y => ?_)) ?_ (fun x hx => hx) (fun x hx => hx)
          · rw [he]; show 0 < (ρ k).2 b; rw [h2]; simp [one]
          · by_cases hy : y = b
            · subst hy; exact .inr ⟨es', c', hnew, .inr ⟨es, c, h3⟩⟩
            · exact .inl (hother y hy)
          · exact ⟨b, es', c', h1, h2, hnew, h5⟩
      · cases h
    · cases h
  · rename_i c d hop hd
    split at h
    · rename_i x T hcal hx hTt
      split at h
      · rename_i kt et k hti hxv
        split at h
        · rename_i m hg
          have ex := ev x
          rw [hxv] at ex
          obtain ⟨hkd, hxv'⟩ := ex
          obtain ⟨b, es, cc, h1, h2, h3, h4⟩ := r.b.blk k _ (getB_mem hg)
          obtain ⟨t1, _, _, _⟩ := ti_mp (tget_ok hT hti)
          have e1 : c.args = #[x] := by rw [← Array.toList_inj]; simpa using hx
          have e2 : c.argTypes = #[T] := by rw [← Array.toList_inj]; simpa using hTt
          have hg' : (getObj b).run P w = .ok (.map es cc) w := by simp [getObj, Sem.run, h3]
          have hle := h4.le
          refine wp_value (v := .int .i64 ((m ()).length : Int)) (w' := w) ?_ ⟨_, h, ⟨ρ, ?_⟩, fun _ => KeepW.refl w⟩
          · simp [execOp, hop, resolve, hcal, e1, e2, invoke, builtin, Builtin.len_, run_und w t1, hxv', h1, hg', h4.size, goInt]
          · rw [hd]
            exact r.put (v := iV .i64 fun _ => ((m ()).length : Int)) (RL.int (t := fun _ => (((m ()).length : Nat) : Int)) (has_i64.2 (by omega))) (some d)
        · cases h
      · cases h
    · cases h
  · cases h
end
end Go.Proofs.Ytlochjpjlhkjaaa
namespace Go.Proofs.Ytlochjpjlhkjaaa
open Go
def segN (n sz : Nat) (S : Nat → Nat → Nat → Nat) (x : Nat) : Nat := sumN n fun i => sumN sz fun j => S i j x
def Seg (h : Array Obj) (E : ETy) (xs : List E.α) (cs : Nat → Value) (S : Nat → Nat → Nat → Nat) : Prop :=
  ∀ i x, xs[i]? = some x → ∀ j l, (cellsT E fun _ => x)[j]? = some l → OwnL h l (cs (i * E.sz + j)) (S i j)
def glue {α : Type} (n : Nat) (f g : Nat → α) : Nat → α := fun i => if i < n then f i else g (i - n)
theorem sumN_app {n m : Nat} {f : Nat → Nat} : sumN (n + m) f = sumN n f + sumN m fun i => f (n + i) := by
  induction m with
  | zero => simp [sumN]
  | succ m ih => rw [← Nat.add_assoc]; simp only [sumN, ih]; omega
theorem segN_glue {n m sz : Nat} {S T : Nat → Nat → Nat → Nat} {x : Nat} : segN (n + m) sz (glue n S T) x = segN n sz S x + segN m sz T x := by
  unfold segN
  rw [sumN_app]
  congr 1
  · exact sumN_congr fun i hi => by simp [glue, hi]
  · exact sumN_congr fun i _ => by simp only [glue, if_neg (Nat.not_lt.2 (Nat.le_add_right n i)), Nat.add_sub_cancel_left]
theorem segN_in {n sz : Nat} {S : Nat → Nat → Nat → Nat} {i j x : Nat} (hi : i < n) (hj : j < sz) : S i j x ≤ segN n sz S x :=
  Nat.le_trans (sumN_pos (f := fun j => S i j x) hj) (sumN_pos (f := fun i => sumN sz fun j => S i j x) hi)
theorem cell_lt {E : ETy} {x : E.α} {j : Nat} {l : Lf} (h : (cellsT E fun _ => x)[j]? = some l) : j < E.sz := by
  have := lt_of_get h; rwa [cellsT_len] at this
theorem cell_idx {i j n sz : Nat} (hi : i < n) (hj : j < sz) : i * sz + j < n * sz := by
  have : (i + 1) * sz ≤ n * sz := Nat.mul_le_mul_right _ hi
  rw [Nat.add_mul] at this
  omega
section
variable {h h' : Array Obj} {E : ETy} {xs ys : List E.α} {cs ds : Nat → Value} {S T : Nat → Nat → Nat → Nat}
theorem Seg.mono (hs : Seg h E xs cs S) (hk : ∀ x, 0 < segN xs.length E.sz S x → h'[x]? = h[x]?) : Seg h' E xs cs S := fun i x hx j l hj =>
  (hs i x hx j l hj).mono fun b hb => hk b (Nat.lt_of_lt_of_le hb (segN_in (lt_of_get hx) (cell_lt hj)))
theorem Seg.cells (hs : Seg h E xs cs S) (hc : ∀ q, q < xs.length * E.sz → ds q = cs q) : Seg h E xs ds S := fun i x hx j l hj => by
  rw [hc _ (cell_idx (lt_of_get hx) (cell_lt hj))]
  exact hs i x hx j l hj
theorem Seg.glue (hs : Seg h E xs cs S) (ht : Seg h E ys ds T) : Seg h E (xs ++ ys) (glue (xs.length * E.sz) cs ds) (glue xs.length S T) := fun i x hx j l hj => by
  rcases Nat.lt_or_ge i xs.length with hi | hi
  · rw [List.getElem?_append_left hi] at hx
    simp only [Go.Proofs.Ytlochjpjlhkjaaa.glue, hi, if_true, cell_idx hi (cell_lt hj)]
    exact hs i x hx j l hj
  · rw [List.getElem?_append_right hi] at hx
    have h1 : ¬ i * E.sz + j < xs.length * E.sz := by have := Nat.mul_le_mul_right E.sz hi; omega
    simp only [Go.Proofs.Ytlochjpjlhkjaaa.glue, if_neg (Nat.not_lt.2 hi), if_neg h1]
    have h2 : i * E.sz + j - xs.length * E.sz = (i - xs.length) * E.sz + j := by rw [Nat.sub_mul]; have := Nat.mul_le_mul_right E.sz hi; omega
    rw [h2]
    exact ht _ x hx j l hj
theorem Seg.nil : Seg h E [] cs S := fun i x hx => by simp at hx
theorem Seg.own {b off c : Nat} {vs : Array Value} {e : TypeId} {fz : Nat × Nat} (hs : Seg h E xs (fun q => vs.getD (off + q) Go.undef) S) (hb : h[b]? = some (.cells vs e fz)) (hf : NF vs fz)
    (hl : xs.length ≤ c) (hm : xs.length ≤ maxL) (ho : off + c * E.sz ≤ vs.size) : OwnL h (.list E fun _ => xs) (.slice (some ⟨b, off, none⟩) xs.length c) (cnt b xs.length E.sz S) :=
  .list (t := fun _ => xs) S hb hf hl hm ho fun i x hx j l hj => by have := hs i x hx j l hj; rwa [Nat.add_assoc]
theorem OwnL.seg {xs : Unit → List E.α} {v : Value} {p : Nat → Nat} (ho : OwnL h (.list E xs) v p) :
    (v = .slice none 0 0 ∧ xs () = [] ∧ p = fun _ => 0) ∨
    ∃ b off c vs e fz S, v = .slice (some ⟨b, off, none⟩) (xs ()).length c ∧ p = cnt b (xs ()).length E.sz S ∧ h[b]? = some (.cells vs e fz) ∧ NF vs fz ∧ (xs ()).length ≤ c ∧ (xs ()).length ≤ maxL ∧
      off + c * E.sz ≤ vs.size ∧ Seg h E (xs ()) (fun q => vs.getD (off + q) Go.undef) S := by
  cases ho with
  | nil h0 => exact .inl ⟨rfl, h0, rfl⟩
  | list S hb hf hl hm hoff hc =>
    exact .inr ⟨_, _, _, _, _, _, S, rfl, rfl, hb, hf, hl, hm, hoff, fun i x hx j l hj => by have := hc i x hx j l hj; rwa [Nat.add_assoc] at this⟩
end
def killL : List (Nat × Blk) → List Nat → List (Nat × Blk)
  | bs, [] => bs
  | bs, k :: ks => killL (setB bs k .dead) ks
def updL : Rho → List Nat → Rho
  | ρ, [] => ρ
  | ρ, k :: ks => updL (upd ρ k ((ρ k).1, fun _ => 0)) ks
theorem updL_fst : ∀ {ks : List Nat} {ρ : Rho} {k : Nat}, (updL ρ ks k).1 = (ρ k).1
  | [], _, _ => rfl
  | j :: ks, ρ, k => by
    simp only [updL, updL_fst (ks := ks)]
    by_cases h : k = j
    · subst h; rw [upd_same]
    · rw [upd_other h]
theorem updL_other : ∀ {ks : List Nat} {ρ : Rho} {k : Nat}, k ∉ ks → updL ρ ks k = ρ k
  | [], _, _, _ => rfl
  | j :: ks, ρ, k, h => by
    simp only [List.mem_cons, not_or] at h
    simp only [updL, updL_other (ks := ks) h.2, upd_other h.1]
theorem dom_killL {k : Nat} : ∀ {ks : List Nat} {bs : List (Nat × Blk)}, dom (killL bs ks) k ↔ dom bs k
  | [], _ => Iff.rfl
  | j :: ks, bs => by simp only [killL, dom_killL (ks := ks), dom_setB]
theorem getB_setB_none {bs : List (Nat × Blk)} {k j : Nat} {B : Blk} (h : getB bs k = none) : getB (setB bs j B) k = none := by
  cases hg : getB (setB bs j B) k with
  | none => rfl
  | some A => exact (getB_none h (dom_setB.1 (getB_dom hg))).elim
theorem getB_killL_none {k : Nat} : ∀ {ks : List Nat} {bs : List (Nat × Blk)}, getB bs k = none → getB (killL bs ks) k = none
  | [], _, h => h
  | _ :: ks, _, h => getB_killL_none (ks := ks) (getB_setB_none h)
section
variable {Γ : Ctx} {H : Hp} {ρ : Rho} {σ : SS} {a : Act} {w w' : World}
theorem RelH.kill (r : RelH Γ H ρ σ a w) {k : Nat} (hk : dom σ.blk k) : RelH Γ H (upd ρ k ((ρ k).1, fun _ => 0)) { σ with blk := setB σ.blk k .dead } a w := by
  have e : dom (setB σ.blk k .dead) = dom σ.blk := by funext j; exact propext dom_setB
  have hf : ∀ j, (upd ρ k ((ρ k).1, fun _ => 0) j).1 = (ρ j).1 := fun j => by
    by_cases h : j = k
    · subst h; rw [upd_same]
    · rw [upd_other h]
  have g : Grow H H ρ (upd ρ k ((ρ k).1, fun _ => 0)) (dom σ.blk) (dom (setB σ.blk k .dead)) := ⟨fun _ _ h => h, fun j hj => ⟨dom_setB.2 hj, hf j⟩⟩
  refine ⟨⟨fun j hj => by rw [hf]; exact r.b.oc j (dom_setB.1 hj), by rw [keys_setB]; exact r.b.nd, r.b.h0, r.b.hh, fun j A hj => ?_, fun x => ?_, fun j A hj x hx => ?_, fun j A hj x hx => ?_⟩, r.e.grow g, r.d, r.n, fun p hp => ?_, fun p hp => ⟨dom_setB.2 (r.hm p hp).1, by rw [hf]; exact (r.hm p hp).2⟩⟩
  · rcases mem_setB r.b.nd hj with ⟨rfl, rfl⟩ | ⟨hne, hj⟩
    · rw [upd_same]; rfl
    · rw [upd_other hne]; exact (r.b.blk j A hj).mono g fun _ _ => rfl
  · have h1 := tot_setB (ρ := ρ) (ρ' := upd ρ k ((ρ k).1, fun _ => 0)) r.b.nd (B := .dead) hk (fun j hj => upd_other hj) x
    rw [upd_same] at h1
    have := r.b.sum x
    show tot _ (setB σ.blk k .dead) x ≤ 1
    simp only [Nat.add_zero] at h1
    omega
  · rcases mem_setB r.b.nd hj with ⟨rfl, rfl⟩ | ⟨hne, hj⟩
    · rw [upd_same] at hx; simp at hx
    · rw [upd_other hne] at hx; exact r.b.fresh j A hj x hx
  · rcases mem_setB r.b.nd hj with ⟨rfl, rfl⟩ | ⟨hne, hj⟩
    · cases hx
    · rw [upd_other hne] at hx; exact r.b.tops j A hj x hx
  · obtain ⟨h1, h2⟩ := r.hd p hp
    refine ⟨dom_setB.2 h1, by rw [hf]; exact h2.1, fun x => ?_⟩
    by_cases h : p.1 = k
    · rw [h, upd_same]; exact Nat.zero_le _
    · rw [upd_other h]; exact h2.2 x
theorem RelH.killL : ∀ {ks : List Nat} {ρ : Rho} {σ : SS}, RelH Γ H ρ σ a w → (∀ k ∈ ks, dom σ.blk k) → RelH Γ H (updL ρ ks) { σ with blk := killL σ.blk ks } a w
  | [], _, _, r, _ => r
  | k :: ks, _, _, r, hd => RelH.killL (ks := ks) (r.kill (hd k List.mem_cons_self)) fun j hj => dom_setB.2 (hd j (List.mem_cons_of_mem _ hj))
theorem tot_killL : ∀ {ks : List Nat} {ρ : Rho} {bs : List (Nat × Blk)} {x : Nat}, (bs.map (·.1)).Nodup → nodupB ks = true → (∀ k ∈ ks, dom bs k) → tot (updL ρ ks) (Go.Proofs.Ytlochjpjlhkjaaa.killL bs ks) x + sumK ρ ks x = tot ρ bs x
  | [], _, _, _, _, _, _ => by simp [updL, Go.Proofs.Ytlochjpjlhkjaaa.killL, sumK]
  | k :: ks, ρ, bs, x, hn, hd, hk => by
    obtain ⟨h1, h2⟩ := nodupB_cons hd
    have ih := tot_killL (ks := ks) (ρ := upd ρ k ((ρ k).1, fun _ => 0)) (bs := setB bs k .dead) (x := x) (by rw [keys_setB]; exact hn) h2 fun j hj => dom_setB.2 (hk j (List.mem_cons_of_mem _ hj))
    have h3 := tot_setB (ρ := ρ) (ρ' := upd ρ k ((ρ k).1, fun _ => 0)) hn (B := .dead) (hk k List.mem_cons_self) (fun j hj => upd_other hj) x
    rw [upd_same] at h3
    have h4 : sumK (upd ρ k ((ρ k).1, fun _ => 0)) ks x = sumK ρ ks x := by
      have : ∀ {ks : List Nat}, k ∉ ks → sumK (upd ρ k ((ρ k).1, fun _ => 0)) ks x = sumK ρ ks x := by
        intro ks
        induction ks with
        | nil => intro _; rfl
        | cons j ks ih =>
          intro h
          simp only [List.mem_cons, not_or] at h
          simp only [sumK, ih h.2, upd_other (Ne.symm h.1)]
      exact this h1
    simp only [updL, Go.Proofs.Ytlochjpjlhkjaaa.killL, sumK]
    simp only [Nat.add_zero] at h3
    omega
theorem sumK_pos {ρ : Rho} {x : Nat} : ∀ {ks : List Nat}, 0 < sumK ρ ks x → ∃ k ∈ ks, 0 < (ρ k).2 x
  | [], h => by simp [sumK] at h
  | k :: ks, h => by
    rcases Nat.eq_zero_or_pos ((ρ k).2 x) with h0 | h0
    · have h : 0 < (ρ k).2 x + sumK ρ ks x := h
      rw [h0, Nat.zero_add] at h
      obtain ⟨j, hj, h1⟩ := sumK_pos (ks := ks) h
      exact ⟨j, List.mem_cons_of_mem _ hj, h1⟩
    · exact ⟨k, List.mem_cons_self, h0⟩
theorem unlent_get : ∀ {ks : List Nat} {bs : List (Nat × Blk)}, unlent bs ks = true → ∀ k ∈ ks, ∃ E xs, getB bs k = some (.own E xs false)
  | [], _, _, k, hk => by cases hk
  | j :: ks, bs, h, k, hk => by
    simp only [unlent, Bool.and_eq_true] at h
    cases hk with
    | head =>
      cases hg : getB bs j with
      | none => simp [hg] at h
      | some B =>
        cases B with
        | own E xs l => cases l with
          | false => exact ⟨E, xs, rfl⟩
          | true => simp [hg] at h
        | dead => simp [hg] at h
        | box cs => simp [hg] at h
        | view E xs => simp [hg] at h
        | hol E xs i fs => simp [hg] at h
        | mp m => simp [hg] at h
    | tail _ hk => exact unlent_get h.2 k hk
theorem RelH.eat (r : RelH Γ H ρ σ a w) {ks : List Nat} (hn : nodupB ks = true) (hu : unlent σ.blk ks = true) {k : Nat} (hk : getB σ.blk k = none) {E : ETy} {xs : Unit → List E.α} {p : Value × (Nat → Nat)}
    (hh : ∀ x, x < w.heap.size → sumK ρ ks x = 0 → w'.heap[x]? = w.heap[x]?) (hsz : Ext w w') (hown : OwnL w'.heap (.list E xs) p.1 p.2) (hone : p.1.oneCell' = true)
    (hp : ∀ x, x < w.heap.size → p.2 x ≤ sumK ρ ks x) (hp' : ∀ x, w.heap.size ≤ x → p.2 x ≤ 1) :
    ∃ ρ', RelH Γ H ρ' { σ with blk := insB (Go.Proofs.Ytlochjpjlhkjaaa.killL σ.blk ks) k (.own E xs false) } a w' ∧ (ρ' k).1 = p.1 ∧ ∀ j, j ≠ k → (ρ' j).1 = (ρ j).1 := by
  have hd : ∀ j ∈ ks, dom σ.blk j := fun j hj => by obtain ⟨E, xs, hg⟩ := unlent_get hu j hj; exact getB_dom hg
  have r1 := r.killL hd
  have hsum := fun x => tot_killL (ρ := ρ) (x := x) r.b.nd hn hd
  have hHn : ∀ x, 0 < sumK ρ ks x → H x = none := fun x hx => by
    obtain ⟨j, hj, h1⟩ := sumK_pos hx
    obtain ⟨E, xs, hg⟩ := unlent_get hu j hj
    exact r.b.tops j _ (getB_mem hg) x h1
  refine ⟨upd (updL ρ ks) k p, r1.new' (getB_killL_none hk) (fun b o hb => ?_) (fun b hb => ?_) hsz hone (fun x hx => ?_) (fun x => ?_) hown (by simp), by rw [upd_same], fun j hj => by rw [upd_other hj, updL_fst]⟩
  · refine hh b (lt_of_aget (r.b.hh b o hb)) ?_
    rcases Nat.eq_zero_or_pos (sumK ρ ks b) with h | h
    · exact h
    · rw [hHn b h] at hb; cases hb
  · have h1 := hsum b
    have h2 := r.b.sum b
    have hb' : 0 < tot (updL ρ ks) (Go.Proofs.Ytlochjpjlhkjaaa.killL σ.blk ks) b := hb
    exact hh b (r.lt (by omega)) (by omega)
  · rcases Nat.lt_or_ge x w.heap.size with h | h
    · have h1 := hp x h
      have h2 := hsum x
      have h3 := r.b.sum x
      exact ⟨hHn x (by omega), by simp only; omega⟩
    · have h1 := r.none_above h
      have h2 := hsum x
      exact ⟨h1.1, by simp only; omega⟩
  · rcases Nat.lt_or_ge x w.heap.size with h | h
    · have h1 := hp x h
      have h2 := hsum x
      have h3 := r.b.sum x
      omega
    · exact hp' x h
end
end Go.Proofs.Ytlochjpjlhkjaaa
namespace Go.Proofs.Ytlochjpjlhkjaaa
open Go
def flatE : ETy → Bool
  | .spk => false
  | .cab => false
  | .rep => false
  | _ => true
def castL : (E E' : ETy) → (Unit → List E'.α) → Option (Unit → List E.α)
  | .int, .int, t => some t
  | .byte, .byte, t => some t
  | .str, .str, t => some t
  | .pin, .pin, t => some t
  | .ent, .ent, t => some t
  | .pty, .pty, t => some t
  | .spk, .spk, t => some t
  | .cab, .cab, t => some t
  | .req, .req, t => some t
  | .rep, .rep, t => some t
  | _, _, _ => none
theorem castL_ok {E E' : ETy} {t : Unit → List E'.α} {u : Unit → List E.α} (h : castL E E' t = some u) : Lf.list E' t = Lf.list E u := by
  cases E <;> cases E' <;> simp only [castL, Option.some.injEq, reduceCtorEq] at h <;> subst h <;> rfl
def listV (bs : List (Nat × Blk)) (E : ETy) : V → Option ((Unit → List E.α) × List Nat)
  | .c .nil => some (fun _ => [], [])
  | .c (.own k) => match getB bs k with
    | some (.own E' xs false) => (match castL E E' xs with | some ys => some (ys, [k]) | none => none)
    | _ => none
  | _ => none
def srcL (bs : List (Nat × Blk)) (E : ETy) : V → Option ((Unit → List E.α) × List Nat)
  | .c (.lf (.list E' t)) => if flatE E = true then (match castL E E' t with | some ys => some (ys, []) | none => none) else none
  | .c (.own k) => if flatE E = true then (match getB bs k with
      | some (.own E' xs _) => (match castL E E' xs with | some ys => some (ys, []) | none => none)
      | _ => none) else listV bs E (.c (.own k))
  | v => listV bs E v
def srcA (tab : Tab) (T : TypeId) (bs : List (Nat × Blk)) (E : ETy) (v : V) : Option ((Unit → List E.α) × List Nat) :=
  match tget tab T with
  | some (.sl _ _ _) => srcL bs E v
  | some .ss => (match E, v with
    | .byte, .c (.lf (.str t)) => some (t, [])
    | _, _ => none)
  | _ => none
theorem flat_cells {E : ETy} (hf : flatE E = true) {x : E.α} {j : Nat} {l : Lf} (h : (cellsT E fun _ => x)[j]? = some l) : l.sc = true := by
  have hm := List.mem_of_getElem? h
  cases E <;> simp only [flatE, Bool.false_eq_true] at hf <;> simp only [cellsT, List.mem_cons, List.not_mem_nil, or_false] at hm
  case int => subst hm; rfl
  case byte => subst hm; rfl
  case str => subst hm; rfl
  case pin => rcases hm with rfl | rfl <;> rfl
  case ent => rcases hm with rfl | rfl | rfl | rfl <;> rfl
  case pty => rcases hm with rfl | rfl | rfl | rfl | rfl | rfl | rfl | rfl | rfl | rfl <;> rfl
  case req => rcases hm with rfl | rfl | rfl | rfl | rfl | rfl <;> rfl
theorem RL.own_sc {h : Array Obj} {H : Hp} {l : Lf} {v : Value} (hr : RL H l v) (hs : l.sc = true) : OwnL h l v fun _ => 0 := by
  cases hr with
  | int hr => exact .int hr
  | bool => exact .bool
  | str hm => exact .str hm
  | nil h0 => simp [Lf.sc] at hs
  | list hb hl hm ho hc => simp [Lf.sc] at hs
structure News (w : World) (E : ETy) (xs : List E.α) (v : Value) (news : List Value) (S : Nat → Nat → Nat → Nat) : Prop where
  len : news.length = xs.length * E.sz
  one : ∀ u ∈ news, u.oneCell' = true
  seg : Seg w.heap E xs (fun q => news.getD q Go.undef) S
  val : (∃ a c, v = .slice a 0 c ∧ xs = []) ∨ ∃ b off c, v = .slice (some ⟨b, off, none⟩) xs.length c ∧ ∀ j u, news[j]? = some u → w.cell? ⟨b, off + j, none⟩ = some u
theorem seg_one {h : Array Obj} {E : ETy} {xs : List E.α} {cs : Nat → Value} {S : Nat → Nat → Nat → Nat} (hs : Seg h E xs cs S) {q : Nat} (hq : q < xs.length * E.sz) : (cs q).oneCell' = true := by
  have hp := sz_pos E
  have hi : q / E.sz < xs.length := Nat.div_lt_of_lt_mul (by rw [Nat.mul_comm]; exact hq)
  have hj : q % E.sz < E.sz := Nat.mod_lt _ hp
  have h1 := hs (q / E.sz) _ (List.getElem?_eq_getElem hi) (q % E.sz) _ (List.getElem?_eq_getElem (by rw [cellsT_len]; exact hj))
  rw [Nat.mul_comm, Nat.div_add_mod] at h1
  exact h1.one
theorem News.of {w : World} {E : ETy} {xs : List E.α} {b off c : Nat} {vs : Array Value} {e : TypeId} {fz : Nat × Nat} {S : Nat → Nat → Nat → Nat} (hb : w.heap[b]? = some (.cells vs e fz)) (ho : off + xs.length * E.sz ≤ vs.size)
    (hs : Seg w.heap E xs (fun q => vs.getD (off + q) Go.undef) S) : ∃ news, News w E xs (.slice (some ⟨b, off, none⟩) xs.length c) news S := by
  have hg : ∀ q, q < xs.length * E.sz → (vs.extract off (off + xs.length * E.sz)).toList[q]? = some (vs.getD (off + q) Go.undef) := fun q hq => by
    rw [Array.getElem?_toList, Array.getElem?_extract, if_pos (by omega)]
    exact getD_some (by omega)
  have hl : (vs.extract off (off + xs.length * E.sz)).toList.length = xs.length * E.sz := by simp; omega
  refine ⟨(vs.extract off (off + xs.length * E.sz)).toList, hl, fun u hu => ?_, hs.cells fun q hq => ?_, .inr ⟨b, off, c, rfl, fun j u hj => ?_⟩⟩
  · obtain ⟨q, hq, rfl⟩ := List.getElem_of_mem hu
    rw [hl] at hq
    have h1 := hg q hq
    rw [List.getElem?_eq_getElem (by rw [hl]; exact hq)] at h1
    rw [Option.some.inj h1]
    exact seg_one hs hq
  · rw [List.getD_eq_getElem?_getD, hg q hq]; rfl
  · have hq : j < xs.length * E.sz := by rw [← hl]; exact lt_of_get hj
    rw [hg j hq] at hj
    cases hj
    exact cell_of hb (getD_some (by omega))
theorem RL.seg {H : Hp} {h : Array Obj} {E : ETy} {t : Unit → List E.α} {v : Value} (hr : RL H (.list E t) v) (hh : ∀ b o, H b = some o → h[b]? = some o) (hf : flatE E = true) :
    (∃ a c, v = .slice a 0 c ∧ t () = []) ∨ ∃ b off c vs e fz, v = .slice (some ⟨b, off, none⟩) (t ()).length c ∧ h[b]? = some (.cells vs e fz) ∧ off + (t ()).length * E.sz ≤ vs.size ∧
      (t ()).length ≤ maxL ∧ Seg h E (t ()) (fun q => vs.getD (off + q) Go.undef) fun _ _ _ => 0 := by
  cases hr with
  | nil h0 => exact .inl ⟨_, _, rfl, h0⟩
  | list hb hl hm ho hc => exact .inr ⟨_, _, _, _, _, _, rfl, hh _ _ hb, ho, hm, fun i x hx j l hj => by
      have := (hc i x hx j l hj).own_sc (h := h) (flat_cells hf hj)
      rwa [Nat.add_assoc] at this⟩
theorem OwnL.sc0 {h : Array Obj} {l : Lf} {v : Value} {S : Nat → Nat} (ho : OwnL h l v S) (hs : l.sc = true) : OwnL h l v fun _ => 0 := by
  cases ho with
  | int hr => exact .int hr
  | bool => exact .bool
  | str hm => exact .str hm
  | nil h0 => simp [Lf.sc] at hs
  | list => simp [Lf.sc] at hs
theorem Seg.flat {h : Array Obj} {E : ETy} {xs : List E.α} {cs : Nat → Value} {S : Nat → Nat → Nat → Nat} (hs : Seg h E xs cs S) (hf : flatE E = true) : Seg h E xs cs fun _ _ _ => 0 := fun i x hx j l hj =>
  (hs i x hx j l hj).sc0 (flat_cells hf hj)
theorem News.nil {w : World} {E : ETy} (a : Option Addr) (c : Nat) : News w E [] (.slice a 0 c) [] fun _ _ _ => 0 :=
  ⟨by simp, (fun _ h => by cases h), Seg.nil, .inl ⟨a, c, rfl, rfl⟩⟩
theorem News.src {P : Program} {w : World} {E : ETy} {xs : List E.α} {v : Value} {news : List Value} {S : Nat → Nat → Nat → Nat} (hn : News w E xs v news S) {tx e : TypeId} (hk : P.underlying tx = some (.slice e)) :
    Src P E.sz tx v xs.length news w := by
  rcases hn.val with ⟨a, c, rfl, rfl⟩ | ⟨b, off, c, rfl, h⟩
  · have : news = [] := by have := hn.len; simpa using this
    subst this
    cases a with
    | none => exact Src.ofNil w hk c
    | some a => exact Src.ofSlice w hk a 0 c [] (by simp) (fun j u hj => by simp at hj) fun u hu => by cases hu
  · exact Src.ofSlice w hk _ _ _ news hn.len (fun j u hj => by rw [addr_add]; exact h j u hj) hn.one
structure NewsS (P : Program) (w : World) (E : ETy) (xs : List E.α) (tx : TypeId) (v : Value) (news : List Value) (S : Nat → Nat → Nat → Nat) : Prop where
  len : news.length = xs.length * E.sz
  one : ∀ u ∈ news, u.oneCell' = true
  seg : Seg w.heap E xs (fun q => news.getD q Go.undef) S
  src : Src P E.sz tx v xs.length news w
theorem News.toS {P : Program} {w : World} {E : ETy} {xs : List E.α} {v : Value} {news : List Value} {S : Nat → Nat → Nat → Nat} (hn : News w E xs v news S) {tx e : TypeId} (hk : P.underlying tx = some (.slice e)) : NewsS P w E xs tx v news S :=
  ⟨hn.len, hn.one, hn.seg, hn.src hk⟩
theorem NewsS.str {P : Program} {w : World} {tx : TypeId} (hk : P.underlying tx = some .string) (s : List UInt8) : NewsS P w .byte s tx (.string ⟨s.toArray⟩) (byteCells ⟨s.toArray⟩) fun _ _ _ => 0 := by
  have hs := Src.ofString (P := P) w hk ⟨s.toArray⟩
  have hb : byteCells ⟨s.toArray⟩ = s.map fun b => Value.int .u8 b.toNat := by simp [byteCells]
  have hz : (⟨s.toArray⟩ : ByteArray).size = s.length := by simp [ByteArray.size]
  rw [hz] at hs
  refine ⟨by rw [hb]; simp [ETy.sz], hs.one, fun i x hx j l hj => ?_, hs⟩
  simp only [cellsT] at hj
  cases j with
  | succ j => simp at hj
  | zero =>
    simp at hj
    subst hj
    rw [hb]
    simp only [ETy.sz, Nat.mul_one, Nat.add_zero]
    have : (s.map fun b => Value.int .u8 b.toNat).getD i Go.undef = .int .u8 ((x.toNat : Nat) : Int) := by
      rw [List.getD_eq_getElem?_getD, List.getElem?_map, hx]; rfl
    rw [this]
    refine OwnL.int (t := fun _ => ((x.toNat : Nat) : Int)) ?_
    have := UInt8.toNat_lt x
    simp [IntKind.has, IntKind.min, IntKind.max, IntKind.signed, IntKind.bits]
    omega
theorem setVs_get : ∀ (us : List Value) (vs : Array Value) (o q : Nat), o + us.length ≤ vs.size → (setVs vs o us).getD q Go.undef = if o ≤ q ∧ q < o + us.length then us.getD (q - o) Go.undef else vs.getD q Go.undef
  | [], vs, o, q, _ => by
    have : ¬ (o ≤ q ∧ q < o + ([] : List Value).length) := by simp only [List.length_nil]; omega
    rw [if_neg this]; rfl
  | u :: us, vs, o, q, h => by
    simp only [List.length_cons] at h
    simp only [setVs]
    rw [setVs_get us _ (o + 1) q (by simp; omega)]
    by_cases h1 : o + 1 ≤ q ∧ q < o + 1 + us.length
    · rw [if_pos h1, if_pos (by simp only [List.length_cons]; omega), show q - o = (q - (o + 1)) + 1 by omega]
      simp
    · rw [if_neg h1]
      by_cases h2 : q = o
      · subst h2
        rw [if_pos (by simp only [List.length_cons]; omega)]
        simp [Array.getD_eq_getD_getElem?, show q < vs.size by omega]
      · rw [if_neg (by simp only [List.length_cons]; omega)]
        simp [Array.getD_eq_getD_getElem?, Ne.symm h2]
theorem run_append {P : Program} {w : World} {E : ETy} {xs ys : List E.α} {vx vy : Value} {px : Nat → Nat} {T T2 e ty : TypeId} {i : TypeInfo} {z : Value} {news : List Value} {S2 : Nat → Nat → Nat → Nat} {py : Nat → Nat}
    (hx : OwnL w.heap (.list E fun _ => xs) vx px) (hy : NewsS P w E ys T2 vy news S2) (hpy : ∀ x, segN ys.length E.sz S2 x ≤ py x) (hone : ∀ x, px x + py x ≤ 1) (hthere : ∀ x, 0 < px x + py x → x < w.heap.size)
    (ht : P.underlying T = some (.slice e)) (hi : P.info? e = some i) (hz : i.zero = some z) (hsz : i.size = E.sz) (hzs : z.cells.size = E.sz) (hb0 : 0 < i.bytes)
    (hfit : (xs.length + ys.length) * i.bytes ≤ 140737488355328) :
    ∃ v p w', (Builtin.append_ #[T, T2] ty #[vx, vy]).run P w = .ok v w' ∧ OwnL w'.heap (.list E fun _ => xs ++ ys) v p ∧ Ext w w' ∧ (∀ x, x < w.heap.size → px x = 0 → w'.heap[x]? = w.heap[x]?) ∧
      (∀ x, x < w.heap.size → p x ≤ px x + py x) ∧ ∀ x, w.heap.size ≤ x → p x ≤ 1 := by
  have hs := hy.src
  have hlen : xs.length + ys.length ≤ maxL := by
    have : xs.length + ys.length ≤ (xs.length + ys.length) * i.bytes := Nat.le_mul_of_pos_right _ hb0
    unfold maxL; omega
  have h63 : ((xs.length + ys.length : Nat) : Int) ≤ 9223372036854775807 := by unfold maxL at hlen; omega
  rw [← hsz] at hs
  have hsegY := hy.seg
  have grow : ∀ (base : Option Addr) (n cap : Nat) (olds : List Value) (S : Nat → Nat → Nat → Nat), n = xs.length → vx = .slice base n cap → cap < n + ys.length → olds.length = xs.length * E.sz →
      (Builtin.firstCells i.size n (.slice base n cap)).run P w.drew = .ok olds.toArray w.drew → Seg w.heap E xs (fun q => olds.getD q Go.undef) S → (∀ x, segN xs.length E.sz S x ≤ px x) →
      ∃ v p w', (Builtin.append_ #[T, T2] ty #[vx, vy]).run P w = .ok v w' ∧ OwnL w'.heap (.list E fun _ => xs ++ ys) v p ∧ Ext w w' ∧ (∀ x, x < w.heap.size → px x = 0 → w'.heap[x]? = w.heap[x]?) ∧
      (∀ x, x < w.heap.size → p x ≤ px x + py x) ∧ ∀ x, w.heap.size ≤ x → p x ≤ 1 := by
    intro base n cap olds S hn hv hg hol hold hseg hpx
    subst hn
    have hrun := run_append_grow_src (P := P) w T T2 ty e i z ht hi hz base xs.length cap olds hold vy ys.length news hs hg h63 (growslice_fits hg hfit)
    have hcap := grownCap_ge w (xs.length + ys.length) cap e
    generalize grownCap w (xs.length + ys.length) cap e = C at hrun hcap
    generalize hcells : (olds ++ news).toArray ++ Builtin.zeroCells z.cells (C - (xs.length + ys.length)) = cells at hrun
    have hcs : cells.size = C * E.sz := by
      rw [← hcells]
      simp only [Array.size_append, List.size_toArray, List.length_append, Builtin.zeroCells, Array.size_map, Array.size_range, hzs, hol, hy.len]
      rw [← Nat.add_mul, ← Nat.add_mul]
      congr 1; omega
    have hget : ∀ q, q < (xs ++ ys).length * E.sz → cells.getD (0 + q) Go.undef = glue (xs.length * E.sz) (fun q => olds.getD q Go.undef) (fun q => news.getD q Go.undef) q := by
      intro q hq
      rw [List.length_append, Nat.add_mul] at hq
      rw [Nat.zero_add, ← hcells, Array.getD_eq_getD_getElem?, Array.getElem?_append_left (by simp [hol, hy.len]; omega), List.getElem?_toArray]
      simp only [glue]
      split
      · rename_i h
        rw [List.getElem?_append_left (by omega), List.getD_eq_getElem?_getD]
      · rename_i h
        rw [List.getElem?_append_right (by omega), List.getD_eq_getElem?_getD, hol]
    have hseg' : Seg (w.heap.push (.cells cells e)) E (xs ++ ys) (fun q => cells.getD (0 + q) Go.undef) (glue xs.length S S2) := by
      refine Seg.cells ((hseg.glue hsegY).mono fun x hx => ?_) hget
      rw [List.length_append, segN_glue] at hx
      have h1 := hpx x
      have h2 := hpy x
      have h3 := hthere x (by omega)
      rw [Array.getElem?_push, if_neg (Nat.ne_of_lt h3)]
    refine ⟨_, cnt w.heap.size (xs ++ ys).length E.sz (glue xs.length S S2), w.drew.alloc (.cells cells e), by rw [hv]; exact hrun, ?_, (Ext.of (w := w) (w' := w.drew) (Nat.le_refl _) rfl rfl fun _ => rfl).trans (alloc_ext w.drew _ _), fun x hx _ => ?_, fun x hx => ?_, fun x hx => ?_⟩
    · have := hseg'.own (b := w.heap.size) (off := 0) (c := C) (vs := cells) (e := e) (fz := (0, 0)) (by simp) (NF_zero _) (by rw [List.length_append]; exact hcap) (by rw [List.length_append]; exact hlen) (by omega)
      rw [← List.length_append]
      exact this
    · show (w.heap.push _)[x]? = _
      rw [Array.getElem?_push, if_neg (Nat.ne_of_lt hx)]
    · have h1 := hpx x
      have h2 := hpy x
      have : cnt w.heap.size (xs ++ ys).length E.sz (glue xs.length S S2) x = 0 + segN (xs.length + ys.length) E.sz (glue xs.length S S2) x := by
        rw [← List.length_append]; simp only [cnt, segN]; rw [if_neg (Nat.ne_of_lt hx)]
      rw [this, segN_glue]
      omega
    · have h1 := hpx x
      have h2 := hpy x
      have h3 : px x + py x = 0 := by
        rcases Nat.eq_zero_or_pos (px x + py x) with h | h
        · exact h
        · have := hthere x h; omega
      have : cnt w.heap.size (xs ++ ys).length E.sz (glue xs.length S S2) x ≤ 1 + segN (xs.length + ys.length) E.sz (glue xs.length S S2) x := by
        rw [← List.length_append]; simp only [cnt, segN]; split <;> omega
      rw [segN_glue] at this
      omega
  rcases hx.seg with ⟨hv, h0, hp⟩ | ⟨b, off, c, vs, e', fz, S, hv, hp, hb, hf, hl, hm, ho, hseg⟩
  · subst h0
    rcases Nat.eq_zero_or_pos ys.length with hy0 | hy0
    · have hys : ys = [] := List.length_eq_zero_iff.1 hy0
      subst hys
      have hnews : news = [] := by have := hy.len; simpa using this
      subst hnews
      refine ⟨.slice none 0 0, fun _ => 0, w, ?_, OwnL.nil (t := fun _ => ([] : List E.α) ++ []) rfl, Ext.refl w, fun _ _ _ => rfl, fun _ _ => Nat.zero_le _, fun _ _ => Nat.zero_le _⟩
      rw [hv]
      have hc : (Builtin.firstCells i.size 0 vy).run P w = .ok #[] w := hs.cells
      rcases hs.kind with ⟨e', hk⟩ | hk <;> simp [Builtin.append_, run_underlying ht, run_underlying hk, sizeOf, typeInfo, hi, hs.len, hc]
    · exact grow none 0 0 [] (fun _ _ _ => 0) rfl hv (by omega) (by simp) (run_firstCells_none w.drew i.size 0 0 0) Seg.nil fun x => by simp [segN, sumN]
  · rcases Nat.lt_or_ge c (xs.length + ys.length) with hg | hroom
    · obtain ⟨olds, hN⟩ := News.of (c := c) hb (by have := Nat.mul_le_mul_right E.sz hl; omega) hseg
      refine grow (some ⟨b, off, none⟩) xs.length c olds S rfl hv hg hN.len ?_ hN.seg fun x => ?_
      · rcases hN.val with ⟨a, c', h1, h2⟩ | ⟨b', off', c', h1, h2⟩
        · have : olds = [] := by have := hN.len; rw [h2] at this; simpa using this
          subst this
          rw [h2]
          exact run_firstCells_some w.drew i.size 0 _ _ _ [] (by simp) fun j v hj => by simp at hj
        · simp only [Value.slice.injEq, Option.some.injEq, Addr.mk.injEq, and_true, true_and] at h1
          obtain ⟨⟨rfl, rfl⟩, rfl⟩ := h1
          refine run_firstCells_some w.drew i.size _ _ _ _ olds (by rw [hN.len, hsz]) fun j v hj => ?_
          rw [addr_add]
          exact h2 j v hj
      · rw [hp]; simp only [cnt, segN]; exact Nat.le_add_left _ _
    · -- in place
      have hcap := Nat.mul_le_mul_right E.sz hroom
      rw [Nat.add_mul] at hcap
      obtain ⟨w', g1, g2, g3, g4⟩ := run_storeCells (P := P) news w b (off + xs.length * E.sz) 0 vs e' fz hb hf (by rw [hy.len]; omega) hy.one
      rw [Nat.add_zero] at g2
      have hpb : px b = 1 ∧ segN xs.length E.sz S b = 0 ∧ py b = 0 := by
        have h1 := hone b
        have h2 : px b = 1 + segN xs.length E.sz S b := by rw [hp]; simp [cnt, segN]
        omega
      have hsegX' : Seg w'.heap E xs (fun q => vs.getD (off + q) Go.undef) S := hseg.mono fun x hx => g3 x fun he => by subst he; omega
      have hsegY' : Seg w'.heap E ys (fun q => news.getD q Go.undef) S2 := hsegY.mono fun x hx => g3 x fun he => by subst he; have := hpy x; omega
      have hseg' : Seg w'.heap E (xs ++ ys) (fun q => (setVs vs (off + xs.length * E.sz) news).getD (off + q) Go.undef) (glue xs.length S S2) := by
        refine Seg.cells (hsegX'.glue hsegY') fun q hq => ?_
        rw [List.length_append, Nat.add_mul] at hq
        rw [setVs_get _ _ _ _ (by rw [hy.len]; omega)]
        simp only [glue]
        by_cases h : q < xs.length * E.sz
        · rw [if_pos h, if_neg (by omega)]
        · rw [if_neg h, if_pos (by rw [hy.len]; omega)]
          congr 1; omega
      refine ⟨.slice (some ⟨b, off, none⟩) (xs ++ ys).length c, cnt b (xs ++ ys).length E.sz (glue xs.length S S2), w', ?_, ?_, g4, fun x _ hx => g3 x fun he => by subst he; omega, fun x _ => ?_, fun x hx => ?_⟩
      · rw [hv, List.length_append]
        have hroom' : xs.length + ys.length ≤ c := hroom
        rw [← hsz] at g1
        rcases hs.kind with ⟨e', hk⟩ | hk <;> simp [Builtin.append_, run_underlying ht, run_underlying hk, sizeOf, typeInfo, hi, hs.len, hroom', hs.cells, addr_add, g1]
      · refine hseg'.own g2 ?_ (by rw [List.length_append]; exact hroom) (by rw [List.length_append]; exact hlen) (by rw [setVs_size]; exact ho)
        rcases hf with h | h
        · exact .inl h
        · exact .inr (by rw [setVs_size]; exact h)
      · have h2 := hpy x
        have h3 : cnt b (xs ++ ys).length E.sz (glue xs.length S S2) x = (if x = b then 1 else 0) + segN (xs.length + ys.length) E.sz (glue xs.length S S2) x := by
          rw [← List.length_append]; rfl
        have h4 : px x = (if x = b then 1 else 0) + segN xs.length E.sz S x := by rw [hp]; rfl
        rw [h3, segN_glue]
        omega
      · have h2 := hpy x
        have h5 := hone x
        have h3 : cnt b (xs ++ ys).length E.sz (glue xs.length S S2) x = (if x = b then 1 else 0) + segN (xs.length + ys.length) E.sz (glue xs.length S S2) x := by
          rw [← List.length_append]; rfl
        have h4 : px x = (if x = b then 1 else 0) + segN xs.length E.sz S x := by rw [hp]; rfl
        rw [h3, segN_glue]
        omega
end Go.Proofs.Ytlochjpjlhkjaaa
namespace Go.Proofs.Ytlochjpjlhkjaaa
open Go
def mkCell (bs : List (Nat × Blk)) (z : Z) : C → Option (Lf × List Nat)
  | .lf (.list _ _) => none
  | .lf l => some (l, [])
  | .bl b => some (.bool fun _ => b, [])
  | .nil => match z with | .nl E => some (.list E fun _ => [], []) | _ => none
  | .own k => match getB bs k with | some (.own E xs false) => some (.list E xs, [k]) | _ => none
  | _ => none
def mkCells (bs : List (Nat × Blk)) : List Z → List C → Option (List Lf × List Nat)
  | [], [] => some ([], [])
  | z :: zs, c :: cs => match mkCell bs z c, mkCells bs zs cs with
    | some (l, k), some (ls, ks) => some (l :: ls, k ++ ks)
    | _, _ => none
  | _, _ => none
def toE : (E : ETy) → List Lf → Option (Unit → E.α)
  | .int, [.int .i64 t] => some t
  | .byte, [.int .u8 t] => some fun _ => UInt8.ofNat (t ()).toNat
  | .str, [.str t] => some t
  | .pin, [.int .i64 a, .int .i64 b] => some fun _ => ⟨a (), b ()⟩
  | .ent, [.int .i64 a, .int .i64 b, .int .i64 c, .int .i64 d] => some fun _ => ⟨a (), b (), c (), d ()⟩
  | .pty, [.int .i64 a, .int .i64 b, .int .i64 c, .int .i64 d, .int .i64 e, .int .i64 f, .int .i64 g, .int .i64 h, .int .i64 i, .int .i64 j] =>
    some fun _ => ⟨a (), b (), c (), d (), e (), f (), g (), h (), i (), j ()⟩
  | .spk, [.list .pin t] => some t
  | .cab, [.int .i64 a, .int .i64 b, .int .i64 c, .int .i64 d, .int .i64 e, .list .ent r, .list .spk s] => some fun _ => ⟨⟨a (), b (), c (), d (), e ()⟩, r (), s ()⟩
  | .req, [.int .i64 a, .int .i64 b, .int .i64 c, .int .i64 d, .int .i64 e, .int .i64 f] => some fun _ => ⟨a (), b (), c (), d (), e (), f ()⟩
  | .rep, [.int .i64 a, .list .int l] => some fun _ => ⟨a (), l ()⟩
  | _, _ => none
theorem byte_int {t : Int} (h : IntKind.u8.has t) : ((UInt8.ofNat t.toNat).toNat : Int) = t := by
  have : 0 ≤ t ∧ t ≤ 255 := by simpa [IntKind.has, IntKind.min, IntKind.max, IntKind.signed, IntKind.bits] using h
  have h2 : t.toNat < 256 := by omega
  rw [UInt8.toNat_ofNat', Nat.mod_eq_of_lt (by simpa using h2)]
  omega
theorem toE_ok {E : ETy} {ls : List Lf} {x : Unit → E.α} (h : toE E ls = some x) (hb : ∀ t, ls = [.int .u8 t] → IntKind.u8.has (t ())) : cellsT E x = ls := by
  unfold toE at h
  split at h
  · cases h; rfl
  · rename_i t
    cases h
    simp only [cellsT]
    congr 2
    funext u
    exact byte_int (hb t rfl)
  all_goals first
    | (cases h; rfl)
    | cases h
def sumF : List (Nat → Nat) → Nat → Nat
  | [], _ => 0
  | f :: fs, x => f x + sumF fs x
theorem sumN_succ' {n : Nat} {f : Nat → Nat} : sumN (n + 1) f = f 0 + sumN n fun i => f (i + 1) := by
  induction n with
  | zero => simp [sumN]
  | succ n ih =>
    have h : sumN (n + 1 + 1) f = sumN (n + 1) f + f (n + 1) := rfl
    have h2 : (sumN (n + 1) fun i => f (i + 1)) = (sumN n fun i => f (i + 1)) + f (n + 1) := rfl
    rw [h, ih, h2]; omega
theorem sumF_eq : ∀ (fs : List (Nat → Nat)) (x : Nat), sumN fs.length (fun j => fs.getD j (fun _ => 0) x) = sumF fs x
  | [], _ => rfl
  | f :: fs, x => by
    simp only [List.length_cons, sumF]
    rw [sumN_succ', ← sumF_eq fs x]
    rfl
theorem sumK_app {ρ : Rho} {x : Nat} : ∀ {ks js : List Nat}, sumK ρ (ks ++ js) x = sumK ρ ks x + sumK ρ js x
  | [], js => by simp [sumK]
  | k :: ks, js => by simp only [List.cons_append, sumK, sumK_app (ks := ks)]; omega
theorem unlent_app {bs : List (Nat × Blk)} : ∀ {ks js : List Nat}, unlent bs ks = true → unlent bs js = true → unlent bs (ks ++ js) = true
  | [], _, _, h => h
  | k :: ks, js, h1, h2 => by
    simp only [unlent, Bool.and_eq_true, List.cons_append] at h1 ⊢
    exact ⟨h1.1, unlent_app h1.2 h2⟩
section
variable {Γ : Ctx} {H : Hp} {ρ : Rho} {σ : SS} {a : Act} {w : World} (r : RelH Γ H ρ σ a w)
include r
theorem mkCell_ok {z : Z} {c : C} {l : Lf} {ks : List Nat} {v : Value} (h : mkCell σ.blk z c = some (l, ks)) (hv : RC H ρ (dom σ.blk) c v) :
    ∃ S : Nat → Nat, OwnL w.heap l v S ∧ unlent σ.blk ks = true ∧ ∀ x, S x = sumK ρ ks x := by
  unfold mkCell at h
  split at h
  · cases h
  · rename_i l' hl
    cases h
    refine ⟨fun _ => 0, RL.own_sc hv ?_, rfl, fun _ => rfl⟩
    cases l <;> first | rfl | exact (hl _ _ rfl).elim
  · rename_i b
    cases h
    simp only [RC] at hv
    subst hv
    exact ⟨fun _ => 0, OwnL.bool (t := fun _ => b), rfl, fun _ => rfl⟩
  · split at h
    · cases h
      simp only [RC] at hv
      subst hv
      exact ⟨fun _ => 0, OwnL.nil rfl, rfl, fun _ => rfl⟩
    · cases h
  · rename_i k
    split at h
    · rename_i E xs hg
      cases h
      obtain ⟨_, rfl⟩ := hv
      exact ⟨(ρ k).2, own_of r hg, by simp [unlent, hg], fun x => by simp [sumK]⟩
    · cases h
  · cases h
theorem mkCells_ok : ∀ {zs : List Z} {cs : List C} {ls : List Lf} {ks : List Nat} {f : Nat → Value}, mkCells σ.blk zs cs = some (ls, ks) → (∀ (j : Nat) c, cs[j]? = some c → RC H ρ (dom σ.blk) c (f j)) →
    ∃ S : List (Nat → Nat), S.length = ls.length ∧ ls.length = cs.length ∧ unlent σ.blk ks = true ∧ (∀ x, sumF S x = sumK ρ ks x) ∧ ∀ (j : Nat) l, ls[j]? = some l → OwnL w.heap l (f j) (S.getD j fun _ => 0)
  | [], [], ls, ks, f, h, _ => by
    simp only [mkCells, Option.some.injEq, Prod.mk.injEq] at h
    obtain ⟨rfl, rfl⟩ := h
    exact ⟨[], rfl, rfl, rfl, fun _ => rfl, fun j l hj => by simp at hj⟩
  | [], _ :: _, _, _, _, h, _ => by simp [mkCells] at h
  | _ :: _, [], _, _, _, h, _ => by simp [mkCells] at h
  | z :: zs, c :: cs, ls, ks, f, h, hc => by
    unfold mkCells at h
    split at h
    · rename_i l k ls' ks' h1 h2
      cases h
      obtain ⟨S0, g1, g2, g3⟩ := mkCell_ok r h1 (hc 0 c rfl)
      obtain ⟨S, g4, g5, g6, g7, g8⟩ := mkCells_ok h2 (f := fun j => f (j + 1)) fun j c hj => hc (j + 1) c (by simpa using hj)
      refine ⟨S0 :: S, by simp [g4], by simp [g5], unlent_app g2 g6, fun x => by simp only [sumF, g3, g7, sumK_app], fun j l hj => ?_⟩
      cases j with
      | zero => simp at hj; subst hj; exact g1
      | succ j => simp at hj; simpa using g8 j l hj
    · cases h
end
def mkE (bs : List (Nat × Blk)) (E : ETy) (v : V) : Option ((Unit → E.α) × List Nat) :=
  match cellsV v with
  | some cs => (match mkCells bs (zOf E) cs with
    | some (ls, ks) => (match toE E ls with | some x => some (x, ks) | none => none)
    | none => none)
  | none => none
def mkEs (bs : List (Nat × Blk)) (E : ETy) : List V → Option ((Unit → List E.α) × List Nat)
  | [] => some (fun _ => [], [])
  | v :: vs => match mkE bs E v, mkEs bs E vs with
    | some (x, k), some (xs, ks) => some (fun _ => x () :: xs (), k ++ ks)
    | _, _ => none
def dense : Nat → List (Nat × Operand) → Bool
  | _, [] => true
  | i, p :: ps => decide (p.1 = i) && dense (i + 1) ps
theorem dense_ok {f : Operand → Value} : ∀ {ps : List (Nat × Operand)} {i : Nat}, dense i ps = true → (ps.map fun p => (p.1, f p.2)) = ((ps.map fun p => f p.2).zipIdx i).map fun x => (x.2, x.1)
  | [], _, _ => rfl
  | p :: ps, i, h => by
    simp only [dense, Bool.and_eq_true, decide_eq_true_eq] at h
    simp only [List.map_cons, List.zipIdx_cons, dense_ok h.2, h.1]
section
variable {Γ : Ctx} {H : Hp} {ρ : Rho} {σ : SS} {a : Act} {w : World} (r : RelH Γ H ρ σ a w)
include r
theorem mkE_ok {E : ETy} {v : V} {x : Unit → E.α} {ks : List Nat} {u : Value} (h : mkE σ.blk E v = some (x, ks)) (hv : RV H ρ (dom σ.blk) v u) :
    u.cells.size = E.sz ∧ unlent σ.blk ks = true ∧ ∃ S, Seg w.heap E [x ()] (fun q => u.cells.getD q Go.undef) S ∧ ∀ y, segN 1 E.sz S y = sumK ρ ks y := by
  unfold mkE at h
  split at h
  · rename_i cs hcs
    split at h
    · rename_i ls ks' hm
      split at h
      · rename_i x' hx
        cases h
        have hc := hv.cells hcs fun k hk => by
          rw [hk] at hv
          exact own_one r hv
        obtain ⟨S, g1, g2, g3, g4, g5⟩ := mkCells_ok r hm (f := fun j => u.cells.getD j Go.undef) hc.2
        have he := toE_ok hx fun t ht => by
          have := g5 0 _ (by rw [ht]; rfl)
          generalize u.cells.getD 0 Go.undef = y, S.getD 0 (fun _ => 0) = T at this
          cases this with
          | int hr => exact hr
        have hlen : ls.length = E.sz := by rw [← he, cellsT_len]
        refine ⟨by rw [hc.1, ← g2, hlen], g3, fun _ j => S.getD j fun _ => 0, fun i y hy j l hj => ?_, fun y => ?_⟩
        · cases i with
          | zero =>
            simp only [List.getElem?_cons_zero, Option.some.injEq] at hy
            subst hy
            have hj' : (cellsT E x)[j]? = some l := hj
            rw [he] at hj'
            rw [Nat.zero_mul, Nat.zero_add]
            exact g5 j l hj'
          | succ i => simp at hy
        · rw [← g4 y, ← sumF_eq, g1, hlen]
          show 0 + sumN E.sz _ = _
          rw [Nat.zero_add]
      · cases h
    · cases h
  · cases h
theorem mkEs_ok {E : ETy} : ∀ {vs : List V} {us : List Value} {xs : Unit → List E.α} {ks : List Nat}, mkEs σ.blk E vs = some (xs, ks) → vs.length = us.length → (∀ (j : Nat) v u, vs[j]? = some v → us[j]? = some u → RV H ρ (dom σ.blk) v u) →
    (xs ()).length = us.length ∧ (∀ u ∈ us, u.cells.size = E.sz) ∧ (us.flatMap fun u => u.cells.toList).length = us.length * E.sz ∧ unlent σ.blk ks = true ∧
      ∃ S, Seg w.heap E (xs ()) (fun q => (us.flatMap fun u => u.cells.toList).getD q Go.undef) S ∧ ∀ y, segN us.length E.sz S y = sumK ρ ks y
  | [], us, xs, ks, h, hl, _ => by
    have : us = [] := List.length_eq_zero_iff.1 hl.symm
    subst this
    simp only [mkEs, Option.some.injEq, Prod.mk.injEq] at h
    obtain ⟨rfl, rfl⟩ := h
    exact ⟨rfl, fun u hu => by (cases hu), by simp, rfl, fun _ _ _ => 0, Seg.nil, fun y => rfl⟩
  | v :: vs, [], _, _, _, hl, _ => by simp at hl
  | v :: vs, u :: us, xs, ks, h, hl, hv => by
    unfold mkEs at h
    split at h
    · rename_i x k xs' ks' h1 h2
      cases h
      obtain ⟨g1, g2, S0, g3, g4⟩ := mkE_ok r h1 (hv 0 v u rfl rfl)
      obtain ⟨g5, g6, g7, g8, S, g9, g10⟩ := mkEs_ok h2 (by simpa using hl) fun j v u hj hj' => hv (j + 1) v u (by simpa using hj) (by simpa using hj')
      refine ⟨by simp [g5], fun y hy => ?_, by simp only [List.flatMap_cons, List.length_append, List.length_cons, g7, Array.length_toList, g1, Nat.add_mul]; omega, unlent_app g2 g8, glue 1 S0 S, ?_, fun y => ?_⟩
      · cases hy with
        | head => exact g1
        | tail _ hy => exact g6 y hy
      · have := (g3.glue g9)
        refine Seg.cells this fun q hq => ?_
        simp only [List.length_cons, List.length_nil, Nat.zero_add, Nat.one_mul, glue, List.flatMap_cons]
        by_cases h : q < E.sz
        · rw [if_pos h, List.getD_eq_getElem?_getD, List.getElem?_append_left (by simp [g1, h]), Array.getD_eq_getD_getElem?, Array.getElem?_toList]
        · rw [if_neg h, List.getD_eq_getElem?_getD, List.getElem?_append_right (by simp [g1]; omega), List.getD_eq_getElem?_getD]
          simp [g1]
      · rw [List.length_cons, Nat.add_comm, segN_glue, g4, g10, sumK_app]
    · cases h
end
def zLf : Z → Lf
  | .i k => .int k fun _ => 0
  | .bo => .bool fun _ => false
  | .st => .str fun _ => []
  | .nl E => .list E fun _ => []
  | .un => .bool fun _ => false
theorem dflt_cells (E : ETy) : (cellsT E fun _ => E.dflt) = (zOf E).map zLf := by cases E <;> rfl
theorem Z.own {h : Array Obj} {z : Z} {v : Value} (hz : z.ok v = true) (hu : z ≠ .un) : OwnL h (zLf z) v fun _ => 0 := by
  cases z with
  | i k =>
    cases v <;> simp [Z.ok] at hz
    obtain ⟨rfl, rfl⟩ := hz
    exact OwnL.int (t := fun _ => 0) (IntKind.has_zero _)
  | bo => cases v <;> simp [Z.ok] at hz; subst hz; exact OwnL.bool (t := fun _ => false)
  | st =>
    cases v <;> simp [Z.ok] at hz
    subst hz
    exact OwnL.str (t := fun _ => []) (by simp [maxL])
  | nl E =>
    cases v with
    | slice a n c =>
      cases a with
      | none => cases n <;> cases c <;> first | exact OwnL.nil rfl | simp [Z.ok] at hz
      | some a => simp [Z.ok] at hz
    | _ => simp [Z.ok] at hz
  | un => exact (hu rfl).elim
theorem Z.oks_get : ∀ {zs : List Z} {vs : List Value} {j : Nat} {z : Z}, Z.oks zs vs = true → zs[j]? = some z → ∃ v, vs[j]? = some v ∧ z.ok v = true
  | [], _, j, z, _, h => by simp at h
  | z0 :: zs, [], j, z, h, _ => by simp [Z.oks] at h
  | z0 :: zs, v :: vs, j, z, h, hz => by
    simp only [Z.oks, Bool.and_eq_true] at h
    cases j with
    | zero => simp at hz; subst hz; exact ⟨v, rfl, h.1⟩
    | succ j => simp at hz; obtain ⟨u, h1, h2⟩ := Z.oks_get h.2 hz; exact ⟨u, by simpa using h1, h2⟩
theorem Z.oks_len : ∀ {zs : List Z} {vs : List Value}, Z.oks zs vs = true → vs.length = zs.length
  | [], [], _ => rfl
  | [], _ :: _, h => by simp [Z.oks] at h
  | _ :: _, [], h => by simp [Z.oks] at h
  | _ :: _, _ :: _, h => by
    simp only [Z.oks, Bool.and_eq_true] at h
    simp [Z.oks_len h.2]
theorem zOf_len (E : ETy) : (zOf E).length = E.sz := by cases E <;> rfl
theorem zOf_un (E : ETy) : ∀ z ∈ zOf E, z ≠ .un := by cases E <;> decide
theorem seg_zero {h : Array Obj} {E : ETy} {z : Value} (hz : Z.oks (zOf E) z.cells.toList = true) (n : Nat) :
    Seg h E (List.replicate n E.dflt) (fun q => (madeCells z.cells (n * E.sz)).getD (0 + q) Go.undef) fun _ _ _ => 0 := fun i x hx j l hj => by
  have hlen : z.cells.size = E.sz := by have := Z.oks_len hz; rw [zOf_len] at this; simpa using this
  have hi : i < n := by have := lt_of_get hx; simpa using this
  have hjl := cell_lt hj
  rw [List.getElem?_replicate, if_pos hi] at hx
  cases hx
  have hd : (cellsT E fun _ => E.dflt)[j]? = some l := hj
  rw [dflt_cells, List.getElem?_map, Option.map_eq_some_iff] at hd
  obtain ⟨zj, h1, rfl⟩ := hd
  obtain ⟨v, h2, h3⟩ := Z.oks_get hz h1
  have hq : i * E.sz + j < n * E.sz := cell_idx hi hjl
  have hmod : (i * E.sz + j) % z.cells.size = j := by rw [hlen, Nat.mul_comm, Nat.mul_add_mod, Nat.mod_eq_of_lt hjl]
  have : (madeCells z.cells (n * E.sz)).getD (0 + (i * E.sz + j)) Go.undef = v := by
    rw [Nat.zero_add, Array.getD_eq_getD_getElem?]
    unfold madeCells
    rw [Array.getElem?_map, Array.getElem?_range, if_pos hq]
    simp only [Option.map_some, Option.getD_some, hmod]
    rw [Array.getElem?_toList] at h2
    rw [getElem!_def, h2]
  show OwnL h _ ((madeCells z.cells (n * E.sz)).getD (0 + (i * E.sz + j)) Go.undef) _
  rw [this]
  exact Z.own h3 (zOf_un E zj (List.mem_of_getElem? h1))
end Go.Proofs.Ytlochjpjlhkjaaa
namespace Go.Proofs.Ytlochjpjlhkjaaa
open Go
section
variable {Γ : Ctx} {H : Hp} {ρ : Rho} {σ : SS} {a : Act} {w w' : World}
theorem getB_setB_same {bs : List (Nat × Blk)} {k : Nat} {B : Blk} (h : dom bs k) : getB (setB bs k B) k = some B := by
  induction bs with
  | nil => simp [dom] at h
  | cons p r ih =>
    simp only [setB]
    split
    · simp [getB]
    · rename_i hp
      simp only [getB, if_neg hp]
      refine ih ?_
      simp only [dom, List.map_cons, List.mem_cons] at h
      exact h.resolve_left (Ne.symm hp)
theorem RelH.revive (r : RelH Γ H ρ σ a w) {k : Nat} (hne : ∀ p ∈ Γ.hd, p.1 ≠ k) (hk : dom σ.blk k) (h0 : ∀ x, (ρ k).2 x = 0) {B : Blk} {p : Nat → Nat}
    (hh : ∀ x, x < w.heap.size → 0 < tot ρ σ.blk x ∨ H x ≠ none → w'.heap[x]? = w.heap[x]?) (hsz : Ext w w')
    (hB : BlkR w'.heap H (upd ρ k ((ρ k).1, p)) (dom (setB σ.blk k B)) B ((ρ k).1, p)) (htop : ∀ x, Top B ((ρ k).1, p) x → 0 < p x)
    (hp : ∀ x, 0 < p x → H x = none ∧ tot ρ σ.blk x = 0) (hle : ∀ x, p x ≤ 1) :
    RelH Γ H (upd ρ k ((ρ k).1, p)) { σ with blk := setB σ.blk k B } a w' := by
  have hf : ∀ j, (upd ρ k ((ρ k).1, p) j).1 = (ρ j).1 := fun j => by
    by_cases h : j = k
    · subst h; rw [upd_same]
    · rw [upd_other h]
  have g : Grow H H ρ (upd ρ k ((ρ k).1, p)) (dom σ.blk) (dom (setB σ.blk k B)) := ⟨fun _ _ h => h, fun j hj => ⟨dom_setB.2 hj, hf j⟩⟩
  refine ⟨⟨fun j hj => by rw [hf]; exact r.b.oc j (dom_setB.1 hj), by rw [keys_setB]; exact r.b.nd, r.b.h0, fun b o hb => ?_, fun j A hj => ?_, fun x => ?_, fun j A hj x hx => ?_, fun j A hj x hx => ?_⟩, r.e.grow g, r.d, r.n.trans hsz, (fun p hp => by have := r.hd p hp; rw [upd_other (hne p hp)]; exact ⟨dom_setB.2 this.1, this.2⟩), fun p hp => ⟨dom_setB.2 (r.hm p hp).1, by rw [hf]; exact (r.hm p hp).2⟩⟩
  · have := r.b.hh b o hb
    rw [hh b (lt_of_aget this) (.inr (by rw [hb]; simp))]
    exact this
  · rcases mem_setB r.b.nd hj with ⟨rfl, rfl⟩ | ⟨hne, hj⟩
    · rw [upd_same]; exact hB
    · rw [upd_other hne]
      exact (r.b.blk j A hj).mono g fun b hb => hh b (r.lt (Nat.lt_of_lt_of_le hb (tot_le hj b))) (.inl (Nat.lt_of_lt_of_le hb (tot_le hj b)))
  · have h1 := tot_setB (ρ := ρ) (ρ' := upd ρ k ((ρ k).1, p)) r.b.nd (B := B) hk (fun j hj => upd_other hj) x
    rw [upd_same, h0 x] at h1
    show tot _ (setB σ.blk k B) x ≤ 1
    have h2 := r.b.sum x
    have h3 := hle x
    rcases Nat.eq_zero_or_pos (p x) with h4 | h4
    · simp only [h4] at h1; omega
    · have := (hp x h4).2
      simp only at h1
      omega
  · rcases mem_setB r.b.nd hj with ⟨rfl, rfl⟩ | ⟨hne, hj⟩
    · rw [upd_same] at hx
      have := (hp x hx).1
      cases h0 : Γ.H0 x with
      | none => rfl
      | some o => rw [r.b.h0 x o h0] at this; cases this
    · rw [upd_other hne] at hx; exact r.b.fresh j A hj x hx
  · rcases mem_setB r.b.nd hj with ⟨rfl, rfl⟩ | ⟨hne, hj⟩
    · rw [upd_same] at hx; exact (hp x (htop x hx)).1
    · rw [upd_other hne] at hx; exact r.b.tops j A hj x hx
theorem updL_zero : ∀ {ks : List Nat} {ρ : Rho} {k x : Nat}, (k ∈ ks ∨ (ρ k).2 x = 0) → (updL ρ ks k).2 x = 0
  | [], ρ, k, x, h => h.resolve_left (by simp)
  | j :: ks, ρ, k, x, h => by
    simp only [updL]
    refine updL_zero ?_
    by_cases hjk : k = j
    · right; subst hjk; rw [upd_same]
    · rcases h with h | h
      · rcases List.mem_cons.1 h with h | h
        · exact (hjk h).elim
        · exact .inl h
      · right; rw [upd_other hjk]; exact h
theorem segN_set {n sz i : Nat} (hi : i < n) {S : Nat → Nat → Nat → Nat} {T : Nat → Nat → Nat} {x : Nat} :
    segN n sz (fun q => if q = i then T else S q) x + sumN sz (fun j => S i j x) = segN n sz S x + sumN sz fun j => T j x := by
  unfold segN
  have := sumN_set (f := fun q => sumN sz fun j => (if q = i then T else S q) j x) (g := fun q => sumN sz fun j => S q j x) hi fun j hj => by simp only [if_neg hj]
  simp only [if_pos] at this
  omega
theorem Seg.set {h : Array Obj} {E : ETy} {xs : List E.α} {cs ds : Nat → Value} {S T : Nat → Nat → Nat → Nat} {x : E.α} {i : Nat} (hs : Seg h E xs cs S) (ht : Seg h E [x] ds T) :
    Seg h E (xs.set i x) (fun q => if i * E.sz ≤ q ∧ q < i * E.sz + E.sz then ds (q - i * E.sz) else cs q) (fun q => if q = i then T 0 else S q) := fun q y hy j l hj => by
  have hjl := cell_lt hj
  rw [List.getElem?_set] at hy
  by_cases hq : i = q
  · subst hq
    rw [if_pos rfl] at hy
    split at hy
    · cases hy
      simp only [if_pos]
      rw [if_pos (by omega), Nat.add_sub_cancel_left]
      have := ht 0 x rfl j l hj
      rwa [Nat.zero_mul, Nat.zero_add] at this
    · cases hy
  · rw [if_neg hq] at hy
    simp only [if_neg (Ne.symm hq)]
    rw [if_neg]
    · exact hs q y hy j l hj
    · intro hc
      rcases Nat.lt_or_gt_of_ne hq with h1 | h1
      · have := Nat.mul_le_mul_right E.sz (show i + 1 ≤ q from h1)
        rw [Nat.add_mul] at this
        omega
      · have := Nat.mul_le_mul_right E.sz (show q + 1 ≤ i from h1)
        rw [Nat.add_mul] at this
        omega
end
end Go.Proofs.Ytlochjpjlhkjaaa
namespace Go.Proofs.Ytlochjpjlhkjaaa
open Go
theorem filled_none {fs : List (Option Nat)} (h : fs.all Option.isNone = true) (i q j : Nat) : filled fs i q j = none := by
  unfold filled
  split
  · split
    · rename_i k hk
      have := List.all_eq_true.1 h _ (List.mem_of_getElem? hk)
      cases this
    · rfl
  · rfl
theorem filled_set {fs : List (Option Nat)} {i q j m : Nat} {o : Option Nat} (hj : j < fs.length) : filled (fs.set j o) i q m = if q = i ∧ m = j then o else filled fs i q m := by
  unfold filled
  by_cases hq : q = i
  · simp only [hq, if_true, true_and]
    rw [List.getElem?_set]
    by_cases hm : m = j
    · subst hm
      simp only [if_true, hj]
      cases o <;> rfl
    · rw [if_neg (Ne.symm hm), if_neg hm]
  · simp only [hq, if_false, false_and]
section
variable {h : Array Obj} {ρ : Rho} {D : Nat → Prop} {E : ETy} {xs : List E.α} {i : Nat} {fs : List (Option Nat)} {cs : Nat → Value} {S : Nat → Nat → Nat → Nat}
theorem HSeg.seg (hs : HSeg h ρ D E xs i fs cs S) (hf : fs.all Option.isNone = true) : Seg h E xs cs S := fun q x hx j l hj => by
  have := hs q x hx j l hj
  rw [filled_none hf] at this
  exact this
theorem Seg.hseg (hs : Seg h E xs cs S) (hf : fs.all Option.isNone = true) : HSeg h ρ D E xs i fs cs S := fun q x hx j l hj => by
  rw [filled_none hf]
  exact hs q x hx j l hj
end
theorem own_hol {h : Array Obj} {H : Hp} {ρ : Rho} {D : Nat → Prop} {E : ETy} {xs : Unit → List E.α} {l : Bool} {p : Value × (Nat → Nat)} (ho : BlkR h H ρ D (.own E xs l) p) {i : Unit → Nat} (hi : i () < (xs ()).length)
    {fs : List (Option Nat)} (hf : fs.all Option.isNone = true) : BlkR h H ρ D (.hol E xs i fs) p := by
  have ho : OwnL h (.list E xs) p.1 p.2 := ho
  rcases ho.seg with ⟨_, h0, _⟩ | ⟨b, off, c, vs, e, fz, S, h1, h2, h3, h4, h5, h6, h7, h8⟩
  · rw [h0] at hi; simp at hi
  · exact ⟨b, off, c, vs, e, fz, S, h1, h2, h3, h4, h5, h6, h7, hi, h8.hseg hf⟩
theorem hol_own {h : Array Obj} {H : Hp} {ρ : Rho} {D : Nat → Prop} {E : ETy} {xs : Unit → List E.α} {p : Value × (Nat → Nat)} {i : Unit → Nat} {fs : List (Option Nat)} (ho : BlkR h H ρ D (.hol E xs i fs) p)
    (hf : fs.all Option.isNone = true) (l : Bool) : BlkR h H ρ D (.own E xs l) p := by
  obtain ⟨b, o, c, cs, e, fz, S, h1, h2, h3, h4, h5, h6, h7, h8, h9⟩ := ho
  have := (h9.seg hf).own h3 h4 h5 h6 h7
  show OwnL h (.list E xs) p.1 p.2
  rw [h1, h2]
  exact this
theorem segN_upd {n sz i j : Nat} (hi : i < n) (hj : j < sz) {S : Nat → Nat → Nat → Nat} {T : Nat → Nat} {x : Nat} :
    segN n sz (fun q m => if q = i ∧ m = j then T else S q m) x + S i j x = segN n sz S x + T x := by
  unfold segN
  have h1 := sumN_set (f := fun q => sumN sz fun m => (if q = i ∧ m = j then T else S q m) x) (g := fun q => sumN sz fun m => S q m x) hi fun q hq => by simp only [hq, false_and, if_false]
  have h2 := sumN_set (f := fun m => (if m = j then T else S i m) x) (g := fun m => S i m x) hj fun m hm => by simp only [if_neg hm]
  simp only [true_and, if_true] at h1 h2
  show (sumN n fun q => sumN sz fun m => (if q = i ∧ m = j then T else S q m) x) + _ = _ + _
  omega
def fillL (bs : List (Nat × Blk)) : List (Option Nat) → List Lf → Option (List Lf × List Nat)
  | _, [] => some ([], [])
  | [], l :: ls => some (l :: ls, [])
  | o :: fs, l :: ls =>
    match fillL bs fs ls with
    | some (r, ks) =>
      match o with
      | none => some (l :: r, ks)
      | some k => (match getB bs k with | some (.own E xs false) => some (.list E xs :: r, k :: ks) | _ => none)
    | none => none
theorem fillL_ok {bs : List (Nat × Blk)} {ρ : Rho} : ∀ {fs : List (Option Nat)} {ls ls' : List Lf} {ks : List Nat}, fillL bs fs ls = some (ls', ks) →
    ls'.length = ls.length ∧ unlent bs ks = true ∧ (∀ (j : Nat) l', ls'[j]? = some l' → (∃ k E xs, fs[j]? = some (some k) ∧ getB bs k = some (.own E xs false) ∧ k ∈ ks ∧ l' = .list E xs) ∨ ((∀ k, fs[j]? ≠ some (some k)) ∧ ls[j]? = some l')) ∧
    ∀ (T : Nat → Nat → Nat), (∀ (j : Nat) k, fs[j]? = some (some k) → j < ls.length → T j = fun _ => 0) →
      ∀ x, sumN ls.length (fun j => (match fs[j]? with | some (some k) => (ρ k).2 | _ => T j) x) = sumN ls.length (fun j => T j x) + sumK ρ ks x
  | fs, [], ls', ks, h => by
    have : ls' = [] ∧ ks = [] := by cases fs <;> simp_all [fillL]
    obtain ⟨rfl, rfl⟩ := this
    exact ⟨rfl, rfl, fun j l' hj => by simp at hj, fun T _ x => rfl⟩
  | [], l :: ls, ls', ks, h => by
    simp only [fillL, Option.some.injEq, Prod.mk.injEq] at h
    obtain ⟨rfl, rfl⟩ := h
    exact ⟨rfl, rfl, fun j l' hj => .inr ⟨fun k => by simp, hj⟩, fun T _ x => by simp [sumK]⟩
  | o :: fs, l :: ls, ls', ks, h => by
    simp only [fillL] at h
    split at h
    · rename_i r ks' hr
      obtain ⟨g1, g2, g3, g4⟩ := fillL_ok (ρ := ρ) hr
      cases o with
      | none =>
        simp only [Option.some.injEq, Prod.mk.injEq] at h
        obtain ⟨rfl, rfl⟩ := h
        refine ⟨by simp [g1], g2, fun j l' hj => ?_, fun T hT x => ?_⟩
        · cases j with
          | zero => exact .inr ⟨fun k => by simp, by simpa using hj⟩
          | succ j => simpa using g3 j l' (by simpa using hj)
        · have := g4 (fun j => T (j + 1)) (fun j k hj hl => hT (j + 1) k (by simpa using hj) (by simpa using hl)) x
          simp only [List.length_cons]
          rw [sumN_succ', sumN_succ']
          simp only [List.getElem?_cons_succ, List.getElem?_cons_zero] at this ⊢
          omega
      | some k =>
        simp only at h
        split at h
        · rename_i E xs hk
          simp only [Option.some.injEq, Prod.mk.injEq] at h
          obtain ⟨rfl, rfl⟩ := h
          refine ⟨by simp [g1], by simp only [unlent, hk, g2, Bool.and_self], fun j l' hj => ?_, fun T hT x => ?_⟩
          · cases j with
            | zero => exact .inl ⟨k, E, xs, rfl, hk, List.mem_cons_self, by simpa using hj.symm⟩
            | succ j =>
              rcases g3 j l' (by simpa using hj) with ⟨k', E', xs', q1, q2, q3, q4⟩ | q
              · exact .inl ⟨k', E', xs', by simpa using q1, q2, List.mem_cons_of_mem _ q3, q4⟩
              · exact .inr (by simpa using q)
          · have := g4 (fun j => T (j + 1)) (fun j k hj hl => hT (j + 1) k (by simpa using hj) (by simpa using hl)) x
            have h0 := hT 0 k rfl (by simp)
            simp only [List.length_cons, sumK]
            rw [sumN_succ', sumN_succ', h0]
            simp only [List.getElem?_cons_succ, List.getElem?_cons_zero] at this ⊢
            omega
        · cases h
    · cases h
def closeB (bs : List (Nat × Blk)) (k : Nat) : Option (List (Nat × Blk)) :=
  match getB bs k with
  | some (.hol E xs i fs) =>
    match fillL bs fs (cellsT E (getE E xs i)) with
    | some (ls, ks) =>
      match toE E ls with
      | some x => if nodupB (k :: ks) = true then some (setB (killL bs (k :: ks)) k (.own E (fun _ => (xs ()).set (i ()) (x ())) false)) else none
      | none => none
    | none => none
  | some _ => some bs
  | none => none
section
variable {Γ : Ctx} {H : Hp} {ρ : Rho} {σ : SS} {a : Act} {w w' : World}
theorem BlkR.tops {h : Array Obj} {D : Nat → Prop} {E : ETy} {xs : Unit → List E.α} {i : Unit → Nat} {fs : List (Option Nat)} {p : Value × (Nat → Nat)} (_ : BlkR h H ρ D (.hol E xs i fs) p) (x : Nat) (hx : Top (.hol E xs i fs) p x) : 0 < p.2 x := hx
theorem RelH.rebuild (r : RelH Γ H ρ σ a w) {k : Nat} (hne : ∀ p ∈ Γ.hd, p.1 ≠ k) {ks : List Nat} (hn : nodupB (k :: ks) = true) (hd : ∀ j ∈ k :: ks, dom σ.blk j) (hH : ∀ j ∈ k :: ks, ∀ x, 0 < (ρ j).2 x → H x = none) {B : Blk} {p : Nat → Nat}
    (hh : ∀ x, x < w.heap.size → sumK ρ (k :: ks) x = 0 → w'.heap[x]? = w.heap[x]?) (hsz : Ext w w')
    (hB : ∀ ρ' : Rho, (∀ j, (ρ' j).1 = (ρ j).1) → (∀ j, j ∉ k :: ks → ρ' j = ρ j) → BlkR w'.heap H ρ' (dom σ.blk) B ((ρ k).1, p)) (htop : ∀ x, Top B ((ρ k).1, p) x → 0 < p x)
    (hp : ∀ x, p x ≤ sumK ρ (k :: ks) x) :
    ∃ ρ', RelH Γ H ρ' { σ with blk := setB (Go.Proofs.Ytlochjpjlhkjaaa.killL σ.blk (k :: ks)) k B } a w' ∧ ∀ j, (ρ' j).1 = (ρ j).1 := by
  have r1 := r.killL hd
  have hsum := fun y => tot_killL (ρ := ρ) (x := y) r.b.nd hn hd
  have hHn : ∀ y, 0 < sumK ρ (k :: ks) y → H y = none := fun y hy => by
    obtain ⟨j, hj, h1⟩ := sumK_pos hy
    exact hH j hj y h1
  have hfst : ∀ j, (upd (updL ρ (k :: ks)) k ((updL ρ (k :: ks) k).1, p) j).1 = (ρ j).1 := fun j => by
    by_cases h : j = k
    · subst h; rw [upd_same]; exact updL_fst
    · rw [upd_other h, updL_fst]
  have edom : dom (setB (Go.Proofs.Ytlochjpjlhkjaaa.killL σ.blk (k :: ks)) k B) = dom σ.blk := by
    funext j; rw [dom_setB, dom_killL]
  refine ⟨_, r1.revive (w' := w') (k := k) (B := B) (p := p) hne (dom_killL.2 (hd k List.mem_cons_self)) (fun y => updL_zero (.inl List.mem_cons_self))
      (fun y hlt hy => hh y hlt ?_) hsz ?_ (by rw [updL_fst]; exact htop) (fun y hy => ?_) (fun y => ?_), hfst⟩
  · have h2 := hsum y
    have h3 := r.b.sum y
    rcases Nat.eq_zero_or_pos (sumK ρ (k :: ks) y) with h | h
    · exact h
    · rcases hy with hy | hy
      · simp only at hy; omega
      · exact (hy (hHn y h)).elim
  · rw [edom, updL_fst]
    refine hB _ (by rw [← updL_fst (ks := k :: ks) (ρ := ρ) (k := k)]; exact hfst) fun j hj => ?_
    rw [upd_other (by rintro rfl; exact hj List.mem_cons_self), updL_other hj]
  · have h1 := hp y
    have h2 := hsum y
    have h3 := r.b.sum y
    exact ⟨hHn y (by omega), by simp only; omega⟩
  · have h1 := hp y
    have h2 := hsum y
    have h3 := r.b.sum y
    omega
theorem unlent_tops (r : RelH Γ H ρ σ a w) {ks : List Nat} (hu : unlent σ.blk ks = true) : (∀ j ∈ ks, dom σ.blk j) ∧ ∀ j ∈ ks, ∀ x, 0 < (ρ j).2 x → H x = none :=
  ⟨fun j hj => by obtain ⟨E, xs, hg⟩ := unlent_get hu j hj; exact getB_dom hg, fun j hj x hx => by obtain ⟨E, xs, hg⟩ := unlent_get hu j hj; exact r.b.tops j _ (getB_mem hg) x hx⟩
theorem sumK_cons (ρ : Rho) (k : Nat) (ks : List Nat) (x : Nat) : sumK ρ (k :: ks) x = (ρ k).2 x + sumK ρ ks x := rfl
theorem RelH.close (hd0 : Γ.hd = []) (r : RelH Γ H ρ σ a w) {k : Nat} {bs : List (Nat × Blk)} (h : closeB σ.blk k = some bs) : ∃ ρ', RelH Γ H ρ' { σ with blk := bs } a w ∧ ∀ j, (ρ' j).1 = (ρ j).1 := by
  unfold closeB at h
  split at h
  · rename_i E xs i fs hk
    split at h
    · rename_i ls ks hfl
      split at h
      · rename_i x hx
        split at h
        · rename_i hn
          cases h
          obtain ⟨g1, g2, g3, g4⟩ := fillL_ok (ρ := ρ) hfl
          rw [cellsT_len] at g4
          obtain ⟨hdk, hHk⟩ := unlent_tops r g2
          have hkb := r.b.blk k _ (getB_mem hk)
          obtain ⟨b, o, c, cs, e, fz, S, h1, h2, h3, h4, h5, h6, h7, h8, h9⟩ := hkb
          have hxi : (xs ())[i ()]? = some (getE E xs i ()) := by
            simp only [getE, List.getD_eq_getElem?_getD, List.getElem?_eq_getElem h8, Option.getD_some]
          have hcell : cellsT E x = ls := toE_ok hx fun t ht => by
            have h10 : ls[0]? = some (.int .u8 t) := by rw [ht]; rfl
            rcases g3 0 _ h10 with ⟨_, _, _, _, _, _, q⟩ | ⟨q1, q2⟩
            · cases q
            · have h11 := h9 (i ()) _ hxi 0 _ q2
              have : filled fs (i ()) (i ()) 0 = none := by
                unfold filled; rw [if_pos rfl]; split
                · rename_i k' hk'; exact (q1 k' hk').elim
                · rfl
              rw [this] at h11
              have hint : ∀ (v : Value) (T : Nat → Nat), OwnL w.heap (.int .u8 t) v T → IntKind.u8.has (t ()) := fun v T h => by
                cases h with
                | int hr => exact hr
              exact hint _ _ h11
          have hfill : ∀ (j : Nat) k', fs[j]? = some (some k') → j < E.sz → cs.getD (o + (i () * E.sz + j)) Go.undef = (ρ k').1 ∧ S (i ()) j = fun _ => 0 := fun j k' hj hl => by
            obtain ⟨l, hl'⟩ : ∃ l, (cellsT E fun _ => getE E xs i ())[j]? = some l := ⟨_, List.getElem?_eq_getElem (by rw [cellsT_len]; exact hl)⟩
            have := h9 (i ()) _ hxi j l hl'
            have hf : filled fs (i ()) (i ()) j = some k' := by unfold filled; rw [if_pos rfl, hj]
            rw [hf] at this
            exact this.2
          let S' : Nat → Nat → Nat → Nat := fun q j => if q = i () then (match fs[j]? with | some (some k) => (ρ k).2 | _ => S q j) else S q j
          have hsum : ∀ y, segN (xs ()).length E.sz S' y = segN (xs ()).length E.sz S y + sumK ρ ks y := fun y => by
            have q1 := segN_set (sz := E.sz) (S := S) (T := fun j => match fs[j]? with | some (some k) => (ρ k).2 | _ => S (i ()) j) (x := y) h8
            have q2 := g4 (S (i ())) (fun j k' hj hl => (hfill j k' hj hl).2) y
            have q3 : S' = fun q => if q = i () then (fun j => match fs[j]? with | some (some k) => (ρ k).2 | _ => S (i ()) j) else S q := by
              funext q j
              simp only [S']
              by_cases hq : q = i ()
              · subst hq; simp only [if_true]
              · simp only [if_neg hq]
            rw [q3]
            omega
          have hseg : Seg w.heap E ((xs ()).set (i ()) (x ())) (fun q => cs.getD (o + q) Go.undef) S' := fun q y hy j l hj => by
            rw [List.getElem?_set] at hy
            by_cases hq : i () = q
            · rw [if_pos hq, if_pos (by omega)] at hy
              cases hy
              have hj' : (cellsT E x)[j]? = some l := hj
              rw [hcell] at hj'
              subst hq
              simp only [S', if_true]
              rcases g3 j l hj' with ⟨k', E', xs', q1, q2, q3, rfl⟩ | ⟨q1, q2⟩
              · have hjl : j < E.sz := cell_lt hj
                rw [q1, (hfill j k' q1 hjl).1]
                exact r.b.blk k' _ (getB_mem q2)
              · have h11 := h9 (i ()) _ hxi j l q2
                have hf : filled fs (i ()) (i ()) j = none := by
                  unfold filled; rw [if_pos rfl]; split
                  · rename_i k' hk'; exact (q1 k' hk').elim
                  · rfl
                rw [hf] at h11
                split
                · rename_i k' hk'; exact (q1 k' hk').elim
                · exact h11
            · rw [if_neg hq] at hy
              have h11 := h9 q y hy j l hj
              have hf : filled fs (i ()) q j = none := by unfold filled; rw [if_neg (Ne.symm hq)]
              rw [hf] at h11
              simp only [S', if_neg (Ne.symm hq)]
              exact h11
          have hown := hseg.own (b := b) (off := o) (c := c) h3 h4 (by rw [List.length_set]; exact h5) (by rw [List.length_set]; exact h6) h7
          rw [List.length_set] at hown
          refine r.rebuild (fun p hp => by rw [hd0] at hp; cases hp) (p := cnt b (xs ()).length E.sz S') hn (fun j hj => ?_) (fun j hj y hy => ?_) (fun _ _ _ => rfl) (Ext.refl _) (fun ρ' hρ _ => ?_) (fun y hy => hy) fun y => ?_
          · rcases List.mem_cons.1 hj with rfl | hj
            · exact getB_dom hk
            · exact hdk j hj
          · rcases List.mem_cons.1 hj with rfl | hj
            · exact r.b.tops _ _ (getB_mem hk) y hy
            · exact hHk j hj y hy
          · show OwnL w.heap _ (ρ k).1 _
            rw [h1]; exact hown
          · have := hsum y
            rw [sumK_cons, h2]
            simp only [cnt]
            simp only [segN] at this
            omega
        · cases h
      · cases h
    · cases h
  · cases h
    exact ⟨ρ, r, fun _ => rfl⟩
  · cases h
theorem RelH.open1 (hd0 : Γ.hd = []) (r : RelH Γ H ρ σ a w) {k kk : Nat} {E E' : ETy} {xs : Unit → List E.α} {ys : Unit → List E'.α} {i : Unit → Nat} {fs : List (Option Nat)} (hk : getB σ.blk k = some (.hol E xs i fs)) (hkk : getB σ.blk kk = none) {j : Nat}
    (hj : (cellsT E (getE E xs i))[j]? = some (.list E' ys)) (hf : fs[j]? = some none) :
    ∃ ρ', RelH Γ H ρ' { σ with blk := setB (insB (setB σ.blk k .dead) kk (.own E' ys false)) k (.hol E xs i (fs.set j (some kk))) } a w ∧ (∀ q, dom σ.blk q → (ρ' q).1 = (ρ q).1) ∧
      ∃ b o n c cs e fz, (ρ k).1 = .slice (some ⟨b, o, none⟩) n c ∧ w.heap[b]? = some (.cells cs e fz) ∧ (ρ' kk).1 = cs.getD (o + (i () * E.sz + j)) Go.undef := by
  have hjl : j < E.sz := by have := lt_of_get hj; rwa [cellsT_len] at this
  have hjf : j < fs.length := lt_of_get hf
  have hkb := r.b.blk k _ (getB_mem hk)
  obtain ⟨b, o, c, cs, e, fz, S, h1, h2, h3, h4, h5, h6, h7, h8, h9⟩ := hkb
  have hxi : (xs ())[i ()]? = some (getE E xs i ()) := by
    simp only [getE, List.getD_eq_getElem?_getD, List.getElem?_eq_getElem h8, Option.getD_some]
  have hown := h9 (i ()) _ hxi j _ hj
  have hfn : filled fs (i ()) (i ()) j = none := by unfold filled; rw [if_pos rfl, hf]
  rw [hfn] at hown
  simp only at hown
  let S' : Nat → Nat → Nat → Nat := fun q m => if q = i () ∧ m = j then (fun _ => 0) else S q m
  have hS : ∀ y, cnt b (xs ()).length E.sz S y = cnt b (xs ()).length E.sz S' y + S (i ()) j y := fun y => by
    have := segN_upd (S := S) (T := fun _ => 0) (x := y) h8 hjl
    simp only [segN] at this
    simp only [cnt, S']
    omega
  have hkd : dom σ.blk k := getB_dom hk
  have hne : kk ≠ k := fun he => getB_none hkk (he ▸ hkd)
  have hks : ∀ y, sumK ρ [k] y = cnt b (xs ()).length E.sz S y := fun y => by simp [sumK, h2]
  have hHn : ∀ y, 0 < cnt b (xs ()).length E.sz S y → H y = none := fun y hy => r.b.tops k _ (getB_mem hk) y (by show 0 < (ρ k).2 y; rw [h2]; exact hy)
  have htot := fun y => tot_killL (ρ := ρ) (ks := [k]) (x := y) r.b.nd rfl (fun j hj => by simp at hj; subst hj; exact hkd)
  have r1 := r.kill hkd
  let ρ1 : Rho := upd ρ k ((ρ k).1, fun _ => 0)
  have htot1 : ∀ y, tot ρ1 (setB σ.blk k .dead) y + cnt b (xs ()).length E.sz S y = tot ρ σ.blk y := fun y => by have := htot y; rw [hks y] at this; exact this
  have hone : (cs.getD (o + (i () * E.sz + j)) Go.undef).oneCell' = true := hown.one
  have r2 := r1.new' (w' := w) (k := kk) (B := .own E' ys false) (p := (cs.getD (o + (i () * E.sz + j)) Go.undef, S (i ()) j)) (getB_setB_none hkk) (fun _ _ _ => rfl) (fun _ _ => rfl) (Ext.refl _) hone
    (fun y hy => by
      have q1 := hS y
      have q2 := htot1 y
      have q3 := r.b.sum y
      exact ⟨hHn y (by simp only at hy; omega), by show tot ρ1 (setB σ.blk k .dead) y = 0; simp only at hy; omega⟩)
    (fun y => by
      have q1 := hS y
      have q2 := htot1 y
      have q3 := r.b.sum y
      simp only; omega) hown (by simp)
  let ρ2 : Rho := upd ρ1 kk (cs.getD (o + (i () * E.sz + j)) Go.undef, S (i ()) j)
  have e2 : ∀ q, q ≠ kk → ρ2 q = ρ1 q := fun q hq => upd_other hq
  have e1 : ∀ q, (ρ1 q).1 = (ρ q).1 := fun q => by
    by_cases h : q = k
    · subst h; simp only [ρ1]; rw [upd_same]
    · simp only [ρ1]; rw [upd_other h]
  have hk2 : (ρ2 k) = ((ρ k).1, fun _ => 0) := by rw [e2 k (Ne.symm hne)]; exact upd_same _ _ _
  have htot2 : ∀ y, tot ρ2 (insB (setB σ.blk k .dead) kk (.own E' ys false)) y + cnt b (xs ()).length E.sz S' y = tot ρ σ.blk y := fun y => by
    have q1 := hS y
    have q2 := htot1 y
    rw [tot_insB, tot_congr (ρ := ρ1) (ρ' := ρ2) fun q hq => e2 q fun he => getB_none hkk (by rw [← he]; exact dom_setB.1 hq)]
    have : (ρ2 kk).2 y = S (i ()) j y := by simp only [ρ2]; rw [upd_same]
    omega
  have hd2 : dom (insB (setB σ.blk k .dead) kk (.own E' ys false)) k := dom_insB.2 (.inr (dom_setB.2 hkd))
  have e3 : ∀ q, (upd ρ2 k ((ρ2 k).1, cnt b (xs ()).length E.sz S') q).1 = (ρ2 q).1 := fun q => by
    by_cases h : q = k
    · subst h; rw [upd_same]
    · rw [upd_other h]
  have r3 := RelH.revive (w' := w) r2 (k := k) (hne := fun p hp => by rw [hd0] at hp; cases hp) (B := .hol E xs i (fs.set j (some kk))) (p := cnt b (xs ()).length E.sz S') hd2 (fun y => by
      show (ρ2 k).2 y = 0
      rw [hk2]) (fun _ _ _ => rfl) (Ext.refl _)
    (by
      refine ⟨b, o, c, cs, e, fz, S', ?_, rfl, h3, h4, h5, h6, h7, h8, fun q x hx m l hm => ?_⟩
      · show (ρ2 k).1 = _
        rw [hk2]; exact h1
      · rw [filled_set hjf]
        by_cases hq : q = i () ∧ m = j
        · rw [if_pos hq]
          obtain ⟨rfl, rfl⟩ := hq
          refine ⟨dom_setB.2 (dom_insB.2 (.inl rfl)), ?_, by simp [S']⟩
          show _ = (upd ρ2 k ((ρ2 k).1, cnt b (xs ()).length E.sz S') kk).1
          rw [e3]
          simp only [ρ2]; rw [upd_same]
        · rw [if_neg hq]
          have h10 := h9 q x hx m l hm
          have hSq : S' q m = S q m := by simp only [S', if_neg hq]
          rw [hSq]
          split at h10
          · obtain ⟨g1, g2, g3⟩ := h10
            have hkn : ∀ k', k' = kk → ¬ dom σ.blk k' := fun k' he hd => getB_none hkk (he ▸ hd)
            refine ⟨dom_setB.2 (dom_insB.2 (.inr (dom_setB.2 g1))), ?_, g3⟩
            show _ = (upd ρ2 k ((ρ2 k).1, cnt b (xs ()).length E.sz S') _).1
            rw [e3, e2 _ fun he => hkn _ he g1, e1]; exact g2
          · exact h10)
    (fun y hy => hy)
    (fun y hy => by
      have q1 := htot2 y
      have q2 := r.b.sum y
      have q3 := hS y
      refine ⟨hHn y (by omega), ?_⟩
      show tot ρ2 (insB (setB σ.blk k .dead) kk (.own E' ys false)) y = 0
      omega)
    (fun y => by
      have q1 := htot2 y
      have q2 := r.b.sum y
      omega)
  refine ⟨_, r3, fun q hq => ?_, b, o, _, c, cs, e, fz, h1, h3, ?_⟩
  · show (upd ρ2 k ((ρ2 k).1, cnt b (xs ()).length E.sz S') q).1 = _
    rw [e3, e2 q fun he => getB_none hkk (he ▸ hq), e1]
  · show (upd ρ2 k ((ρ2 k).1, cnt b (xs ()).length E.sz S') kk).1 = _
    rw [e3]
    simp only [ρ2]; rw [upd_same]
end
def spliceL (ls : List Lf) (off : Nat) (new : List Lf) : List Lf := ls.take off ++ (new ++ ls.drop (off + new.length))
theorem splice_get {ls new : List Lf} {off j : Nat} (h : off + new.length ≤ ls.length) : (spliceL ls off new)[j]? = if off ≤ j ∧ j < off + new.length then new[j - off]? else ls[j]? := by
  unfold spliceL
  rcases Nat.lt_or_ge j off with h1 | h1
  · rw [List.getElem?_append_left (by rw [List.length_take]; omega), List.getElem?_take, if_pos h1, if_neg (by omega)]
  · rw [List.getElem?_append_right (by rw [List.length_take]; omega), List.length_take, Nat.min_eq_left (by omega)]
    rcases Nat.lt_or_ge j (off + new.length) with h2 | h2
    · rw [List.getElem?_append_left (by omega), if_pos ⟨h1, h2⟩]
    · rw [List.getElem?_append_right (by omega), if_neg (by omega), List.getElem?_drop]
      congr 1; omega
def clearF : List (Option Nat) → Nat → Nat → List (Option Nat)
  | [], _, _ => []
  | o :: fs, 0, 0 => o :: fs
  | _ :: fs, 0, n + 1 => none :: clearF fs 0 n
  | o :: fs, off + 1, n => o :: clearF fs off n
theorem clearF_get : ∀ {fs : List (Option Nat)} {off n j : Nat}, (clearF fs off n)[j]? = if off ≤ j ∧ j < off + n then (fs[j]?).map fun _ => none else fs[j]?
  | [], off, n, j => by simp [clearF]
  | o :: fs, 0, 0, j => by
    have : ¬ (0 ≤ j ∧ j < 0 + 0) := by omega
    simp only [clearF, if_neg this]
  | o :: fs, 0, n + 1, 0 => by simp [clearF]
  | o :: fs, 0, n + 1, j + 1 => by
    simp only [clearF, List.getElem?_cons_succ]
    rw [clearF_get]
    have : (0 ≤ j ∧ j < 0 + n) ↔ (0 ≤ j + 1 ∧ j + 1 < 0 + (n + 1)) := by omega
    simp only [this]
  | o :: fs, off + 1, n, 0 => by
    simp [clearF]
  | o :: fs, off + 1, n, j + 1 => by
    simp only [clearF, List.getElem?_cons_succ]
    rw [clearF_get]
    have : (off ≤ j ∧ j < off + n) ↔ (off + 1 ≤ j + 1 ∧ j + 1 < off + 1 + n) := by omega
    simp only [this]
theorem filled_clear {fs : List (Option Nat)} {off n i q j : Nat} : filled (clearF fs off n) i q j = if off ≤ j ∧ j < off + n then none else filled fs i q j := by
  unfold filled
  rw [clearF_get]
  by_cases h : off ≤ j ∧ j < off + n
  · simp only [if_pos h]
    split
    · cases fs[j]? <;> rfl
    · rfl
  · simp only [if_neg h]
theorem sumN_add {n : Nat} {f g : Nat → Nat} : sumN n (fun j => f j + g j) = sumN n f + sumN n g := by
  induction n with
  | zero => rfl
  | succ n ih => simp only [sumN, ih]; omega
theorem sumN_range {off n sz : Nat} {f g : Nat → Nat} (h : off + n ≤ sz) : sumN sz (fun j => if off ≤ j ∧ j < off + n then f (j - off) else g j) ≤ sumN sz g + sumN n f := by
  have h1 : sumN sz (fun j => if off ≤ j ∧ j < off + n then f (j - off) else g j) ≤ sumN sz fun j => g j + (if off ≤ j ∧ j < off + n then f (j - off) else 0) :=
    sumN_le fun j hj => by split <;> omega
  have h2 : sumN sz (fun j => if off ≤ j ∧ j < off + n then f (j - off) else 0) = sumN n f := by
    obtain ⟨m, rfl⟩ : ∃ m, sz = off + (n + m) := ⟨sz - off - n, by omega⟩
    rw [sumN_app, sumN_zero (n := off) (fun i hi => by rw [if_neg (by omega)]), sumN_app, sumN_zero (n := m) (fun i hi => by rw [if_neg (by omega)]), Nat.zero_add, Nat.add_zero]
    exact sumN_congr fun i hi => by rw [if_pos (by omega), Nat.add_sub_cancel_left]
  rw [sumN_add, h2] at h1
  exact h1
def mkHol (E : ETy) (xs : Unit → List E.α) (i : Unit → Nat) (fs : List (Option Nat)) : Blk := if fs.all Option.isNone = true then .own E xs false else .hol E xs i fs
theorem mkHol_ok {h : Array Obj} {H : Hp} {ρ : Rho} {D : Nat → Prop} {E : ETy} {xs : Unit → List E.α} {i : Unit → Nat} {fs : List (Option Nat)} {p : Value × (Nat → Nat)} (hr : BlkR h H ρ D (.hol E xs i fs) p) : BlkR h H ρ D (mkHol E xs i fs) p := by
  unfold mkHol
  split
  · rename_i hf; exact hol_own hr hf false
  · exact hr
theorem mkHol_top {E : ETy} {xs : Unit → List E.α} {i : Unit → Nat} {fs : List (Option Nat)} {p : Value × (Nat → Nat)} {x : Nat} (h : Top (mkHol E xs i fs) p x) : 0 < p.2 x := by
  unfold mkHol at h
  split at h <;> exact h
section
variable {Γ : Ctx} {H : Hp} {ρ : Rho} {σ : SS} {a : Act} {w w' : World}
theorem RelH.storeHol {P : Program} (r : RelH Γ H ρ σ a w) {k : Nat} (hne : ∀ p ∈ Γ.hd, p.1 ≠ k) {ks : List Nat} (hn : nodupB (k :: ks) = true) {E : ETy} {xs : Unit → List E.α} {i : Unit → Nat} {fs : List (Option Nat)} (hdk : dom σ.blk k)
    (hB : BlkR w.heap H ρ (dom σ.blk) (.hol E xs i fs) (ρ k)) (hHk : ∀ x, 0 < (ρ k).2 x → H x = none) (hu : unlent σ.blk ks = true) {b o n c : Nat} (hv : (ρ k).1 = .slice (some ⟨b, o, none⟩) n c) {off : Nat} {us : List Value} {new : List Lf}
    (hul : us.length = new.length) (hoff : off + new.length ≤ E.sz) {T : Nat → Nat → Nat} (hown : ∀ (j : Nat) l, new[j]? = some l → OwnL w.heap l (us.getD j Go.undef) (T j)) (hT : ∀ y, sumN new.length (fun j => T j y) = sumK ρ ks y)
    {x : Unit → E.α} (hx : cellsT E x = spliceL (cellsT E (getE E xs i)) off new) :
    ∃ w', (storeCells ⟨b, o + i () * E.sz + off, none⟩ us).run P w = .ok () w' ∧ (∀ y, (ρ k).2 y = 0 → w'.heap[y]? = w.heap[y]?) ∧
      ∃ ρ', RelH Γ H ρ' { σ with blk := setB (Go.Proofs.Ytlochjpjlhkjaaa.killL σ.blk (k :: ks)) k (mkHol E (fun _ => (xs ()).set (i ()) (x ())) i (clearF fs off new.length)) } a w' := by
  obtain ⟨b', o', c', vs, e, fz, S, h1, h2, h3, h4, h5, h6, h7, h8, h9⟩ := hB
  rw [hv] at h1
  simp only [Value.slice.injEq, Option.some.injEq, Addr.mk.injEq, and_true] at h1
  obtain ⟨⟨rfl, rfl⟩, rfl, rfl⟩ := h1
  obtain ⟨hdks, hHks⟩ := unlent_tops r hu
  have hd : ∀ j ∈ k :: ks, dom σ.blk j := fun j hj => by rcases List.mem_cons.1 hj with rfl | hj; exact hdk; exact hdks j hj
  have hle : ∀ y, (ρ k).2 y + sumK ρ ks y ≤ 1 := fun y => by
    have h1 := sumK_le (ρ := ρ) (k :: ks) hn hd y
    have h2 := r.b.sum y
    simp only [sumK] at h1
    omega
  have hxi : (xs ())[i ()]? = some (getE E xs i ()) := by
    simp only [getE, List.getD_eq_getElem?_getD, List.getElem?_eq_getElem h8, Option.getD_some]
  have hin : i () * E.sz + E.sz ≤ (xs ()).length * E.sz := by
    have := Nat.mul_le_mul_right E.sz (show i () + 1 ≤ (xs ()).length from h8)
    rwa [Nat.add_mul, Nat.one_mul] at this
  have hcap := Nat.mul_le_mul_right E.sz h5
  have hone : ∀ u ∈ us, u.oneCell' = true := fun u hu' => by
    obtain ⟨q, hq, rfl⟩ := List.getElem_of_mem hu'
    obtain ⟨l, hl⟩ : ∃ l, new[q]? = some l := ⟨_, List.getElem?_eq_getElem (by omega)⟩
    have := (hown q l hl).one
    rwa [List.getD_eq_getElem?_getD, List.getElem?_eq_getElem hq] at this
  obtain ⟨w', g1, g2, g3, g4⟩ := run_storeCells (P := P) us w b (o + i () * E.sz + off) 0 vs e fz h3 h4 (by omega) hone
  rw [Nat.add_zero] at g2
  let S' : Nat → Nat → Nat → Nat := fun q j => if q = i () then (if off ≤ j ∧ j < off + new.length then T (j - off) else S q j) else S q j
  have hS' : ∀ y, segN (xs ()).length E.sz S' y ≤ segN (xs ()).length E.sz S y + sumK ρ ks y := fun y => by
    have q1 := segN_set (sz := E.sz) (S := S) (T := fun j => if off ≤ j ∧ j < off + new.length then T (j - off) else S (i ()) j) (x := y) h8
    have q2 := sumN_range (f := fun j => T j y) (g := fun j => S (i ()) j y) hoff
    have q3 : S' = fun q => if q = i () then (fun j => if off ≤ j ∧ j < off + new.length then T (j - off) else S (i ()) j) else S q := by
      funext q j
      simp only [S']
      by_cases hq : q = i ()
      · subst hq; simp only [if_true]
      · simp only [if_neg hq]
    have q4 : (sumN E.sz fun j => (fun j => if off ≤ j ∧ j < off + new.length then T (j - off) else S (i ()) j) j y) = sumN E.sz fun j => if off ≤ j ∧ j < off + new.length then T (j - off) y else S (i ()) j y :=
      sumN_congr fun j _ => by show (if _ then _ else _ : Nat → Nat) y = _; split <;> rfl
    rw [← q3, q4] at q1
    rw [hT y] at q2
    omega
  have hpb : ∀ y, (ρ k).2 y = (if y = b then 1 else 0) + segN (xs ()).length E.sz S y := fun y => by rw [h2]; rfl
  have hbz : segN (xs ()).length E.sz S b = 0 ∧ sumK ρ ks b = 0 := by
    have h1 := hle b
    have h2 := hpb b
    rw [if_pos rfl] at h2
    omega
  have hH' : ∀ q y, (xs ())[q]? = some y ∨ q = i () → ∀ j, j < E.sz → ∀ z, 0 < S' q j z → z ≠ b := fun q y hy j hj z hz hzb => by
    subst hzb
    have hq : q < (xs ()).length := by rcases hy with hy | rfl; exact lt_of_get hy; exact h8
    have := segN_in (S := S') (x := z) hq hj
    have := hS' z
    omega
  have hget : ∀ q, o + q < vs.size → ¬ (i () * E.sz + off ≤ q ∧ q < i () * E.sz + off + new.length) → (setVs vs (o + i () * E.sz + off) us).getD (o + q) Go.undef = vs.getD (o + q) Go.undef := fun q hq hc => by
    rw [setVs_get _ _ _ _ (by omega), if_neg (by omega)]
  have hgetN : ∀ j, j < new.length → (setVs vs (o + i () * E.sz + off) us).getD (o + (i () * E.sz + (off + j))) Go.undef = us.getD j Go.undef := fun j hj => by
    rw [setVs_get _ _ _ _ (by omega), if_pos (by omega)]
    congr 1; omega
  refine ⟨w', g1, (fun y hy => g3 y fun he => by have := hpb y; rw [if_pos he] at this; omega), Exists.imp (fun _ h => And.left h) (r.rebuild hne (p := cnt b (xs ()).length E.sz S') hn hd (fun j hj y hy => by rcases List.mem_cons.1 hj with rfl | hj; exact hHk y hy; exact hHks j hj y hy) (fun y _ hy => g3 y fun he => ?_) g4 (fun ρ' hρ hρ' => mkHol_ok ?_) (fun y hy => mkHol_top hy) fun y => ?_)⟩
  · subst he
    have := hpb y
    rw [if_pos rfl] at this
    rw [sumK_cons] at hy
    omega
  · refine ⟨b, o, c, setVs vs (o + i () * E.sz + off) us, e, fz, S', by rw [List.length_set]; exact hv, by rw [List.length_set], g2, by rcases h4 with h | h; exact .inl h; exact .inr (by rw [setVs_size]; exact h), by rw [List.length_set]; exact h5,
      by rw [List.length_set]; exact h6, by rw [setVs_size]; exact h7, by rw [List.length_set]; exact h8, fun q y hy j l hj => ?_⟩
    have hjl := cell_lt hj
    rw [List.getElem?_set] at hy
    by_cases hq : i () = q
    · rw [if_pos hq, if_pos h8] at hy
      cases hy
      subst hq
      have hj' : (cellsT E x)[j]? = some l := hj
      rw [hx, splice_get (by rw [cellsT_len]; exact hoff)] at hj'
      rw [filled_clear]
      simp only [S', if_true]
      by_cases hr : off ≤ j ∧ j < off + new.length
      · rw [if_pos hr] at hj' ⊢
        rw [if_pos hr]
        have q1 := hgetN (j - off) (by omega)
        rw [show off + (j - off) = j by omega] at q1
        show OwnL w'.heap l ((setVs vs (o + i () * E.sz + off) us).getD (o + (i () * E.sz + j)) Go.undef) (T (j - off))
        rw [q1]
        refine (hown _ _ hj').mono fun z hz => g3 z ?_
        exact hH' (i ()) (getE E xs i ()) (.inr rfl) j hjl z (by simp only [S', if_true, if_pos hr]; exact hz)
      · rw [if_neg hr] at hj' ⊢
        rw [if_neg hr]
        have h10 := h9 (i ()) _ hxi j l hj'
        have q1 := hget (i () * E.sz + j) (by omega) (by omega)
        simp only [q1]
        split at h10
        · obtain ⟨f1, f2, f3⟩ := h10
          exact ⟨f1, by rw [hρ]; exact f2, f3⟩
        · refine h10.mono fun z hz => g3 z (hH' (i ()) (getE E xs i ()) (.inr rfl) j hjl z (by simp only [S', if_true, if_neg hr]; exact hz))
    · rw [if_neg hq] at hy
      have h10 := h9 q y hy j l hj
      have hf : ∀ fs' : List (Option Nat), filled fs' (i ()) q j = none := fun fs' => by unfold filled; rw [if_neg (Ne.symm hq)]
      rw [hf] at h10 ⊢
      simp only [S', if_neg (Ne.symm hq)]
      have hqn : q * E.sz + j < (xs ()).length * E.sz := cell_idx (lt_of_get hy) hjl
      have q1 := hget (q * E.sz + j) (by omega) (fun hc => by
        rcases Nat.lt_or_gt_of_ne hq with h1 | h1
        · have := Nat.mul_le_mul_right E.sz (show i () + 1 ≤ q from h1)
          rw [Nat.add_mul] at this
          omega
        · have := Nat.mul_le_mul_right E.sz (show q + 1 ≤ i () from h1)
          rw [Nat.add_mul] at this
          omega)
      show OwnL w'.heap l ((setVs vs (o + i () * E.sz + off) us).getD (o + (q * E.sz + j)) Go.undef) (S q j)
      rw [q1]
      exact h10.mono fun z hz => g3 z (hH' q y (.inl hy) j hjl z (by simp only [S', if_neg (Ne.symm hq)]; exact hz))
  · have := hS' y
    have := hpb y
    rw [sumK_cons]
    simp only [cnt]
    simp only [segN] at *
    omega
end
end Go.Proofs.Ytlochjpjlhkjaaa
namespace Go.Proofs.Ytlochjpjlhkjaaa
open Go
def openN (E : ETy) (xs : Unit → List E.α) (i : Unit → Nat) (k : Nat) : List (Nat × Nat) → List (Option Nat) → List (Nat × Blk) → Option (List (Nat × Blk))
  | [], _, bs => some bs
  | (j, kk) :: r, fs, bs =>
    match (cellsT E (getE E xs i))[j]?, fs[j]?, getB bs kk with
    | some (.list E' ys), some none, none => openN E xs i k r (fs.set j (some kk)) (setB (insB (setB bs k .dead) kk (.own E' ys false)) k (.hol E xs i (fs.set j (some kk))))
    | _, _, _ => none
def listCells : List Lf → Nat → Nat → List (Nat × Nat)
  | [], _, _ => []
  | .list _ _ :: ls, j, kk => (j, kk) :: listCells ls (j + 1) (kk + 1)
  | _ :: ls, j, kk => listCells ls (j + 1) kk
def valCells : List Lf → Nat → List C
  | [], _ => []
  | .list _ _ :: ls, kk => .own kk :: valCells ls (kk + 1)
  | l :: ls, kk => .lf l :: valCells ls kk
theorem valCells_len : ∀ {ls : List Lf} {kk : Nat}, (valCells ls kk).length = ls.length
  | [], _ => rfl
  | l :: ls, kk => by cases l <;> simp [valCells, valCells_len (ls := ls)]
theorem valCells_get : ∀ {ls : List Lf} {j kk m : Nat} {c : C}, (valCells ls kk)[m]? = some c → ∃ l, ls[m]? = some l ∧ ((l.sc = true ∧ c = .lf l) ∨ ∃ q, c = .own q ∧ (j + m, q) ∈ listCells ls j kk)
  | [], j, kk, m, c, h => by simp [valCells] at h
  | l :: ls, j, kk, 0, c, h => by
    cases l <;> simp [valCells] at h <;> subst h <;> refine ⟨_, rfl, ?_⟩
    · exact .inl ⟨rfl, rfl⟩
    · exact .inl ⟨rfl, rfl⟩
    · exact .inl ⟨rfl, rfl⟩
    · exact .inr ⟨kk, rfl, by simp [listCells]⟩
  | l :: ls, j, kk, m + 1, c, h => by
    cases l
    all_goals
      simp only [valCells, List.getElem?_cons_succ] at h
      obtain ⟨l', h1, h2⟩ := valCells_get (j := j + 1) h
      refine ⟨l', by simpa using h1, ?_⟩
      rcases h2 with h2 | ⟨q, h2, h3⟩
      · exact .inl h2
      · refine .inr ⟨q, h2, ?_⟩
        simp only [listCells]
        rw [show j + (m + 1) = j + 1 + m by omega]
        first | exact List.mem_cons_of_mem _ h3 | exact h3
def elB (bs : List (Nat × Blk)) (k : Nat) (E : ETy) : Option ((Unit → List E.α) × Option (Unit → Nat) × List (Option Nat)) :=
  match getB bs k with
  | some (.own E' xs false) => (match castL E E' xs with | some ys => some (ys, none, List.replicate E.sz none) | none => none)
  | some (.hol E' xs i fs) => (match castL E E' xs with | some ys => some (ys, some i, fs) | none => none)
  | _ => none
def wrapV (tab : Tab) (T : TypeId) (cs : List C) : V :=
  match tget tab T with
  | some (.st _ _ _ _) => .agg cs
  | some _ => (match cs with | [c] => .c c | _ => .c .undef)
  | none => .c .undef
def vcLoadE (tab : Tab) (σ : SS) (K : SS → Prop) (T : TypeId) (d k : Nat) (E : ETy) (i : Unit → Nat) (off : Nat) : Prop :=
  match closeB σ.blk k with
  | some bs =>
    match elB bs k E, szT tab T with
    | some (xs, none, _), some n =>
      if off + n ≤ E.sz then
        match openN E xs i k (listCells (((cellsT E (getE E xs i)).drop off).take n) off (8 * d)) (List.replicate E.sz none) (setB bs k (.hol E xs i (List.replicate E.sz none))) with
        | some bs' => K (({ σ with blk := bs' } : SS).put (some d) (wrapV tab T (valCells (((cellsT E (getE E xs i)).drop off).take n) (8 * d))))
        | none => False
      else False
    | _, _ => False
  | none => False
inductive Sv (E : ETy) (t : Unit → List E.α) (K : (Unit → List E.α) → Prop) : Prop where
  | mk (u : Unit → List E.α) (h : t () = u ()) (hk : K u)
theorem Sv.keep {E : ETy} {t : Unit → List E.α} {K : (Unit → List E.α) → Prop} (hk : K t) : Sv E t K := ⟨t, rfl, hk⟩
def stE (σ : SS) (K : SS → Prop) (k : Nat) (E : ETy) (xs : Unit → List E.α) (i : Unit → Nat) (fs : List (Option Nat)) (off n : Nat) (ls : List Lf) (ks : List Nat) : Prop :=
  match toE E (spliceL (cellsT E (getE E xs i)) off ls) with
  | some x => if ls.length = n ∧ off + n ≤ E.sz ∧ nodupB (k :: ks) = true then Sv E (fun _ => (xs ()).set (i ()) (x ())) fun ys => K { σ with blk := setB (killL σ.blk (k :: ks)) k (mkHol E ys i (clearF fs off ls.length)) } else False
  | none => False
def vcStoreE (tab : Tab) (σ : SS) (K : SS → Prop) (T : TypeId) (k : Nat) (E : ETy) (i : Unit → Nat) (off : Nat) (v : V) : Prop :=
  match elB σ.blk k E, szT tab T, cellsV v with
  | some (xs, oi, fs), some n, some cs =>
    match mkCells σ.blk (((zOf E).drop off).take n) cs with
    | some (ls, ks) =>
      match oi with
      | none => stE σ K k E xs i fs off n ls ks
      | some i' => Ob (fun _ => i () = i' ()) fun _ => stE σ K k E xs i' fs off n ls ks
    | none => False
  | _, _, _ => False
section
variable {P : Program} {tab : Tab} (hT : tabB P tab = true) {Γ : Ctx} {H : Hp}
theorem lf_list {E E' : ETy} {t : Unit → List E'.α} {u : Unit → List E.α} (h : Lf.list E' t = Lf.list E u) {B : (E : ETy) → (Unit → List E.α) → Prop} (hB : B E' t) : B E u := by
  injection h with h1 h2
  subst h1
  have := eq_of_heq h2
  subst this
  exact hB
theorem elB_ok {w : World} {bs : List (Nat × Blk)} {ρ : Rho} {D : Nat → Prop} {k : Nat} {E : ETy} {xs : Unit → List E.α} {oi : Option (Unit → Nat)} {fs : List (Option Nat)} (h : elB bs k E = some (xs, oi, fs))
    (hb : ∀ B, getB bs k = some B → BlkR w.heap H ρ D B (ρ k)) {i : Unit → Nat} {b o n c : Nat} (hv : (ρ k).1 = .slice (some ⟨b, o, none⟩) n c) (hi : i () < n) :
    BlkR w.heap H ρ D (.hol E xs (oi.getD i) fs) (ρ k) ∧ n = (xs ()).length ∧ (∃ B, getB bs k = some B ∧ ∀ x, 0 < (ρ k).2 x → Top B (ρ k) x) ∧ (oi = none → fs = List.replicate E.sz none ∧ getB bs k = some (.own E xs false)) := by
  unfold elB at h
  split at h
  · rename_i E' xs' hg
    split at h
    · rename_i ys hc
      simp only [Option.some.injEq, Prod.mk.injEq] at h
      obtain ⟨rfl, rfl, rfl⟩ := h
      have h0 := hb _ hg
      have hlf := castL_ok hc
      have hn : n = (ys ()).length ∧ BlkR w.heap H ρ D (.own E ys false) (ρ k) := by
        have h1 : BlkR w.heap H ρ D (.own E ys false) (ρ k) := lf_list hlf (B := fun E u => BlkR w.heap H ρ D (.own E u false) (ρ k)) h0
        have h2 : OwnL w.heap (.list E ys) (ρ k).1 (ρ k).2 := h1
        obtain ⟨b', c', h3, _⟩ := OwnL.slice h2
        rw [hv] at h3
        simp only [Value.slice.injEq] at h3
        exact ⟨h3.2.1, h1⟩
      obtain ⟨rfl, h1⟩ := hn
      have hgo : getB bs k = some (.own E ys false) := by
        rw [hg]
        exact lf_list hlf (B := fun E u => some (Blk.own E' xs' false) = some (Blk.own E u false)) rfl
      exact ⟨own_hol h1 hi (by simp), rfl, ⟨_, hg, fun x hx => hx⟩, fun _ => ⟨rfl, hgo⟩⟩
    · cases h
  · rename_i E' xs' i' fs' hg
    split at h
    · rename_i ys hc
      simp only [Option.some.injEq, Prod.mk.injEq] at h
      obtain ⟨rfl, rfl, rfl⟩ := h
      have h0 := hb _ hg
      have h1 : BlkR w.heap H ρ D (.hol E ys i' fs') (ρ k) := lf_list (castL_ok hc) (B := fun E u => BlkR w.heap H ρ D (.hol E u i' fs') (ρ k)) h0
      have hn : n = (ys ()).length := by
        obtain ⟨b', o', c', _, _, _, _, h3, _⟩ := h1
        rw [hv] at h3
        simp only [Value.slice.injEq] at h3
        exact h3.2.1
      exact ⟨h1, hn, ⟨_, hg, fun x hx => hx⟩, fun h => by cases h⟩
    · cases h
  · cases h
theorem openN_ok (hd0 : Γ.hd = []) {E : ETy} {xs : Unit → List E.α} {i : Unit → Nat} {k : Nat} {env : List V} {a : Act} {w : World} : ∀ {l : List (Nat × Nat)} {fs : List (Option Nat)} {bs bs' : List (Nat × Blk)} {ρ : Rho},
    openN E xs i k l fs bs = some bs' → RelH Γ H ρ { env := env, blk := bs } a w → getB bs k = some (.hol E xs i fs) →
    ∃ ρ', RelH Γ H ρ' { env := env, blk := bs' } a w ∧ (∀ q, dom bs q → dom bs' q ∧ (ρ' q).1 = (ρ q).1) ∧
      ∀ p ∈ l, dom bs' p.2 ∧ ∃ b o n c cs e fz, (ρ k).1 = .slice (some ⟨b, o, none⟩) n c ∧ w.heap[b]? = some (.cells cs e fz) ∧ (ρ' p.2).1 = cs.getD (o + (i () * E.sz + p.1)) Go.undef
  | [], fs, bs, bs', ρ, h, r, hk => by
    simp only [openN, Option.some.injEq] at h
    subst h
    exact ⟨ρ, r, fun q hq => ⟨hq, rfl⟩, fun p hp => by cases hp⟩
  | (j, kk) :: l, fs, bs, bs', ρ, h, r, hk => by
    simp only [openN] at h
    split at h
    · rename_i E' ys hj hf hkk
      obtain ⟨ρ1, r1, g1, g2⟩ := RelH.open1 hd0 r hk hkk hj hf
      have hkd : dom bs k := getB_dom hk
      have hk1 : getB (setB (insB (setB bs k .dead) kk (.own E' ys false)) k (.hol E xs i (fs.set j (some kk)))) k = some (.hol E xs i (fs.set j (some kk))) := getB_setB_same (dom_insB.2 (.inr (dom_setB.2 hkd)))
      obtain ⟨ρ2, r2, g3, g4⟩ := openN_ok hd0 h r1 hk1
      have hd1 : ∀ q, dom bs q → dom (setB (insB (setB bs k .dead) kk (.own E' ys false)) k (.hol E xs i (fs.set j (some kk)))) q := fun q hq => dom_setB.2 (dom_insB.2 (.inr (dom_setB.2 hq)))
      refine ⟨ρ2, r2, fun q hq => ⟨(g3 q (hd1 q hq)).1, by rw [(g3 q (hd1 q hq)).2, g1 q hq]⟩, fun p hp => ?_⟩
      rcases List.mem_cons.1 hp with rfl | hp
      · have hq := g3 kk (dom_setB.2 (dom_insB.2 (.inl rfl)))
        obtain ⟨b, o, n, c, cs, e, fz, q1, q2, q3⟩ := g2
        exact ⟨hq.1, b, o, n, c, cs, e, fz, q1, q2, by rw [hq.2]; exact q3⟩
      · obtain ⟨q0, b, o, n, c, cs, e, fz, q1, q2, q3⟩ := g4 p hp
        exact ⟨q0, b, o, n, c, cs, e, fz, by rw [← g1 k hkd]; exact q1, q2, q3⟩
    · cases h
include hT in
theorem szT_info {T : TypeId} {n : Nat} (hsz : szT tab T = some n) : ∃ i, P.info? T = some i ∧ i.size = n := by
  unfold szT at hsz
  split at hsz
  · rename_i hti; cases hsz
    obtain ⟨fields, _, _, i, cs, h1, h2, _⟩ := ti_st (tget_ok hT hti)
    exact ⟨i, h1, h2⟩
  · rename_i ti hne hti; cases hsz
    have sc : ∀ {t : TypeId} {z : Z}, tiB P t (.sc z) = true → ∃ i, P.info? t = some i ∧ i.size = 1 := fun {t z} h => by
      obtain ⟨_, i, v, h1, h2, _⟩ := ti_sc h; exact ⟨i, h1, h2⟩
    have ht := tget_ok hT hti
    cases ti with
    | st n fs z q => exact (hne _ _ _ _ rfl).elim
    | sl E elem bytes => exact sc (ti_sl' ht)
    | sc z => exact sc ht
    | it k => exact sc (ti_it ht).2
    | bt => exact sc (ti_bt ht).2
    | ss => exact sc (ti_ss ht).2
    | mp kt et => exact sc (ti_mp ht).2.2.2
  · cases hsz
section
variable {ρ : Rho} {σ : SS} {a : Act} {w : World} (r : RelH Γ H ρ σ a w)
include hT r
theorem vcLoadE_ok (hd0 : Γ.hd = []) {K : SS → Prop} {T : TypeId} {d k : Nat} {E : ETy} {i : Unit → Nat} {off : Nat} {p : Value} (h : vcLoadE tab σ K T d k E i off) (hp : RV H ρ (dom σ.blk) (.c (.oel k E i off)) p) :
    ∃ σ' y ρ', K σ' ∧ RelH Γ H ρ' σ' (a.put (some d) y) w ∧ (Instr.loadAt T p).run P w = .ok y w := by
  unfold vcLoadE at h
  split at h
  · rename_i bs hcl
    split at h
    · rename_i xs fs n hel hsz
      split at h
      · rename_i hoff
        split at h
        · rename_i bs' hop
          obtain ⟨ρ1, r1, f1⟩ := RelH.close hd0 r hcl
          obtain ⟨_, b, o, n', c, hv, hi, rfl⟩ := hp
          have hv1 : (ρ1 k).1 = .slice (some ⟨b, o, none⟩) n' c := by rw [f1]; exact hv
          obtain ⟨hB, rfl, ⟨B, hgB, hBt⟩, hown⟩ := elB_ok (i := i) hel (fun B hB => r1.b.blk k B (getB_mem hB)) hv1 hi
          obtain ⟨rfl, hgo⟩ := hown rfl
          have hB : BlkR w.heap H ρ1 (dom bs) (.hol E xs i (List.replicate E.sz none)) (ρ1 k) := hB
          have hkd : dom bs k := getB_dom hgo
          have r2 : RelH Γ H ρ1 { env := σ.env, blk := setB bs k (.hol E xs i (List.replicate E.sz none)) } a w :=
            RelH.setBlk (σ := { env := σ.env, blk := bs }) r1 hgo (fun _ _ => rfl) (Ext.refl _) hB (fun x hx => hx) (fun x hx => hx)
          obtain ⟨ρ3, r3, g3, g4⟩ := openN_ok hd0 hop r2 (getB_setB_same hkd)
          obtain ⟨b', o', c', cs, e, fz, S, h1, h2, h3, h4, h5, h6, h7, h8, h9⟩ := hB
          rw [hv1] at h1
          simp only [Value.slice.injEq, Option.some.injEq, Addr.mk.injEq, and_true] at h1
          obtain ⟨⟨rfl, rfl⟩, _, rfl⟩ := h1
          have hxi : (xs ())[i ()]? = some (getE E xs i ()) := by
            simp only [getE, List.getD_eq_getElem?_getD, List.getElem?_eq_getElem h8, Option.getD_some]
          have hin : i () * E.sz + E.sz ≤ (xs ()).length * E.sz := by
            have := Nat.mul_le_mul_right E.sz (show i () + 1 ≤ (xs ()).length from h8)
            rwa [Nat.add_mul, Nat.one_mul] at this
          have hcap := Nat.mul_le_mul_right E.sz h5
          have hval : ∀ (m : Nat) cv, (valCells (((cellsT E (getE E xs i)).drop off).take n) (8 * d))[m]? = some cv → RC H ρ3 (dom bs') cv (cs.getD (o + i () * E.sz + off + m) Go.undef) := fun m cv hm => by
            obtain ⟨l, q1, q2⟩ := valCells_get (j := off) hm
            rw [List.getElem?_take, List.getElem?_drop] at q1
            split at q1
            · rename_i hmn
              rcases q2 with ⟨q2, rfl⟩ | ⟨q, rfl, q3⟩
              · have q4 := h9 (i ()) _ hxi (off + m) l q1
                rw [filled_none (by simp)] at q4
                have q5 : OwnL w.heap l (cs.getD (o + (i () * E.sz + (off + m))) Go.undef) (S (i ()) (off + m)) := q4
                rw [show o + i () * E.sz + off + m = o + (i () * E.sz + (off + m)) by omega]
                exact q5.rl_sc q2
              · obtain ⟨q4, b2, o2, n2, c2, cs2, e2, fz2, q5, q6, q7⟩ := g4 _ q3
                rw [hv1] at q5
                simp only [Value.slice.injEq, Option.some.injEq, Addr.mk.injEq, and_true] at q5
                obtain ⟨⟨rfl, rfl⟩, _, _⟩ := q5
                rw [h3] at q6
                cases q6
                refine ⟨q4, ?_⟩
                rw [q7, show o + i () * E.sz + off + m = o + (i () * E.sz + (off + m)) by omega]
            · cases q1
          have hlen : (((cellsT E (getE E xs i)).drop off).take n).length = n := by
            rw [List.length_take, List.length_drop, cellsT_len]; omega
          unfold szT at hsz
          unfold wrapV at h
          split at hsz
          · rename_i m fs' z q hti
            have hsz : m = n := by simpa using hsz
            subst hsz
            rw [hti] at h
            obtain ⟨dd, ii, h10, h11, h12, h13⟩ := ti_agg (tget_ok hT hti)
            refine ⟨_, .agg ((List.range ii.size).map fun j => cs.getD (o + i () * E.sz + off + j) Go.undef).toArray, ρ3, h, RelH.put (v := .agg (valCells (((cellsT E (getE E xs i)).drop off).take m) (8 * d))) r3 (x := .agg ((List.range ii.size).map fun j => cs.getD (o + i () * E.sz + off + j) Go.undef).toArray) ⟨_, rfl, ?_⟩ (some d), run_loadAgg h10 h11 h12 h3 (by rw [h13]; omega)⟩
            refine ⟨by simp [valCells_len, hlen, h13], fun m cv hm => ?_⟩
            have hmn : m < ii.size := by have := lt_of_get hm; rw [valCells_len, hlen] at this; omega
            rw [Array.getD_eq_getD_getElem?]
            simp only [List.getElem?_toArray, List.getElem?_map, List.getElem?_range hmn, Option.map_some, Option.getD_some]
            exact hval m cv hm
          · rename_i ti hne hti
            simp only [Option.some.injEq] at hsz
            subst hsz
            rw [hti] at h
            obtain ⟨dd, ii, h10, h11⟩ := ti_agg (tget_ok hT hti)
            have h11 : aggD dd = false := by
              split at h11
              · exact (hne _ _ _ _ rfl).elim
              · exact h11
            have hlt : o + i () * E.sz + off < cs.size := by omega
            refine ⟨_, cs.getD (o + i () * E.sz + off) Go.undef, ρ3, h, RelH.put r3 ?_ (some d), run_loadSc h10 h11 h3 (getD_some hlt)⟩
            split
            · rename_i heq
              cases heq
              exact (hne _ _ _ _ rfl).elim
            · split
              · rename_i cv hcv
                exact hval 0 cv (by rw [hcv]; rfl)
              · trivial
            · rename_i hh; cases hh
          · cases hsz
        · cases h
      · cases h
    · cases h
  · cases h
theorem vcStoreE_ok {K : SS → Prop} {T : TypeId} {k : Nat} (hne : ∀ p ∈ Γ.hd, p.1 ≠ k) {E : ETy} {i : Unit → Nat} {off : Nat} {v : V} {p u : Value} (h : vcStoreE tab σ K T k E i off v) (hp : RV H ρ (dom σ.blk) (.c (.oel k E i off)) p) (hv : RV H ρ (dom σ.blk) v u) :
    ∃ σ' w' ρ', K σ' ∧ RelH Γ H ρ' σ' a w' ∧ (∀ y, (ρ k).2 y = 0 → w'.heap[y]? = w.heap[y]?) ∧ (Instr.storeAt T p u).run P w = .ok () w' := by
  have key : ∀ {xs : Unit → List E.α} {i' : Unit → Nat} {fs : List (Option Nat)} {n : Nat} {ls : List Lf} {ks : List Nat} {cs : List C} {b o n' c : Nat}, (ρ k).1 = .slice (some ⟨b, o, none⟩) n' c → i () = i' () → p = .pointer (some ⟨b, o + i () * E.sz + off, none⟩) → dom σ.blk k →
      BlkR w.heap H ρ (dom σ.blk) (.hol E xs i' fs) (ρ k) → (∀ x, 0 < (ρ k).2 x → H x = none) → szT tab T = some n → cellsV v = some cs → mkCells σ.blk (((zOf E).drop off).take n) cs = some (ls, ks) → stE σ K k E xs i' fs off n ls ks →
      ∃ σ' w' ρ', K σ' ∧ RelH Γ H ρ' σ' a w' ∧ (∀ y, (ρ k).2 y = 0 → w'.heap[y]? = w.heap[y]?) ∧ (Instr.storeAt T p u).run P w = .ok () w' := by
    intro xs i' fs n ls ks cs b o n' c hhd hii hpv hkd hB hHk hsz hcs hmk hst
    unfold stE at hst
    split at hst
    · rename_i x hx
      split at hst
      · rename_i hcond
        obtain ⟨hln, hoff, hn⟩ := hcond
        have hc := hv.cells hcs fun k hk => by
          rw [hk] at hv
          exact own_one r hv
        obtain ⟨S, g1, g2, g3, g4, g5⟩ := mkCells_ok r hmk (f := fun j => u.cells.getD j Go.undef) hc.2
        have hu : u.cells.toList.length = ls.length := by rw [Array.length_toList, hc.1, g2]
        have hcell : cellsT E x = spliceL (cellsT E (getE E xs i')) off ls := toE_ok hx fun t ht => by
          have hsl : (spliceL (cellsT E (getE E xs i')) off ls).length = E.sz := by
            simp only [spliceL, List.length_append, List.length_take, List.length_drop, cellsT_len]; omega
          have h1 : E.sz = 1 := by rw [← hsl, ht]; rfl
          have hint : ∀ (v : Value) (T : Nat → Nat), OwnL w.heap (.int .u8 t) v T → IntKind.u8.has (t ()) := fun v T h => by
            cases h with
            | int hr => exact hr
          have h0 : (spliceL (cellsT E (getE E xs i')) off ls)[0]? = some (.int .u8 t) := by rw [ht]; rfl
          rw [splice_get (by rw [cellsT_len]; omega)] at h0
          split at h0
          · exact hint _ _ (g5 _ _ h0)
          · obtain ⟨b', o', c', cs', e, fz, S', h1', h2, h3, h4, h5, h6, h7, h8, h9⟩ := hB
            have hxi : (xs ())[i' ()]? = some (getE E xs i' ()) := by
              simp only [getE, List.getD_eq_getElem?_getD, List.getElem?_eq_getElem h8, Option.getD_some]
            have hcE : IntKind.u8.has (t ()) := by
              cases E <;> first | (exfalso; simp only [ETy.sz] at h1; omega) | skip
              · simp [cellsT] at h0
              · simp only [cellsT, List.getElem?_cons_zero, Option.some.injEq, Lf.int.injEq, true_and] at h0
                subst h0
                refine has_u8.2 ⟨?_, ?_⟩
                · show (0 : Int) ≤ ((getE .byte xs i' ()).toNat : Int)
                  omega
                · show ((getE .byte xs i' ()).toNat : Int) ≤ 255
                  have := (getE .byte xs i' ()).toNat_lt
                  omega
              · simp [cellsT] at h0
              · simp [cellsT] at h0
            exact hcE
        obtain ⟨w', g6, g8, ρ', g7⟩ := r.storeHol (P := P) hne hn hkd hB hHk g3 hhd hu (by omega) (T := fun j => S.getD j fun _ => 0) (fun j l hj => by
            have := g5 j l hj
            rw [List.getD_eq_getElem?_getD, Array.getElem?_toList, ← Array.getD_eq_getD_getElem?]
            exact this) (fun y => by rw [← g4 y, ← sumF_eq, g1]) hcell
        obtain ⟨ii, hii', his⟩ := szT_info hT hsz
        obtain ⟨u', hu', hst⟩ := hst
        have he : (fun _ => (xs ()).set (i' ()) (x ())) = u' := funext fun _ => hu'
        rw [he] at g7
        refine ⟨_, w', ρ', hst, g7, g8, ?_⟩
        have hcs' : ¬ (u.cells.size ≠ ii.size) := by rw [hc.1, ← g2, hln, his]; simp
        rw [← hii] at g6
        simp only [hpv, Instr.storeAt, Instr.sureAddr, storeVar, Sem.run_bind, Sem.run_pure, Result.andThen_ok, run_szOf w hii']
        rw [if_neg hcs']
        exact g6
      · cases hst
    · cases hst
  unfold vcStoreE at h
  obtain ⟨_, b, o, n', c, hhd, hi, hpv⟩ := hp
  split at h
  · rename_i xs oi fs n cs hel hsz hcs
    obtain ⟨hB, rfl, ⟨B, hgB, hBt⟩, hown⟩ := elB_ok (i := i) hel (fun B hB => r.b.blk k B (getB_mem hB)) hhd hi
    have hHk : ∀ x, 0 < (ρ k).2 x → H x = none := fun x hx => r.b.tops k B (getB_mem hgB) x (hBt x hx)
    split at h
    · rename_i ls ks hmk
      split at h
      · exact key hhd rfl hpv (getB_dom hgB) hB hHk hsz hcs hmk h
      · rename_i i'
        obtain ⟨hii, h⟩ := h
        exact key hhd hii hpv (getB_dom hgB) hB hHk hsz hcs hmk h
    · cases h
  · cases h
end
end
end Go.Proofs.Ytlochjpjlhkjaaa

