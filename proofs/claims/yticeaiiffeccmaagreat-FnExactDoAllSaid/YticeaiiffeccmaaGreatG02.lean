/- Parts of a proof. No conditions. -/

import Derived.Test.YticeaiiffeccmaaGreatG01
import Derived.Deep.AppendSrc
import Derived.Great.BuildSlice
import Derived.Laws.MakeOwn
set_option linter.unusedSimpArgs false
set_option linter.unusedVariables false
namespace Go.Proofs.YticeaiiffeccmaaGreat
open Go
theorem qX {bs : List (Nat × ar)} {k : Nat} {B : ar} (h : (k, B) ∈ bs) : ax bs k := List.mem_map.2 ⟨_, h, rfl⟩
theorem uG {ρ : aL} {bs : List (Nat × ar)} {k j : Nat} (hk : ax bs k) (hj : ax bs j) (aX : j ≠ k) (x : Nat) : (ρ k).2 x + (ρ j).2 x ≤ aS ρ bs x := by
 rw [Dm hk x];have h := Dn hj aX;obtain ⟨⟨j', B⟩, h1, h2⟩ := List.mem_map.1 h;simp only at h2;subst h2;have := mo (ρ := ρ) h1 x;omega
theorem aM.uH {Γ : Ctx} {H : Hp} {ρ : aL} {σ : SS} {a : Act} {w w' : World} (r : aM Γ H ρ σ a w) {k : Nat} {B B' : ar} (hk : aQ σ.ai k = some B)
   (hold : ∀ x, ¬ fL B (ρ k) x → w'.heap[x]? = w.heap[x]?) (bg : Ext w w')
   (hB : cQ w'.heap H ρ (ax σ.ai) B' (ρ k)) (qY : ∀ x, fL B' (ρ k) x → fL B (ρ k) x) (hS : ∀ x, fL B (ρ k) x → 0 < (ρ k).2 x) :
   aM Γ H ρ { σ with ai := cd σ.ai k B' } a w' := by
 have hm := di hk;have hd := qX hm;have e : ax (cd σ.ai k B') = ax σ.ai := by funext j; exact propext eV
 refine ⟨⟨?_, by rw [sb]; exact r.b.nd, r.b.h0, ?_, ?_, ?_, ?_, ?_⟩, by rw [e]; exact r.e, r.d, r.n.trans bg, by rw [e]; exact r.hd, by rw [e]; exact r.hm⟩
 · intro j hj; exact r.b.oc j (eV.1 hj)
 · intro b o hb;rw [hold b fun ht => by have := r.b.gY k B hm b ht; rw [this] at hb; cases hb];exact r.b.hh b o hb
 · intro j A hj;rw [e];rcases lC r.b.nd hj with ⟨rfl, rfl⟩ | ⟨aX, hj⟩
   · exact hB
   · refine (r.b.ai j A hj).mono (jE.refl _ _ _) fun b hb => hold b fun ht => ?_;have h1 := uG (ρ := ρ) hd (qX hj) aX b;have h2 := r.b.sum b;have h3 := hS b ht;omega
 · intro x;have := sd (ρ := ρ) (ρ' := ρ) r.b.nd (B := B') hd (fun _ _ => rfl) x;have := r.b.sum x;show aS ρ (cd σ.ai k B') x ≤ 1;omega
 · intro j A hj x hx;rcases lC r.b.nd hj with ⟨rfl, rfl⟩ | ⟨aX, hj⟩
   · exact r.b.fresh _ B hm x hx
   · exact r.b.fresh j A hj x hx
 · intro j A hj x hx;rcases lC r.b.nd hj with ⟨rfl, rfl⟩ | ⟨aX, hj⟩
   · exact r.b.gY _ B hm x (qY x hx)
   · exact r.b.gY j A hj x hx
theorem dU : ∀ (us : List Value) (vs : Array Value) (o : Nat), (dz vs o us).size = vs.size
 | [], _, _ => rfl
 | u :: us, vs, o => by simp only [dz]; rw [dU us]; simp
theorem JW {w : World} {b o : Nat} {vs : Array Value} {e : TypeId} {fz : Nat × Nat} (hb : w.heap[b]? = some (.cells vs e fz)) (hf : NF vs fz) (ho : o < vs.size) : w.frozen? ⟨b, o, none⟩ = false := by
 obtain ⟨lo, hi⟩ := fz;simp only [World.frozen?, hb];rcases hf with hf | hf
 · simp only at hf;have : ¬ (lo ≤ o ∧ o < hi) := by omega
   simpa using this
 · simp only at hf;have : ¬ (lo ≤ o ∧ o < hi) := by omega
   simpa using this
theorem JX (w : World) (b o : Nat) (v : Value) {vs : Array Value} {e : TypeId} {fz : Nat × Nat} (hb : w.heap[b]? = some (.cells vs e fz)) :
   (w.setCell ⟨b, o, none⟩ v).heap[b]? = some (.cells (vs.setIfInBounds o v) e fz) ∧ (∀ x, x ≠ b → (w.setCell ⟨b, o, none⟩ v).heap[x]? = w.heap[x]?) ∧ Ext w (w.setCell ⟨b, o, none⟩ v) := by
 obtain ⟨lo, hi⟩ := fz;refine ⟨?_, fun x hx => ?_, ⟨by simp [World.setCell], rfl, rfl, fun a => World.frozen?_setCell _ _ _ _⟩⟩
 · simp only [World.setCell, Array.getElem?_modify, hb];simp
 · simp only [World.setCell, Array.getElem?_modify];rw [if_neg (Ne.symm hx)]
theorem pJ {P : Program} : ∀ (us : List Value) (w : World) (b o i : Nat) (vs : Array Value) (e : TypeId) (fz : Nat × Nat), w.heap[b]? = some (.cells vs e fz) → NF vs fz → o + i + us.length ≤ vs.size →
   (∀ u ∈ us, u.oneCell' = true) →
   ∃ w', (storeCells ⟨b, o, none⟩ us i).run P w = .ok () w' ∧ w'.heap[b]? = some (.cells (dz vs (o + i) us) e fz) ∧ (∀ x, x ≠ b → w'.heap[x]? = w.heap[x]?) ∧ Ext w w'
 | [], w, b, o, i, vs, e, fz, hb, _, _, _ => ⟨w, rfl, hb, fun _ _ => rfl, Ext.refl w⟩
 | u :: us, w, b, o, i, vs, e, fz, hb, hf, hs, h1 => by
   simp only [List.length_cons] at hs;obtain ⟨g1, g2, g3⟩ := JX w b (o + i) u hb;have JY : NF (vs.setIfInBounds (o + i) u) fz := by rcases hf with h | h; exact .inl h; exact .inr (by simpa using h)
   obtain ⟨w', g4, g5, g6, g7⟩ := pJ (P := P) us (w.setCell ⟨b, o + i, none⟩ u) b o (i + 1) _ e fz g1 JY (by simp; omega) (fun x hx => h1 x (List.mem_cons_of_mem _ hx));refine ⟨w', ?_, g5, fun x hx => by rw [g6 x hx, g2 x hx], g3.trans g7⟩;simp only [storeCells, Sem.run_bind, eI];rw [run_store P w _ u .plain (h1 u List.mem_cons_self), cell_of hb (getD_some (show o + i < vs.size by omega)), JW hb hf (show o + i < vs.size by omega)];simpa using g4
def oA (tab : bj) (T : TypeId) : Option Nat :=
 match cR tab T with
 | some (.st n _ _ _) => some n
 | some _ => some 1
 | none => none
def zT (tab : bj) (T : TypeId) : Option (List Z) :=
 match cR tab T with
 | some (.st _ _ z _) => some z
 | some (.sc z) => some [z]
 | some (.sl E _ _) => some [.nl E]
 | some (.it k) => some [.i k]
 | some .bt => some [.bo]
 | some .ss => some [.st]
 | some (.mp _ _) => none
 | none => none
def gS (w w' : World) : Prop := ∀ (b : Nat) o, w.heap[b]? = some o → w'.heap[b]? = some o
theorem gS.refl (w : World) : gS w w := fun _ _ h => h
theorem gS.alloc (w : World) (o : Obj) : gS w (w.alloc o) := fun b _ h => by rw [alloc_old w o b (jJ h)]; exact h
def xa (tab : bj) (T : TypeId) : Bool :=
 match cR tab T with
 | some (.sl _ _ _) => true
 | some (.st n _ z _) => decide (n ≤ 7) && z.any fun z => match z with | .nl _ => true | _ => false
 | _ => false
def gG (tab : bj) (o : Oper) : Bool :=
 match o.op with
 | .store _ _ _ => true
 | .mapUpdate _ _ _ _ => true
 | .load T _ => xa tab T
 | .call c => match c.callee with
   | .builtin _ => true
   | .value (.func f) => (C1 tab f).isSome
   | _ => true
 | _ => false
def pK (Γ : Ctx) (H : Hp) (wr : Bool) (w : World) (aD : SS) (a' : Act) (w' : World) : Prop := (∃ ρ, aM Γ H ρ aD a' w') ∧ (wr = false → gS w w')
theorem pK.rel {Γ : Ctx} {H : Hp} {wr : Bool} {w : World} {aD : SS} {a' : Act} {w' : World} (h : pK Γ H wr w aD a' w') : Rel Γ aD a' w' := ⟨H, h.1⟩
def SS.set (σ : SS) (k : Nat) (B : ar) : SS := { σ with ai := cd σ.ai k B }
def SS.new (σ : SS) (k : Nat) (B : ar) : SS := { σ with ai := dj σ.ai k B }
def pL (tab : bj) (o : Oper) (σ : SS) (K : SS → Prop) : Prop :=
 match o.op, o.dst with
 | .box _ x, some d =>
   match nq (σ.ev x), aQ σ.ai (8 * d) with
   | some cs, none => K ((σ.new (8 * d) (.box cs)).put (some d) (.c (.ptr (8 * d) 0)))
   | _, _ => False
 | .alloc T, some d =>
   match zT tab T, aQ σ.ai (8 * d) with
   | some z, none => K ((σ.new (8 * d) (.box (z.map Z.c))).put (some d) (.c (.ptr (8 * d) 0)))
   | _, _ => False
 | .store T p v, none =>
   match σ.ev p, nq (σ.ev v), oA tab T with
   | .c (.ptr k off), some xs, some n =>
     match aQ σ.ai k with
     | some (.box cs) => if xs.length = n ∧ off + n ≤ cs.length ∧ xs.all C.wO = true then K (σ.set k (.box (wX cs off xs))) else False
     | _ => False
   | _, _, _ => False
 | .makeMap T none, some d =>
   match cR tab T, aQ σ.ai (8 * d) with
   | some (.mp _ _), none => K ((σ.new (8 * d) (.mp fun _ => [])).put (some d) (.c (.own (8 * d))))
   | _, _ => False
 | .lookup T x i false, some d =>
   match cR tab T, σ.ev x, σ.ev i with
   | some (.mp _ _), .c (.own k), .c (.lf (.int .i64 t)) =>
     match aQ σ.ai k with
     | some (.mp m) => K (σ.put (some d) (iV .i64 fun _ => eo (m ()) (t ())))
     | _ => False
   | _, _, _ => False
 | .mapUpdate T x i v, none =>
   match cR tab T, σ.ev x, σ.ev i, σ.ev v with
   | some (.mp _ _), .c (.own k), .c (.lf (.int .i64 t)), .c (.lf (.int .i64 u)) =>
     match aQ σ.ai k with
     | some (.mp m) => Ob (fun _ => (m ()).length < 9223372036854775807) fun _ => K (σ.set k (.mp fun _ => iJ (m ()) (t ()) (u ())))
     | _ => False
   | _, _, _, _ => False
 | .call c, some d =>
   match c.callee, c.args.toList, c.argTypes.toList with
   | .builtin .len, [x], [T] =>
     match cR tab T, σ.ev x with
     | some (.mp _ _), .c (.own k) =>
       match aQ σ.ai k with
       | some (.mp m) => K (σ.put (some d) (iV .i64 fun _ => ((m ()).length : Int)))
       | _ => False
     | _, _ => False
   | _, _, _ => False
 | _, _ => False
section
variable {P : Program} {tab : bj} (hT : eW P tab = true) {Γ : Ctx} {H : Hp} {ρ : aL} {σ : SS} {a : Act} {w : World} (r : aM Γ H ρ σ a w)
include hT r
omit hT r in
theorem jN {o : Oper} {a : Act} {w w' : World} {v : Value} {next : Act → World → Prop} {Q : Exit → Act → World → Prop} (h : (execOp a.eval o).run P w = .ok (.value v) w') (hn : next (a.put o.dst v) w') : o.wp P a w next Q := by
 unfold Oper.wp; rw [h]; exact hn
omit hT r in
theorem xb {o : Oper} {a : Act} {w w' : World} {next : Act → World → Prop} {Q : Exit → Act → World → Prop} (h : (execOp a.eval o).run P w = .ok .skip w') (hd : o.dst = none) (hn : next a w') : o.wp P a w next Q := by
 unfold Oper.wp; rw [h];simp only [Oper.upon, hd, Act.put];exact hn
omit r in
theorem JZ {T : TypeId} {z : List Z} (h : zT tab T = some z) : ∃ i v, P.info? T = some i ∧ i.zero = some v ∧ Z.gF z v.cells.toList = true := by
 have sc : ∀ {t : TypeId} {z : Z}, dY P t (.sc z) = true → ∃ i v, P.info? t = some i ∧ i.zero = some v ∧ Z.gF [z] v.cells.toList = true := fun {t z} h => by
   obtain ⟨_, i, v, h1, h2, h3, h4, h5⟩ := oe h;refine ⟨i, v, h1, h3, ?_⟩;have : v.cells = #[v] := by cases v <;> simp [Value.oneCell'] at h4 <;> rfl
   rw [this];simp [Z.gF, h5]
 unfold zT at h
 split at h
 · rename_i ba; cases h;obtain ⟨fields, _, _, i, cs, h1, h2, h3, h4⟩ := od (cA hT ba);exact ⟨i, _, h1, h3, h4⟩
 · rename_i ba; cases h; exact sc (cA hT ba)
 · rename_i ba; cases h; exact sc (wM (cA hT ba))
 · rename_i ba; cases h; exact sc (oh (cA hT ba)).2
 · rename_i ba; cases h; exact sc (qO (cA hT ba)).2
 · rename_i ba; cases h; exact sc (mr (cA hT ba)).2
 · cases h
 · cases h
theorem J0 {o : Oper} {K : SS → Prop} {Q : Exit → Act → World → Prop} {T : TypeId} {p v : Operand} {k off : Nat} (aZ : o.op = .store T p v) (hd : o.dst = none) (hp : σ.ev p = .c (.ptr k off)) (h : pL tab o σ K) :
   o.wp P a w (fun a' w' => ∃ aD, K aD ∧ aM Γ H ρ aD a' w' ∧ ∀ x, (ρ k).2 x = 0 → w'.heap[x]? = w.heap[x]?) Q := by
 have ev := j_ r.e;unfold pL at h;simp only [aZ, hd, hp] at h
 split at h
 · rename_i k' J1 xs n jq uq bg;cases jq
   split at h
   · rename_i cs hg
     split at h
     · rename_i hc;obtain ⟨lF, lG, xc⟩ := hc;have ep := ev p;rw [hp] at ep;obtain ⟨gm, b, hh, jI⟩ := ep
       have hv := (ev v).cells uq fun k hk => by
         have := ev v;rw [hk] at this;exact ur r this
       obtain ⟨b', vs, e, fz, h1, h2, h3, h4, h5⟩ := r.b.ai k _ (di hg);rw [hh] at h1;simp only [Value.pointer.injEq, Option.some.injEq, Addr.mk.injEq, and_true] at h1;subst h1
       have dS : ∀ u ∈ (a.eval v).cells.toList, u.oneCell' = true := by
         intro u hu;obtain ⟨j, hj, zG⟩ := List.getElem_of_mem hu;have cO : j < xs.length := by rw [← hv.1]; simpa using hj
         have h6 := hv.2 j _ (List.getElem?_eq_getElem cO);rw [Array.getD_eq_getD_getElem?, Array.getElem?_eq_getElem (by simpa using hj)] at h6;simp only [Option.getD_some] at h6;have h7 := List.all_eq_true.1 xc _ (List.getElem_mem cO);rw [← zG];simp only [Array.getElem_toList];exact (RC.cells h6 h7 fun k hk => by rw [hk] at h6; obtain ⟨h8, h9⟩ := h6; rw [h9]; exact r.b.oc k h8).2
       obtain ⟨w', h6, h7, h8, h9⟩ := pJ (P := P) (a.eval v).cells.toList w b off 0 vs e fz h3 h4 (by rw [h5.1]; have := hv.1; simp only [Array.length_toList]; omega) dS
       have zH : ∃ i, P.info? T = some i ∧ i.size = n := by
         unfold oA at bg
         split at bg
         · rename_i ba; cases bg;obtain ⟨fields, _, _, i, cs, h1, h2, _⟩ := od (cA hT ba);exact ⟨i, h1, h2⟩
         · rename_i ti aX ba; cases bg
           have sc : ∀ {t : TypeId} {z : Z}, dY P t (.sc z) = true → ∃ i, P.info? t = some i ∧ i.size = 1 := fun {t z} h => by
             obtain ⟨_, i, v, h1, h2, _⟩ := oe h; exact ⟨i, h1, h2⟩
           have ht := cA hT ba;cases ti with
           | st n fs z q => exact (aX _ _ _ _ rfl).elim
           | sl E elem bytes => exact sc (wM ht)
           | sc z => exact sc ht
           | it k => exact sc (oh ht).2
           | bt => exact sc (qO ht).2
           | ss => exact sc (mr ht).2
           | mp kt et => exact sc (pA ht).2.2.2
         · cases bg
       obtain ⟨i, hi, zI⟩ := zH;refine xb (w' := w') ?_ hd ⟨_, h, ?_, fun x hx => h8 x fun he => by rw [he, h2] at hx; simp [one] at hx⟩
       · have dA : ¬ ((a.eval v).cells.size ≠ i.size) := by have := hv.1; omega
         simp only [execOp, aZ, Instr.storeAt, jI, Instr.sureAddr, storeVar, Sem.run_bind, Sem.run_pure, Result.andThen_ok, lD w hi];rw [if_neg dA];simp only [Result.andThen_ok, h6]
       · refine r.uH hg (fun x hx => h8 x fun he => hx ?_) h9 ?_ (fun x hx => hx) (fun x hx => hx)
         · rw [he]; show 0 < (ρ k).2 b; rw [h2]; simp [one]
         · refine ⟨b, _, e, fz, hh, h2, h7, ?_, ?_⟩
           · rcases h4 with h | h
             · exact .inl h
             · exact .inr (by rw [dU]; exact h)
           · rw [Nat.add_zero];exact cU.wY xs _ h5 (by simpa using hv)
     · cases h
   · cases h
 · cases h
theorem zJ {o : Oper} {K : SS → Prop} {Q : Exit → Act → World → Prop} (h : pL tab o σ K) :
   o.wp P a w (fun a' w' => ∃ aD, K aD ∧ pK Γ H (gG tab o) w aD a' w') Q := by
 have ev := j_ r.e;unfold pL at h
 split at h
 · rename_i T x d aZ hd
   split at h
   · rename_i cs dA hg
     have hc := (ev x).cells dA fun k hk => by
       have := ev x;rw [hk] at this;exact ur r this
     obtain ⟨ρ', r1, h1, h2⟩ := r.Dl hg T hc;refine jN (v := .pointer (some ⟨w.heap.size, 0, none⟩)) (w' := w.alloc (.cells (a.eval x).cells T)) ?_ ⟨_, h, ⟨ρ', ?_⟩, fun _ => gS.alloc w _⟩
     · simp [execOp, aZ, Instr.box, newVar, newRow]
     · rw [hd];refine aM.put r1 (v := .c (.ptr (8 * d) 0)) ⟨fO.2 (.inl rfl), _, h1, rfl⟩ (some d)
   · cases h
 · rename_i T d aZ hd
   split at h
   · rename_i z hz hg;obtain ⟨i, v, hi, hv, pC⟩ := JZ hT hz;have hc := Z.CY (H := H) (ρ := ρ) (D := ax σ.ai) pC;obtain ⟨ρ', r1, h1, h2⟩ := r.Dl hg T hc;refine jN (v := .pointer (some ⟨w.heap.size, 0, none⟩)) (w' := w.alloc (.cells v.cells T)) ?_ ⟨_, h, ⟨ρ', ?_⟩, fun _ => gS.alloc w _⟩
     · simp [execOp, aZ, Instr.alloc, newVar, newRow, C3 w hi hv]
     · rw [hd];simp only [Array.toArray_toList] at r1;refine aM.put r1 (v := .c (.ptr (8 * d) 0)) ⟨fO.2 (.inl rfl), _, h1, rfl⟩ (some d)
   · cases h
 · rename_i T p v aZ hd
   split at h
   · rename_i k off xs n hp uq bg
     split at h
     · rename_i cs hg
       split at h
       · rename_i hc;obtain ⟨lF, lG, xc⟩ := hc;have ep := ev p;rw [hp] at ep;obtain ⟨gm, b, hh, jI⟩ := ep
         have hv := (ev v).cells uq fun k hk => by
           have := ev v;rw [hk] at this;exact ur r this
         obtain ⟨b', vs, e, fz, h1, h2, h3, h4, h5⟩ := r.b.ai k _ (di hg);rw [hh] at h1;simp only [Value.pointer.injEq, Option.some.injEq, Addr.mk.injEq, and_true] at h1;subst h1
         have dS : ∀ u ∈ (a.eval v).cells.toList, u.oneCell' = true := by
           intro u hu;obtain ⟨j, hj, zG⟩ := List.getElem_of_mem hu;have cO : j < xs.length := by rw [← hv.1]; simpa using hj
           have h6 := hv.2 j _ (List.getElem?_eq_getElem cO);rw [Array.getD_eq_getD_getElem?, Array.getElem?_eq_getElem (by simpa using hj)] at h6;simp only [Option.getD_some] at h6;have h7 := List.all_eq_true.1 xc _ (List.getElem_mem cO);rw [← zG];simp only [Array.getElem_toList];exact (RC.cells h6 h7 fun k hk => by rw [hk] at h6; obtain ⟨h8, h9⟩ := h6; rw [h9]; exact r.b.oc k h8).2
         obtain ⟨w', h6, h7, h8, h9⟩ := pJ (P := P) (a.eval v).cells.toList w b off 0 vs e fz h3 h4 (by rw [h5.1]; have := hv.1; simp only [Array.length_toList]; omega) dS
         have zH : ∃ i, P.info? T = some i ∧ i.size = n := by
           unfold oA at bg
           split at bg
           · rename_i ba; cases bg;obtain ⟨fields, _, _, i, cs, h1, h2, _⟩ := od (cA hT ba);exact ⟨i, h1, h2⟩
           · rename_i ti aX ba; cases bg
             have sc : ∀ {t : TypeId} {z : Z}, dY P t (.sc z) = true → ∃ i, P.info? t = some i ∧ i.size = 1 := fun {t z} h => by
               obtain ⟨_, i, v, h1, h2, _⟩ := oe h; exact ⟨i, h1, h2⟩
             have ht := cA hT ba;cases ti with
             | st n fs z q => exact (aX _ _ _ _ rfl).elim
             | sl E elem bytes => exact sc (wM ht)
             | sc z => exact sc ht
             | it k => exact sc (oh ht).2
             | bt => exact sc (qO ht).2
             | ss => exact sc (mr ht).2
             | mp kt et => exact sc (pA ht).2.2.2
           · cases bg
         obtain ⟨i, hi, zI⟩ := zH;refine xb (w' := w') ?_ hd ⟨_, h, ⟨ρ, ?_⟩, fun hw => by simp [gG, aZ] at hw⟩
         · have dA : ¬ ((a.eval v).cells.size ≠ i.size) := by have := hv.1; omega
           simp only [execOp, aZ, Instr.storeAt, jI, Instr.sureAddr, storeVar, Sem.run_bind, Sem.run_pure, Result.andThen_ok, lD w hi];rw [if_neg dA];simp only [Result.andThen_ok, h6]
         · refine r.uH hg (fun x hx => h8 x fun he => hx ?_) h9 ?_ (fun x hx => hx) (fun x hx => hx)
           · rw [he]; show 0 < (ρ k).2 b; rw [h2]; simp [one]
           · refine ⟨b, _, e, fz, hh, h2, h7, ?_, ?_⟩
             · rcases h4 with h | h
               · exact .inl h
               · exact .inr (by rw [dU]; exact h)
             · rw [Nat.add_zero];exact cU.wY xs _ h5 (by simpa using hv)
       · cases h
     · cases h
   · cases h
 · rename_i T d aZ hd
   split at h
   · rename_i kt et ba hg;obtain ⟨ρ', r1, h1⟩ := r.JR hg;refine jN (v := .map (some w.heap.size)) (w' := w.alloc (.map #[] 0)) ?_ ⟨_, h, ⟨ρ', ?_⟩, fun _ => gS.alloc w _⟩
     · simp [execOp, aZ, Instr.makeMap]
     · rw [hd];exact aM.put r1 (v := .c (.own (8 * d))) ⟨fO.2 (.inl rfl), h1.symm⟩ (some d)
   · cases h
 · rename_i T x i d aZ hd
   split at h
   · rename_i kt et k t ba hx hi
     split at h
     · rename_i m hg;have ex := ev x;rw [hx] at ex;obtain ⟨gm, oB⟩ := ex;have ei := ev i;rw [hi] at ei;obtain ⟨zK, J2⟩ := RL.of_int ei;obtain ⟨b, es, c, h1, h2, h3, h4⟩ := r.b.ai k _ (di hg);obtain ⟨t1, t2, ⟨Ra, t3, t4⟩, _⟩ := pA (cA hT ba);have cI := Jh (P := P) t1 t2 t3 t4 h3 h4 (t ());refine jN (v := .int .i64 (eo (m ()) (t ()))) (w' := w) ?_ ⟨_, h, ⟨ρ, ?_⟩, fun _ => gS.refl w⟩
       · simp only [execOp, aZ, oB, h1, zK, cI, Sem.run_bind, Result.andThen_ok, Sem.run_pure]
       · rw [hd];exact r.put (v := iV .i64 fun _ => eo (m ()) (t ())) (RL.int (t := fun _ => eo (m ()) (t ())) (h4.get _)) (some d)
     · cases h
   · cases h
 · rename_i T x i v aZ hd
   split at h
   · rename_i kt et k t u ba hx hi hv
     split at h
     · rename_i m hg;obtain ⟨hlen, h⟩ := h;have ex := ev x;rw [hx] at ex;obtain ⟨gm, oB⟩ := ex;have ei := ev i;rw [hi] at ei;obtain ⟨zK, J2⟩ := RL.of_int ei;have eu := ev v;rw [hv] at eu;obtain ⟨J3, J4⟩ := RL.of_int eu;obtain ⟨b, es, c, h1, h2, h3, h4⟩ := r.b.ai k _ (di hg);obtain ⟨t1, t2, _, _⟩ := pA (cA hT ba);obtain ⟨n0, c', cI, h5⟩ := Ji (P := P) t1 t2 h3 h4 (t ()) (u ()) J4 hlen;have hb : b < w.heap.size := jJ h3;have dD : (w.heap.setIfInBounds b (.map n0 c'))[b]? = some (.map n0 c') := by rw [Array.getElem?_setIfInBounds, if_pos rfl, if_pos hb]
       have DI : ∀ y, y ≠ b → (w.heap.setIfInBounds b (.map n0 c'))[y]? = w.heap[y]? := fun y hy => by rw [Array.getElem?_setIfInBounds, if_neg (Ne.symm hy)]
       refine xb (w' := { w with heap := w.heap.setIfInBounds b (.map n0 c') }) ?_ hd ⟨_, h, ⟨ρ, ?_⟩, fun hw => by simp [gG, aZ] at hw⟩
       · simp only [execOp, aZ, oB, h1, zK, J3, cI, Sem.run_bind, Result.andThen_ok, Sem.run_pure]
       · refine r.uH hg (fun y hy => DI y fun he => hy ?_) ⟨by simp, rfl, rfl, Dj fun y => ?_⟩ ?_ (fun x hx => hx) (fun x hx => hx)
         · rw [he]; show 0 < (ρ k).2 b; rw [h2]; simp [one]
         · by_cases hy : y = b
           · subst hy; exact .inr ⟨n0, c', dD, .inr ⟨es, c, h3⟩⟩
           · exact .inl (DI y hy)
         · exact ⟨b, n0, c', h1, h2, dD, h5⟩
     · cases h
   · cases h
 · rename_i c d aZ hd
   split at h
   · rename_i x T fu hx zc
     split at h
     · rename_i kt et k ba oB
       split at h
       · rename_i m hg;have ex := ev x;rw [oB] at ex;obtain ⟨gm, J5⟩ := ex;obtain ⟨b, es, cc, h1, h2, h3, h4⟩ := r.b.ai k _ (di hg);obtain ⟨t1, _, _, _⟩ := pA (cA hT ba);have e1 : c.args = #[x] := by rw [← Array.toList_inj]; simpa using hx
         have e2 : c.argTypes = #[T] := by rw [← Array.toList_inj]; simpa using zc
         have xd : (getObj b).run P w = .ok (.map es cc) w := by simp [getObj, Sem.run, h3]
         have hle := h4.le;refine jN (v := .int .i64 ((m ()).length : Int)) (w' := w) ?_ ⟨_, h, ⟨ρ, ?_⟩, fun _ => gS.refl w⟩
         · simp [execOp, aZ, resolve, fu, e1, e2, invoke, builtin, Builtin.len_, ic w t1, J5, h1, xd, h4.size, goInt]
         · rw [hd];exact r.put (v := iV .i64 fun _ => ((m ()).length : Int)) (RL.int (t := fun _ => (((m ()).length : Nat) : Int)) (sf.2 (by omega))) (some d)
       · cases h
     · cases h
   · cases h
 · cases h
end
def cg (n sz : Nat) (S : Nat → Nat → Nat → Nat) (x : Nat) : Nat := bY n fun i => bY sz fun j => S i j x
def bG (h : Array Obj) (E : av) (xs : List E.α) (cs : Nat → Value) (S : Nat → Nat → Nat → Nat) : Prop :=
 ∀ i x, xs[i]? = some x → ∀ j l, (bQ E fun _ => x)[j]? = some l → bq h l (cs (i * E.sz + j)) (S i j)
def glue {α : Type} (n : Nat) (f g : Nat → α) : Nat → α := fun i => if i < n then f i else g (i - n)
theorem uI {n m : Nat} {f : Nat → Nat} : bY (n + m) f = bY n f + bY m fun i => f (n + i) := by
 induction m with
 | zero => simp [bY]
 | succ m ih => rw [← Nat.add_assoc]; simp only [bY, ih]; omega
theorem sD {n m sz : Nat} {S T : Nat → Nat → Nat → Nat} {x : Nat} : cg (n + m) sz (glue n S T) x = cg n sz S x + cg m sz T x := by
 unfold cg;rw [uI]
 congr 1
 · exact uc fun i hi => by simp [glue, hi]
 · exact uc fun i _ => by simp only [glue, if_neg (Nat.not_lt.2 (Nat.le_add_right n i)), Nat.add_sub_cancel_left]
theorem DJ {n sz : Nat} {S : Nat → Nat → Nat → Nat} {i j x : Nat} (hi : i < n) (hj : j < sz) : S i j x ≤ cg n sz S x :=
 Nat.le_trans (wH (f := fun j => S i j x) hj) (wH (f := fun i => bY sz fun j => S i j x) hi)
theorem ns {E : av} {x : E.α} {j : Nat} {l : Lf} (h : (bQ E fun _ => x)[j]? = some l) : j < E.sz := by
 have := bK h; rwa [gR] at this
theorem pM {i j n sz : Nat} (hi : i < n) (hj : j < sz) : i * sz + j < n * sz := by
 have : (i + 1) * sz ≤ n * sz := Nat.mul_le_mul_right _ hi;rw [Nat.add_mul] at this;omega
section
variable {h h' : Array Obj} {E : av} {xs ys : List E.α} {cs ds : Nat → Value} {S T : Nat → Nat → Nat → Nat}
theorem bG.mono (hs : bG h E xs cs S) (hk : ∀ x, 0 < cg xs.length E.sz S x → h'[x]? = h[x]?) : bG h' E xs cs S := fun i x hx j l hj =>
 (hs i x hx j l hj).mono fun b hb => hk b (Nat.lt_of_lt_of_le hb (DJ (bK hx) (ns hj)))
theorem bG.cells (hs : bG h E xs cs S) (hc : ∀ q, q < xs.length * E.sz → ds q = cs q) : bG h E xs ds S := fun i x hx j l hj => by
 rw [hc _ (pM (bK hx) (ns hj))];exact hs i x hx j l hj
theorem bG.glue (hs : bG h E xs cs S) (ht : bG h E ys ds T) : bG h E (xs ++ ys) (glue (xs.length * E.sz) cs ds) (glue xs.length S T) := fun i x hx j l hj => by
 rcases Nat.lt_or_ge i xs.length with hi | hi
 · rw [List.getElem?_append_left hi] at hx;simp only [Go.Proofs.YticeaiiffeccmaaGreat.glue, hi, if_true, pM hi (ns hj)];exact hs i x hx j l hj
 · rw [List.getElem?_append_right hi] at hx;have h1 : ¬ i * E.sz + j < xs.length * E.sz := by have := Nat.mul_le_mul_right E.sz hi; omega
   simp only [Go.Proofs.YticeaiiffeccmaaGreat.glue, if_neg (Nat.not_lt.2 hi), if_neg h1];have h2 : i * E.sz + j - xs.length * E.sz = (i - xs.length) * E.sz + j := by rw [Nat.sub_mul]; have := Nat.mul_le_mul_right E.sz hi; omega
   rw [h2];exact ht _ x hx j l hj
theorem bG.nil : bG h E [] cs S := fun i x hx => by simp at hx
theorem bG.own {b off c : Nat} {vs : Array Value} {e : TypeId} {fz : Nat × Nat} (hs : bG h E xs (fun q => vs.getD (off + q) Go.undef) S) (hb : h[b]? = some (.cells vs e fz)) (hf : NF vs fz)
  (hl : xs.length ≤ c) (hm : xs.length ≤ cE) (ho : off + c * E.sz ≤ vs.size) : bq h (.list E fun _ => xs) (.slice (some ⟨b, off, none⟩) xs.length c) (bT b xs.length E.sz S) :=
 .list (t := fun _ => xs) S hb hf hl hm ho fun i x hx j l hj => by have := hs i x hx j l hj; rwa [Nat.add_assoc]
theorem bq.fw {xs : Unit → List E.α} {v : Value} {p : Nat → Nat} (ho : bq h (.list E xs) v p) :
   (v = .slice none 0 0 ∧ xs () = [] ∧ p = fun _ => 0) ∨
   ∃ b off c vs e fz S, v = .slice (some ⟨b, off, none⟩) (xs ()).length c ∧ p = bT b (xs ()).length E.sz S ∧ h[b]? = some (.cells vs e fz) ∧ NF vs fz ∧ (xs ()).length ≤ c ∧ (xs ()).length ≤ cE ∧
    off + c * E.sz ≤ vs.size ∧ bG h E (xs ()) (fun q => vs.getD (off + q) Go.undef) S := by
 cases ho with
 | nil h0 => exact .inl ⟨rfl, h0, rfl⟩
 | list S hb hf hl hm dZ hc =>
   exact .inr ⟨_, _, _, _, _, _, S, rfl, rfl, hb, hf, hl, hm, dZ, fun i x hx j l hj => by have := hc i x hx j l hj; rwa [Nat.add_assoc] at this⟩
end
def fl : List (Nat × ar) → List Nat → List (Nat × ar)
 | bs, [] => bs
 | bs, k :: ks => fl (cd bs k .dead) ks
def ij : aL → List Nat → aL
 | ρ, [] => ρ
 | ρ, k :: ks => ij (dB ρ k ((ρ k).1, fun _ => 0)) ks
theorem nt : ∀ {ks : List Nat} {ρ : aL} {k : Nat}, (ij ρ ks k).1 = (ρ k).1
 | [], _, _ => rfl
 | j :: ks, ρ, k => by
   simp only [ij, nt (ks := ks)]
   by_cases h : k = j
   · subst h; rw [dN]
   · rw [dC h]
theorem DK : ∀ {ks : List Nat} {ρ : aL} {k : Nat}, k ∉ ks → ij ρ ks k = ρ k
 | [], _, _, _ => rfl
 | j :: ks, ρ, k, h => by
   simp only [List.mem_cons, not_or] at h;simp only [ij, DK (ks := ks) h.2, dC h.1]
theorem uJ {k : Nat} : ∀ {ks : List Nat} {bs : List (Nat × ar)}, ax (fl bs ks) k ↔ ax bs k
 | [], _ => Iff.rfl
 | j :: ks, bs => by simp only [fl, uJ (ks := ks), eV]
theorem DL {bs : List (Nat × ar)} {k j : Nat} {B : ar} (h : aQ bs k = none) : aQ (cd bs j B) k = none := by
 cases hg : aQ (cd bs j B) k with
 | none => rfl
 | some A => exact (jm h (eV.1 (fN hg))).elim
theorem zL {k : Nat} : ∀ {ks : List Nat} {bs : List (Nat × ar)}, aQ bs k = none → aQ (fl bs ks) k = none
 | [], _, h => h
 | _ :: ks, _, h => zL (ks := ks) (DL h)
section
variable {Γ : Ctx} {H : Hp} {ρ : aL} {σ : SS} {a : Act} {w w' : World}
theorem aM.kill (r : aM Γ H ρ σ a w) {k : Nat} (hk : ax σ.ai k) : aM Γ H (dB ρ k ((ρ k).1, fun _ => 0)) { σ with ai := cd σ.ai k .dead } a w := by
 have e : ax (cd σ.ai k .dead) = ax σ.ai := by funext j; exact propext eV
 have hf : ∀ j, (dB ρ k ((ρ k).1, fun _ => 0) j).1 = (ρ j).1 := fun j => by
   by_cases h : j = k
   · subst h; rw [dN]
   · rw [dC h]
 have g : jE H H ρ (dB ρ k ((ρ k).1, fun _ => 0)) (ax σ.ai) (ax (cd σ.ai k .dead)) := ⟨fun _ _ h => h, fun j hj => ⟨eV.2 hj, hf j⟩⟩;refine ⟨⟨fun j hj => by rw [hf]; exact r.b.oc j (eV.1 hj), by rw [sb]; exact r.b.nd, r.b.h0, r.b.hh, fun j A hj => ?_, fun x => ?_, fun j A hj x hx => ?_, fun j A hj x hx => ?_⟩, r.e.grow g, r.d, r.n, fun p hp => ?_, fun p hp => ⟨eV.2 (r.hm p hp).1, by rw [hf]; exact (r.hm p hp).2⟩⟩
 · rcases lC r.b.nd hj with ⟨rfl, rfl⟩ | ⟨aX, hj⟩
   · rw [dN]; rfl
   · rw [dC aX]; exact (r.b.ai j A hj).mono g fun _ _ => rfl
 · have h1 := sd (ρ := ρ) (ρ' := dB ρ k ((ρ k).1, fun _ => 0)) r.b.nd (B := .dead) hk (fun j hj => dC hj) x;rw [dN] at h1;have := r.b.sum x;show aS _ (cd σ.ai k .dead) x ≤ 1;simp only [Nat.add_zero] at h1;omega
 · rcases lC r.b.nd hj with ⟨rfl, rfl⟩ | ⟨aX, hj⟩
   · rw [dN] at hx; simp at hx
   · rw [dC aX] at hx; exact r.b.fresh j A hj x hx
 · rcases lC r.b.nd hj with ⟨rfl, rfl⟩ | ⟨aX, hj⟩
   · cases hx
   · rw [dC aX] at hx; exact r.b.gY j A hj x hx
 · obtain ⟨h1, h2⟩ := r.hd p hp;refine ⟨eV.2 h1, by rw [hf]; exact h2.1, fun x => ?_⟩
   by_cases h : p.1 = k
   · rw [h, dN]; exact Nat.zero_le _
   · rw [dC h]; exact h2.2 x
theorem aM.fl : ∀ {ks : List Nat} {ρ : aL} {σ : SS}, aM Γ H ρ σ a w → (∀ k ∈ ks, ax σ.ai k) → aM Γ H (ij ρ ks) { σ with ai := fl σ.ai ks } a w
 | [], _, _, r, _ => r
 | k :: ks, _, _, r, hd => aM.fl (ks := ks) (r.kill (hd k List.mem_cons_self)) fun j hj => eV.2 (hd j (List.mem_cons_of_mem _ hj))
theorem uK : ∀ {ks : List Nat} {ρ : aL} {bs : List (Nat × ar)} {x : Nat}, (bs.map (·.1)).Nodup → eB ks = true → (∀ k ∈ ks, ax bs k) → aS (ij ρ ks) (Go.Proofs.YticeaiiffeccmaaGreat.fl bs ks) x + bP ρ ks x = aS ρ bs x
 | [], _, _, _, _, _, _ => by simp [ij, Go.Proofs.YticeaiiffeccmaaGreat.fl, bP]
 | k :: ks, ρ, bs, x, hn, hd, hk => by
   obtain ⟨h1, h2⟩ := uB hd;have ih := uK (ks := ks) (ρ := dB ρ k ((ρ k).1, fun _ => 0)) (bs := cd bs k .dead) (x := x) (by rw [sb]; exact hn) h2 fun j hj => eV.2 (hk j (List.mem_cons_of_mem _ hj));have h3 := sd (ρ := ρ) (ρ' := dB ρ k ((ρ k).1, fun _ => 0)) hn (B := .dead) (hk k List.mem_cons_self) (fun j hj => dC hj) x;rw [dN] at h3
   have h4 : bP (dB ρ k ((ρ k).1, fun _ => 0)) ks x = bP ρ ks x := by
    have : ∀ {ks : List Nat}, k ∉ ks → bP (dB ρ k ((ρ k).1, fun _ => 0)) ks x = bP ρ ks x := by
     intro ks
     induction ks with
     | nil => intro _; rfl
     | cons j ks ih =>
       intro h;simp only [List.mem_cons, not_or] at h;simp only [bP, ih h.2, dC (Ne.symm h.1)]
    exact this h1
   simp only [ij, Go.Proofs.YticeaiiffeccmaaGreat.fl, bP];simp only [Nat.add_zero] at h3;omega
theorem xe {ρ : aL} {x : Nat} : ∀ {ks : List Nat}, 0 < bP ρ ks x → ∃ k ∈ ks, 0 < (ρ k).2 x
 | [], h => by simp [bP] at h
 | k :: ks, h => by
   rcases Nat.eq_zero_or_pos ((ρ k).2 x) with h0 | h0
   · have h : 0 < (ρ k).2 x + bP ρ ks x := h;rw [h0, Nat.zero_add] at h;obtain ⟨j, hj, h1⟩ := xe (ks := ks) h;exact ⟨j, List.mem_cons_of_mem _ hj, h1⟩
   · exact ⟨k, List.mem_cons_self, h0⟩
theorem nu : ∀ {ks : List Nat} {bs : List (Nat × ar)}, fP bs ks = true → ∀ k ∈ ks, ∃ E xs, aQ bs k = some (.own E xs false)
 | [], _, _, k, hk => by cases hk
 | j :: ks, bs, h, k, hk => by
   simp only [fP, Bool.and_eq_true] at h;cases hk with
   | head =>
     cases hg : aQ bs j with
     | none => simp [hg] at h
     | some B =>
       cases B with
       | own E xs l => cases l with
         | false => exact ⟨E, xs, rfl⟩
         | true => simp [hg] at h
       | dead => simp [hg] at h
       | box cs => simp [hg] at h
       | view E xs => simp [hg] at h
       | ca E xs i fs => simp [hg] at h
       | mp m => simp [hg] at h
   | tail _ hk => exact nu h.2 k hk
theorem aM.pO (r : aM Γ H ρ σ a w) {ks : List Nat} (hn : eB ks = true) (hu : fP σ.ai ks = true) {k : Nat} (hk : aQ σ.ai k = none) {E : av} {xs : Unit → List E.α} {p : Value × (Nat → Nat)}
   (hh : ∀ x, x < w.heap.size → bP ρ ks x = 0 → w'.heap[x]? = w.heap[x]?) (bg : Ext w w') (cN : bq w'.heap (.list E xs) p.1 p.2) (dS : p.1.oneCell' = true)
   (hp : ∀ x, x < w.heap.size → p.2 x ≤ bP ρ ks x) (d_ : ∀ x, w.heap.size ≤ x → p.2 x ≤ 1) :
   ∃ ρ', aM Γ H ρ' { σ with ai := dj (Go.Proofs.YticeaiiffeccmaaGreat.fl σ.ai ks) k (.own E xs false) } a w' ∧ (ρ' k).1 = p.1 ∧ ∀ j, j ≠ k → (ρ' j).1 = (ρ j).1 := by
 have hd : ∀ j ∈ ks, ax σ.ai j := fun j hj => by obtain ⟨E, xs, hg⟩ := nu hu j hj; exact fN hg
 have r1 := r.fl hd;have fx := fun x => uK (ρ := ρ) (x := x) r.b.nd hn hd
 have mA : ∀ x, 0 < bP ρ ks x → H x = none := fun x hx => by
   obtain ⟨j, hj, h1⟩ := xe hx;obtain ⟨E, xs, hg⟩ := nu hu j hj;exact r.b.gY j _ (di hg) x h1
 refine ⟨dB (ij ρ ks) k p, r1.qS (zL hk) (fun b o hb => ?_) (fun b hb => ?_) bg dS (fun x hx => ?_) (fun x => ?_) cN (by simp), by rw [dN], fun j hj => by rw [dC hj, nt]⟩
 · refine hh b (jJ (r.b.hh b o hb)) ?_;rcases Nat.eq_zero_or_pos (bP ρ ks b) with h | h
   · exact h
   · rw [mA b h] at hb; cases hb
 · have h1 := fx b;have h2 := r.b.sum b;have fy : 0 < aS (ij ρ ks) (Go.Proofs.YticeaiiffeccmaaGreat.fl σ.ai ks) b := hb;exact hh b (r.lt (by omega)) (by omega)
 · rcases Nat.lt_or_ge x w.heap.size with h | h
   · have h1 := hp x h;have h2 := fx x;have h3 := r.b.sum x;exact ⟨mA x (by omega), by simp only; omega⟩
   · have h1 := r.su h;have h2 := fx x;exact ⟨h1.1, by simp only; omega⟩
 · rcases Nat.lt_or_ge x w.heap.size with h | h
   · have h1 := hp x h;have h2 := fx x;have h3 := r.b.sum x;omega
   · exact d_ x h
end
def lH : av → Bool
 | .bZ => false
 | .ah => false
 | .rep => false
 | _ => true
def pP : (E E' : av) → (Unit → List E'.α) → Option (Unit → List E.α)
 | .int, .int, t => some t
 | .byte, .byte, t => some t
 | .str, .str, t => some t
 | .aI, .aI, t => some t
 | .aH, .aH, t => some t
 | .aG, .aG, t => some t
 | .bZ, .bZ, t => some t
 | .ah, .ah, t => some t
 | .cT, .cT, t => some t
 | .rep, .rep, t => some t
 | _, _, _ => none
theorem sF {E E' : av} {t : Unit → List E'.α} {u : Unit → List E.α} (h : pP E E' t = some u) : Lf.list E' t = Lf.list E u := by
 cases E <;> cases E' <;> simp only [pP, Option.some.injEq, reduceCtorEq] at h <;> subst h <;> rfl
def oC (bs : List (Nat × ar)) (E : av) : V → Option ((Unit → List E.α) × List Nat)
 | .c .nil => some (fun _ => [], [])
 | .c (.own k) => match aQ bs k with
   | some (.own E' xs false) => (match pP E E' xs with | some ys => some (ys, [k]) | none => none)
   | _ => none
 | _ => none
def zM (bs : List (Nat × ar)) (E : av) : V → Option ((Unit → List E.α) × List Nat)
 | .c (.lf (.list E' t)) => if lH E = true then (match pP E E' t with | some ys => some (ys, []) | none => none) else none
 | .c (.own k) => if lH E = true then (match aQ bs k with
  | some (.own E' xs _) => (match pP E E' xs with | some ys => some (ys, []) | none => none)
  | _ => none) else oC bs E (.c (.own k))
 | v => oC bs E v
def zN (tab : bj) (T : TypeId) (bs : List (Nat × ar)) (E : av) (v : V) : Option ((Unit → List E.α) × List Nat) :=
 match cR tab T with
 | some (.sl _ _ _) => zM bs E v
 | some .ss => (match E, v with
   | .byte, .c (.lf (.str t)) => some (t, [])
   | _, _ => none)
 | _ => none
theorem pQ {E : av} (hf : lH E = true) {x : E.α} {j : Nat} {l : Lf} (h : (bQ E fun _ => x)[j]? = some l) : l.sc = true := by
 have hm := List.mem_of_getElem? h;cases E <;> simp only [lH, Bool.false_eq_true] at hf <;> simp only [bQ, List.mem_cons, List.not_mem_nil, or_false] at hm
 case int => subst hm; rfl
 case byte => subst hm; rfl
 case str => subst hm; rfl
 case aI => rcases hm with rfl | rfl <;> rfl
 case aH => rcases hm with rfl | rfl | rfl | rfl <;> rfl
 case aG => rcases hm with rfl | rfl | rfl | rfl | rfl | rfl | rfl | rfl | rfl | rfl <;> rfl
 case cT => rcases hm with rfl | rfl | rfl | rfl | rfl | rfl <;> rfl
theorem RL.DM {h : Array Obj} {H : Hp} {l : Lf} {v : Value} (hr : RL H l v) (hs : l.sc = true) : bq h l v fun _ => 0 := by
 cases hr with
 | int hr => exact .int hr
 | bool => exact .bool
 | str hm => exact .str hm
 | nil h0 => simp [Lf.sc] at hs
 | list hb hl hm ho hc => simp [Lf.sc] at hs
structure iy (w : World) (E : av) (xs : List E.α) (v : Value) (news : List Value) (S : Nat → Nat → Nat → Nat) : Prop where
 len : news.length = xs.length * E.sz
 one : ∀ u ∈ news, u.oneCell' = true
 fw : bG w.heap E xs (fun q => news.getD q Go.undef) S
 val : (∃ a c, v = .slice a 0 c ∧ xs = []) ∨ ∃ b off c, v = .slice (some ⟨b, off, none⟩) xs.length c ∧ ∀ j u, news[j]? = some u → w.cell? ⟨b, off + j, none⟩ = some u
theorem DN {h : Array Obj} {E : av} {xs : List E.α} {cs : Nat → Value} {S : Nat → Nat → Nat → Nat} (hs : bG h E xs cs S) {q : Nat} (hq : q < xs.length * E.sz) : (cs q).oneCell' = true := by
 have hp := ub E;have hi : q / E.sz < xs.length := Nat.div_lt_of_lt_mul (by rw [Nat.mul_comm]; exact hq);have hj : q % E.sz < E.sz := Nat.mod_lt _ hp;have h1 := hs (q / E.sz) _ (List.getElem?_eq_getElem hi) (q % E.sz) _ (List.getElem?_eq_getElem (by rw [gR]; exact hj));rw [Nat.mul_comm, Nat.div_add_mod] at h1;exact h1.one
theorem iy.of {w : World} {E : av} {xs : List E.α} {b off c : Nat} {vs : Array Value} {e : TypeId} {fz : Nat × Nat} {S : Nat → Nat → Nat → Nat} (hb : w.heap[b]? = some (.cells vs e fz)) (ho : off + xs.length * E.sz ≤ vs.size)
   (hs : bG w.heap E xs (fun q => vs.getD (off + q) Go.undef) S) : ∃ news, iy w E xs (.slice (some ⟨b, off, none⟩) xs.length c) news S := by
 have hg : ∀ q, q < xs.length * E.sz → (vs.extract off (off + xs.length * E.sz)).toList[q]? = some (vs.getD (off + q) Go.undef) := fun q hq => by
   rw [Array.getElem?_toList, Array.getElem?_extract, if_pos (by omega)];exact getD_some (by omega)
 have hl : (vs.extract off (off + xs.length * E.sz)).toList.length = xs.length * E.sz := by simp; omega
 refine ⟨(vs.extract off (off + xs.length * E.sz)).toList, hl, fun u hu => ?_, hs.cells fun q hq => ?_, .inr ⟨b, off, c, rfl, fun j u hj => ?_⟩⟩
 · obtain ⟨q, hq, rfl⟩ := List.getElem_of_mem hu;rw [hl] at hq;have h1 := hg q hq;rw [List.getElem?_eq_getElem (by rw [hl]; exact hq)] at h1;rw [Option.some.inj h1];exact DN hs hq
 · rw [List.getD_eq_getElem?_getD, hg q hq]; rfl
 · have hq : j < xs.length * E.sz := by rw [← hl]; exact bK hj
   rw [hg j hq] at hj;cases hj;exact cell_of hb (getD_some (by omega))
theorem RL.fw {H : Hp} {h : Array Obj} {E : av} {t : Unit → List E.α} {v : Value} (hr : RL H (.list E t) v) (hh : ∀ b o, H b = some o → h[b]? = some o) (hf : lH E = true) :
  (∃ a c, v = .slice a 0 c ∧ t () = []) ∨ ∃ b off c vs e fz, v = .slice (some ⟨b, off, none⟩) (t ()).length c ∧ h[b]? = some (.cells vs e fz) ∧ off + (t ()).length * E.sz ≤ vs.size ∧
   (t ()).length ≤ cE ∧ bG h E (t ()) (fun q => vs.getD (off + q) Go.undef) fun _ _ _ => 0 := by
 cases hr with
 | nil h0 => exact .inl ⟨_, _, rfl, h0⟩
 | list hb hl hm ho hc => exact .inr ⟨_, _, _, _, _, _, rfl, hh _ _ hb, ho, hm, fun i x hx j l hj => by
   have := (hc i x hx j l hj).DM (h := h) (pQ hf hj)
   rwa [Nat.add_assoc] at this⟩
theorem bq.qZ {h : Array Obj} {l : Lf} {v : Value} {S : Nat → Nat} (ho : bq h l v S) (hs : l.sc = true) : bq h l v fun _ => 0 := by
 cases ho with
 | int hr => exact .int hr
 | bool => exact .bool
 | str hm => exact .str hm
 | nil h0 => simp [Lf.sc] at hs
 | list => simp [Lf.sc] at hs
theorem bG.flat {h : Array Obj} {E : av} {xs : List E.α} {cs : Nat → Value} {S : Nat → Nat → Nat → Nat} (hs : bG h E xs cs S) (hf : lH E = true) : bG h E xs cs fun _ _ _ => 0 := fun i x hx j l hj =>
 (hs i x hx j l hj).qZ (pQ hf hj)
theorem iy.nil {w : World} {E : av} (a : Option Addr) (c : Nat) : iy w E [] (.slice a 0 c) [] fun _ _ _ => 0 :=
 ⟨by simp, (fun _ h => by cases h), bG.nil, .inl ⟨a, c, rfl, rfl⟩⟩
theorem iy.src {P : Program} {w : World} {E : av} {xs : List E.α} {v : Value} {news : List Value} {S : Nat → Nat → Nat → Nat} (hn : iy w E xs v news S) {tx e : TypeId} (hk : P.underlying tx = some (.slice e)) :
   Src P E.sz tx v xs.length news w := by
 rcases hn.val with ⟨a, c, rfl, rfl⟩ | ⟨b, off, c, rfl, h⟩
 · have : news = [] := by have := hn.len; simpa using this
   subst this;cases a with
   | none => exact Src.ofNil w hk c
   | some a => exact Src.ofSlice w hk a 0 c [] (by simp) (fun j u hj => by simp at hj) fun u hu => by cases hu
 · exact Src.ofSlice w hk _ _ _ news hn.len (fun j u hj => by rw [eI]; exact h j u hj) hn.one
structure sG (P : Program) (w : World) (E : av) (xs : List E.α) (tx : TypeId) (v : Value) (news : List Value) (S : Nat → Nat → Nat → Nat) : Prop where
 len : news.length = xs.length * E.sz
 one : ∀ u ∈ news, u.oneCell' = true
 fw : bG w.heap E xs (fun q => news.getD q Go.undef) S
 src : Src P E.sz tx v xs.length news w
theorem iy.xf {P : Program} {w : World} {E : av} {xs : List E.α} {v : Value} {news : List Value} {S : Nat → Nat → Nat → Nat} (hn : iy w E xs v news S) {tx e : TypeId} (hk : P.underlying tx = some (.slice e)) : sG P w E xs tx v news S :=
 ⟨hn.len, hn.one, hn.fw, hn.src hk⟩
theorem sG.str {P : Program} {w : World} {tx : TypeId} (hk : P.underlying tx = some .string) (s : List UInt8) : sG P w .byte s tx (.string ⟨s.toArray⟩) (byteCells ⟨s.toArray⟩) fun _ _ _ => 0 := by
 have hs := Src.ofString (P := P) w hk ⟨s.toArray⟩;have hb : byteCells ⟨s.toArray⟩ = s.map fun b => Value.int .u8 b.toNat := by simp [byteCells]
 have hz : (⟨s.toArray⟩ : ByteArray).size = s.length := by simp [ByteArray.size]
 rw [hz] at hs;refine ⟨by rw [hb]; simp [av.sz], hs.one, fun i x hx j l hj => ?_, hs⟩;simp only [bQ] at hj;cases j with
 | succ j => simp at hj
 | zero =>
   simp at hj;subst hj;rw [hb];simp only [av.sz, Nat.mul_one, Nat.add_zero]
   have : (s.map fun b => Value.int .u8 b.toNat).getD i Go.undef = .int .u8 ((x.toNat : Nat) : Int) := by
    rw [List.getD_eq_getElem?_getD, List.getElem?_map, hx]; rfl
   rw [this];refine bq.int (t := fun _ => ((x.toNat : Nat) : Int)) ?_;have := UInt8.toNat_lt x;simp [IntKind.has, IntKind.min, IntKind.max, IntKind.signed, IntKind.bits];omega
theorem iz : ∀ (us : List Value) (vs : Array Value) (o q : Nat), o + us.length ≤ vs.size → (dz vs o us).getD q Go.undef = if o ≤ q ∧ q < o + us.length then us.getD (q - o) Go.undef else vs.getD q Go.undef
 | [], vs, o, q, _ => by
   have : ¬ (o ≤ q ∧ q < o + ([] : List Value).length) := by simp only [List.length_nil]; omega
   rw [if_neg this]; rfl
 | u :: us, vs, o, q, h => by
   simp only [List.length_cons] at h;simp only [dz];rw [iz us _ (o + 1) q (by simp; omega)]
   by_cases h1 : o + 1 ≤ q ∧ q < o + 1 + us.length
   · rw [if_pos h1, if_pos (by simp only [List.length_cons]; omega), show q - o = (q - (o + 1)) + 1 by omega];simp
   · rw [if_neg h1]
     by_cases h2 : q = o
     · subst h2;rw [if_pos (by simp only [List.length_cons]; omega)];simp [Array.getD_eq_getD_getElem?, show q < vs.size by omega]
     · rw [if_neg (by simp only [List.length_cons]; omega)];simp [Array.getD_eq_getD_getElem?, Ne.symm h2]
theorem uL {P : Program} {w : World} {E : av} {xs ys : List E.α} {vx vy : Value} {px : Nat → Nat} {T T2 e ty : TypeId} {i : TypeInfo} {z : Value} {news : List Value} {S2 : Nat → Nat → Nat → Nat} {py : Nat → Nat}
   (hx : bq w.heap (.list E fun _ => xs) vx px) (hy : sG P w E ys T2 vy news S2) (sH : ∀ x, cg ys.length E.sz S2 x ≤ py x) (dS : ∀ x, px x + py x ≤ 1) (ke : ∀ x, 0 < px x + py x → x < w.heap.size)
   (ht : P.underlying T = some (.slice e)) (hi : P.info? e = some i) (hz : i.zero = some z) (bg : i.size = E.sz) (q_ : z.cells.size = E.sz) (ra : 0 < i.bytes)
   (J6 : (xs.length + ys.length) * i.bytes ≤ 140737488355328) :
   ∃ v p w', (Builtin.append_ #[T, T2] ty #[vx, vy]).run P w = .ok v w' ∧ bq w'.heap (.list E fun _ => xs ++ ys) v p ∧ Ext w w' ∧ (∀ x, x < w.heap.size → px x = 0 → w'.heap[x]? = w.heap[x]?) ∧
     (∀ x, x < w.heap.size → p x ≤ px x + py x) ∧ ∀ x, w.heap.size ≤ x → p x ≤ 1 := by
 have hs := hy.src
 have hlen : xs.length + ys.length ≤ cE := by
   have : xs.length + ys.length ≤ (xs.length + ys.length) * i.bytes := Nat.le_mul_of_pos_right _ ra;unfold cE; omega
 have J7 : ((xs.length + ys.length : Nat) : Int) ≤ 9223372036854775807 := by unfold cE at hlen; omega
 rw [← bg] at hs;have DO := hy.fw
 have grow : ∀ (base : Option Addr) (n cap : Nat) (fQ : List Value) (S : Nat → Nat → Nat → Nat), n = xs.length → vx = .slice base n cap → cap < n + ys.length → fQ.length = xs.length * E.sz →
     (Builtin.firstCells i.size n (.slice base n cap)).run P w.drew = .ok fQ.toArray w.drew → bG w.heap E xs (fun q => fQ.getD q Go.undef) S → (∀ x, cg xs.length E.sz S x ≤ px x) →
     ∃ v p w', (Builtin.append_ #[T, T2] ty #[vx, vy]).run P w = .ok v w' ∧ bq w'.heap (.list E fun _ => xs ++ ys) v p ∧ Ext w w' ∧ (∀ x, x < w.heap.size → px x = 0 → w'.heap[x]? = w.heap[x]?) ∧
     (∀ x, x < w.heap.size → p x ≤ px x + py x) ∧ ∀ x, w.heap.size ≤ x → p x ≤ 1 := by
   intro base n cap fQ S hn hv hg ca hold ct zO;subst hn;have cI := run_append_grow_src (P := P) w T T2 ty e i z ht hi hz base xs.length cap fQ hold vy ys.length news hs hg J7 (growslice_fits hg J6);have nv := grownCap_ge w (xs.length + ys.length) cap e;generalize grownCap w (xs.length + ys.length) cap e = C at cI nv;generalize mB : (fQ ++ news).toArray ++ Builtin.zeroCells z.cells (C - (xs.length + ys.length)) = cells at cI
   have dA : cells.size = C * E.sz := by
     rw [← mB];simp only [Array.size_append, List.size_toArray, List.length_append, Builtin.zeroCells, Array.size_map, Array.size_range, q_, ca, hy.len];rw [← Nat.add_mul, ← Nat.add_mul]
     congr 1; omega
   have eJ : ∀ q, q < (xs ++ ys).length * E.sz → cells.getD (0 + q) Go.undef = glue (xs.length * E.sz) (fun q => fQ.getD q Go.undef) (fun q => news.getD q Go.undef) q := by
     intro q hq;rw [List.length_append, Nat.add_mul] at hq;rw [Nat.zero_add, ← mB, Array.getD_eq_getD_getElem?, Array.getElem?_append_left (by simp [ca, hy.len]; omega), List.getElem?_toArray];simp only [glue]
     split
     · rename_i h;rw [List.getElem?_append_left (by omega), List.getD_eq_getElem?_getD]
     · rename_i h;rw [List.getElem?_append_right (by omega), List.getD_eq_getElem?_getD, ca]
   have oD : bG (w.heap.push (.cells cells e)) E (xs ++ ys) (fun q => cells.getD (0 + q) Go.undef) (glue xs.length S S2) := by
     refine bG.cells ((ct.glue DO).mono fun x hx => ?_) eJ;rw [List.length_append, sD] at hx;have h1 := zO x;have h2 := sH x;have h3 := ke x (by omega);rw [Array.getElem?_push, if_neg (Nat.ne_of_lt h3)]
   refine ⟨_, bT w.heap.size (xs ++ ys).length E.sz (glue xs.length S S2), w.drew.alloc (.cells cells e), by rw [hv]; exact cI, ?_, (show Ext w w.drew from ⟨Nat.le_refl _, rfl, rfl, fun _ => rfl⟩).trans (qT w.drew _ _), fun x hx _ => ?_, fun x hx => ?_, fun x hx => ?_⟩
   · have := oD.own (b := w.heap.size) (off := 0) (c := C) (vs := cells) (e := e) (fz := (0, 0)) (by simp) (mw _) (by rw [List.length_append]; exact nv) (by rw [List.length_append]; exact hlen) (by omega);rw [← List.length_append];exact this
   · show (w.heap.push _)[x]? = _;rw [Array.getElem?_push, if_neg (Nat.ne_of_lt hx)]
   · have h1 := zO x;have h2 := sH x
     have : bT w.heap.size (xs ++ ys).length E.sz (glue xs.length S S2) x = 0 + cg (xs.length + ys.length) E.sz (glue xs.length S S2) x := by
       rw [← List.length_append]; simp only [bT, cg]; rw [if_neg (Nat.ne_of_lt hx)]
     rw [this, sD];omega
   · have h1 := zO x;have h2 := sH x
     have h3 : px x + py x = 0 := by
       rcases Nat.eq_zero_or_pos (px x + py x) with h | h
       · exact h
       · have := ke x h; omega
     have : bT w.heap.size (xs ++ ys).length E.sz (glue xs.length S S2) x ≤ 1 + cg (xs.length + ys.length) E.sz (glue xs.length S S2) x := by
       rw [← List.length_append]; simp only [bT, cg]; split <;> omega
     rw [sD] at this;omega
 rcases hx.fw with ⟨hv, h0, hp⟩ | ⟨b, off, c, vs, e', fz, S, hv, hp, hb, hf, hl, hm, ho, ct⟩
 · subst h0;rcases Nat.eq_zero_or_pos ys.length with DP | DP
   · have wU : ys = [] := List.length_eq_zero_iff.1 DP;subst wU;have J8 : news = [] := by have := hy.len; simpa using this
     subst J8;refine ⟨.slice none 0 0, fun _ => 0, w, ?_, bq.nil (t := fun _ => ([] : List E.α) ++ []) rfl, Ext.refl w, fun _ _ _ => rfl, fun _ _ => Nat.zero_le _, fun _ _ => Nat.zero_le _⟩;rw [hv];have hc : (Builtin.firstCells i.size 0 vy).run P w = .ok #[] w := hs.cells;rcases hs.kind with ⟨e', hk⟩ | hk <;> simp [Builtin.append_, run_underlying ht, run_underlying hk, sizeOf, typeInfo, hi, hs.len, hc]
   · exact grow none 0 0 [] (fun _ _ _ => 0) rfl hv (by omega) (by simp) (run_firstCells_none w.drew i.size 0 0 0) bG.nil fun x => by simp [cg, bY]
 · rcases Nat.lt_or_ge c (xs.length + ys.length) with hg | fR
   · obtain ⟨fQ, hN⟩ := iy.of (c := c) hb (by have := Nat.mul_le_mul_right E.sz hl; omega) ct;refine grow (some ⟨b, off, none⟩) xs.length c fQ S rfl hv hg hN.len ?_ hN.fw fun x => ?_
     · rcases hN.val with ⟨a, c', h1, h2⟩ | ⟨b', J1, c', h1, h2⟩
       · have : fQ = [] := by have := hN.len; rw [h2] at this; simpa using this
         subst this;rw [h2];exact run_firstCells_some w.drew i.size 0 _ _ _ [] (by simp) fun j v hj => by simp at hj
       · simp only [Value.slice.injEq, Option.some.injEq, Addr.mk.injEq, and_true, true_and] at h1;obtain ⟨⟨rfl, rfl⟩, rfl⟩ := h1;refine run_firstCells_some w.drew i.size _ _ _ _ fQ (by rw [hN.len, bg]) fun j v hj => ?_;rw [eI];exact h2 j v hj
     · rw [hp]; simp only [bT, cg]; exact Nat.le_add_left _ _
   · -- in place
     have nv := Nat.mul_le_mul_right E.sz fR;rw [Nat.add_mul] at nv;obtain ⟨w', g1, g2, g3, g4⟩ := pJ (P := P) news w b (off + xs.length * E.sz) 0 vs e' fz hb hf (by rw [hy.len]; omega) hy.one;rw [Nat.add_zero] at g2
     have jt : px b = 1 ∧ cg xs.length E.sz S b = 0 ∧ py b = 0 := by
       have h1 := dS b;have h2 : px b = 1 + cg xs.length E.sz S b := by rw [hp]; simp [bT, cg]
       omega
     have J9 : bG w'.heap E xs (fun q => vs.getD (off + q) Go.undef) S := ct.mono fun x hx => g3 x fun he => by subst he; omega
     have J_ : bG w'.heap E ys (fun q => news.getD q Go.undef) S2 := DO.mono fun x hx => g3 x fun he => by subst he; have := sH x; omega
     have oD : bG w'.heap E (xs ++ ys) (fun q => (dz vs (off + xs.length * E.sz) news).getD (off + q) Go.undef) (glue xs.length S S2) := by
       refine bG.cells (J9.glue J_) fun q hq => ?_;rw [List.length_append, Nat.add_mul] at hq;rw [iz _ _ _ _ (by rw [hy.len]; omega)];simp only [glue]
       by_cases h : q < xs.length * E.sz
       · rw [if_pos h, if_neg (by omega)]
       · rw [if_neg h, if_pos (by rw [hy.len]; omega)]
         congr 1; omega
     refine ⟨.slice (some ⟨b, off, none⟩) (xs ++ ys).length c, bT b (xs ++ ys).length E.sz (glue xs.length S S2), w', ?_, ?_, g4, fun x _ hx => g3 x fun he => by subst he; omega, fun x _ => ?_, fun x hx => ?_⟩
     · rw [hv, List.length_append];have Ka : xs.length + ys.length ≤ c := fR;rw [← bg] at g1;rcases hs.kind with ⟨e', hk⟩ | hk <;> simp [Builtin.append_, run_underlying ht, run_underlying hk, sizeOf, typeInfo, hi, hs.len, Ka, hs.cells, eI, g1]
     · refine oD.own g2 ?_ (by rw [List.length_append]; exact fR) (by rw [List.length_append]; exact hlen) (by rw [dU]; exact ho);rcases hf with h | h
       · exact .inl h
       · exact .inr (by rw [dU]; exact h)
     · have h2 := sH x
       have h3 : bT b (xs ++ ys).length E.sz (glue xs.length S S2) x = (if x = b then 1 else 0) + cg (xs.length + ys.length) E.sz (glue xs.length S S2) x := by
         rw [← List.length_append]; rfl
       have h4 : px x = (if x = b then 1 else 0) + cg xs.length E.sz S x := by rw [hp]; rfl
       rw [h3, sD];omega
     · have h2 := sH x;have h5 := dS x
       have h3 : bT b (xs ++ ys).length E.sz (glue xs.length S S2) x = (if x = b then 1 else 0) + cg (xs.length + ys.length) E.sz (glue xs.length S S2) x := by
         rw [← List.length_append]; rfl
       have h4 : px x = (if x = b then 1 else 0) + cg xs.length E.sz S x := by rw [hp]; rfl
       rw [h3, sD];omega
def zP (bs : List (Nat × ar)) (z : Z) : C → Option (Lf × List Nat)
 | .lf (.list _ _) => none
 | .lf l => some (l, [])
 | .bl b => some (.bool fun _ => b, [])
 | .nil => match z with | .nl E => some (.list E fun _ => [], []) | _ => none
 | .own k => match aQ bs k with | some (.own E xs false) => some (.list E xs, [k]) | _ => none
 | _ => none
def oE (bs : List (Nat × ar)) : List Z → List C → Option (List Lf × List Nat)
 | [], [] => some ([], [])
 | z :: zs, c :: cs => match zP bs z c, oE bs zs cs with
   | some (l, k), some (ls, ks) => some (l :: ls, k ++ ks)
   | _, _ => none
 | _, _ => none
def uM : (E : av) → List Lf → Option (Unit → E.α)
 | .int, [.int .i64 t] => some t
 | .byte, [.int .u8 t] => some fun _ => UInt8.ofNat (t ()).toNat
 | .str, [.str t] => some t
 | .aI, [.int .i64 a, .int .i64 b] => some fun _ => ⟨a (), b ()⟩
 | .aH, [.int .i64 a, .int .i64 b, .int .i64 c, .int .i64 d] => some fun _ => ⟨a (), b (), c (), d ()⟩
 | .aG, [.int .i64 a, .int .i64 b, .int .i64 c, .int .i64 d, .int .i64 e, .int .i64 f, .int .i64 g, .int .i64 h, .int .i64 i, .int .i64 j] =>
   some fun _ => ⟨a (), b (), c (), d (), e (), f (), g (), h (), i (), j ()⟩
 | .bZ, [.list .aI t] => some t
 | .ah, [.int .i64 a, .int .i64 b, .int .i64 c, .int .i64 d, .int .i64 e, .list .aH r, .list .bZ s] => some fun _ => ⟨⟨a (), b (), c (), d (), e ()⟩, r (), s ()⟩
 | .cT, [.int .i64 a, .int .i64 b, .int .i64 c, .int .i64 d, .int .i64 e, .int .i64 f] => some fun _ => ⟨a (), b (), c (), d (), e (), f ()⟩
 | .rep, [.int .i64 a, .list .int l] => some fun _ => ⟨a (), l ()⟩
 | _, _ => none
theorem DQ {t : Int} (h : IntKind.u8.has t) : ((UInt8.ofNat t.toNat).toNat : Int) = t := by
 have : 0 ≤ t ∧ t ≤ 255 := by simpa [IntKind.has, IntKind.min, IntKind.max, IntKind.signed, IntKind.bits] using h
 have h2 : t.toNat < 256 := by omega
 rw [UInt8.toNat_ofNat', Nat.mod_eq_of_lt (by simpa using h2)];omega
theorem zQ {E : av} {ls : List Lf} {x : Unit → E.α} (h : uM E ls = some x) (hb : ∀ t, ls = [.int .u8 t] → IntKind.u8.has (t ())) : bQ E x = ls := by
 unfold uM at h
 split at h
 · cases h; rfl
 · rename_i t;cases h;simp only [bQ]
   congr 2
   funext u
   exact DQ (hb t rfl)
 all_goals first
   | (cases h; rfl)
   | cases h
def uN : List (Nat → Nat) → Nat → Nat
 | [], _ => 0
 | f :: fs, x => f x + uN fs x
theorem uO {n : Nat} {f : Nat → Nat} : bY (n + 1) f = f 0 + bY n fun i => f (i + 1) := by
 induction n with
 | zero => simp [bY]
 | succ n ih =>
   have h : bY (n + 1 + 1) f = bY (n + 1) f + f (n + 1) := rfl;have h2 : (bY (n + 1) fun i => f (i + 1)) = (bY n fun i => f (i + 1)) + f (n + 1) := rfl;rw [h, ih, h2]; omega
theorem zR : ∀ (fs : List (Nat → Nat)) (x : Nat), bY fs.length (fun j => fs.getD j (fun _ => 0) x) = uN fs x
 | [], _ => rfl
 | f :: fs, x => by
   simp only [List.length_cons, uN];rw [uO, ← zR fs x];rfl
theorem oF {ρ : aL} {x : Nat} : ∀ {ks js : List Nat}, bP ρ (ks ++ js) x = bP ρ ks x + bP ρ js x
 | [], js => by simp [bP]
 | k :: ks, js => by simp only [List.cons_append, bP, oF (ks := ks)]; omega
theorem re {bs : List (Nat × ar)} : ∀ {ks js : List Nat}, fP bs ks = true → fP bs js = true → fP bs (ks ++ js) = true
 | [], _, _, h => h
 | k :: ks, js, h1, h2 => by
   simp only [fP, Bool.and_eq_true, List.cons_append] at h1 ⊢;exact ⟨h1.1, re h1.2 h2⟩
section
variable {Γ : Ctx} {H : Hp} {ρ : aL} {σ : SS} {a : Act} {w : World} (r : aM Γ H ρ σ a w)
include r
theorem Kb {z : Z} {c : C} {l : Lf} {ks : List Nat} {v : Value} (h : zP σ.ai z c = some (l, ks)) (hv : RC H ρ (ax σ.ai) c v) :
   ∃ S : Nat → Nat, bq w.heap l v S ∧ fP σ.ai ks = true ∧ ∀ x, S x = bP ρ ks x := by
 unfold zP at h
 split at h
 · cases h
 · rename_i l' hl;cases h;refine ⟨fun _ => 0, RL.DM hv ?_, rfl, fun _ => rfl⟩;cases l <;> first | rfl | exact (hl _ _ rfl).elim
 · rename_i b;cases h;simp only [RC] at hv;subst hv;exact ⟨fun _ => 0, bq.bool (t := fun _ => b), rfl, fun _ => rfl⟩
 · split at h
   · cases h;simp only [RC] at hv;subst hv;exact ⟨fun _ => 0, bq.nil rfl, rfl, fun _ => rfl⟩
   · cases h
 · rename_i k
   split at h
   · rename_i E xs hg;cases h;obtain ⟨_, rfl⟩ := hv;exact ⟨(ρ k).2, so r hg, by simp [fP, hg], fun x => by simp [bP]⟩
   · cases h
 · cases h
theorem zS : ∀ {zs : List Z} {cs : List C} {ls : List Lf} {ks : List Nat} {f : Nat → Value}, oE σ.ai zs cs = some (ls, ks) → (∀ (j : Nat) c, cs[j]? = some c → RC H ρ (ax σ.ai) c (f j)) →
   ∃ S : List (Nat → Nat), S.length = ls.length ∧ ls.length = cs.length ∧ fP σ.ai ks = true ∧ (∀ x, uN S x = bP ρ ks x) ∧ ∀ (j : Nat) l, ls[j]? = some l → bq w.heap l (f j) (S.getD j fun _ => 0)
 | [], [], ls, ks, f, h, _ => by
   simp only [oE, Option.some.injEq, Prod.mk.injEq] at h;obtain ⟨rfl, rfl⟩ := h;exact ⟨[], rfl, rfl, rfl, fun _ => rfl, fun j l hj => by simp at hj⟩
 | [], _ :: _, _, _, _, h, _ => by simp [oE] at h
 | _ :: _, [], _, _, _, h, _ => by simp [oE] at h
 | z :: zs, c :: cs, ls, ks, f, h, hc => by
   unfold oE at h
   split at h
   · rename_i l k oG xg h1 h2;cases h;obtain ⟨S0, g1, g2, g3⟩ := Kb r h1 (hc 0 c rfl);obtain ⟨S, g4, g5, g6, g7, g8⟩ := zS h2 (f := fun j => f (j + 1)) fun j c hj => hc (j + 1) c (by simpa using hj);refine ⟨S0 :: S, by simp [g4], by simp [g5], re g2 g6, fun x => by simp only [uN, g3, g7, oF], fun j l hj => ?_⟩;cases j with
     | zero => simp at hj; subst hj; exact g1
     | succ j => simp at hj; simpa using g8 j l hj
   · cases h
end
def zU (bs : List (Nat × ar)) (E : av) (v : V) : Option ((Unit → E.α) × List Nat) :=
 match nq v with
 | some cs => (match oE bs (nk E) cs with
   | some (ls, ks) => (match uM E ls with | some x => some (x, ks) | none => none)
   | none => none)
 | none => none
def uP (bs : List (Nat × ar)) (E : av) : List V → Option ((Unit → List E.α) × List Nat)
 | [] => some (fun _ => [], [])
 | v :: vs => match zU bs E v, uP bs E vs with
   | some (x, k), some (xs, ks) => some (fun _ => x () :: xs (), k ++ ks)
   | _, _ => none
def xh : Nat → List (Nat × Operand) → Bool
 | _, [] => true
 | i, p :: ps => decide (p.1 = i) && xh (i + 1) ps
theorem DR {f : Operand → Value} : ∀ {ps : List (Nat × Operand)} {i : Nat}, xh i ps = true → (ps.map fun p => (p.1, f p.2)) = ((ps.map fun p => f p.2).zipIdx i).map fun x => (x.2, x.1)
 | [], _, _ => rfl
 | p :: ps, i, h => by
   simp only [xh, Bool.and_eq_true, decide_eq_true_eq] at h;simp only [List.map_cons, List.zipIdx_cons, DR h.2, h.1]
section
variable {Γ : Ctx} {H : Hp} {ρ : aL} {σ : SS} {a : Act} {w : World} (r : aM Γ H ρ σ a w)
include r
theorem Kc {E : av} {v : V} {x : Unit → E.α} {ks : List Nat} {u : Value} (h : zU σ.ai E v = some (x, ks)) (hv : RV H ρ (ax σ.ai) v u) :
   u.cells.size = E.sz ∧ fP σ.ai ks = true ∧ ∃ S, bG w.heap E [x ()] (fun q => u.cells.getD q Go.undef) S ∧ ∀ y, cg 1 E.sz S y = bP ρ ks y := by
 unfold zU at h
 split at h
 · rename_i cs dA
   split at h
   · rename_i ls xg hm
     split at h
     · rename_i x' hx;cases h
       have hc := hv.cells dA fun k hk => by
         rw [hk] at hv;exact ur r hv
       obtain ⟨S, g1, g2, g3, g4, g5⟩ := zS r hm (f := fun j => u.cells.getD j Go.undef) hc.2
       have he := zQ hx fun t ht => by
         have := g5 0 _ (by rw [ht]; rfl);generalize u.cells.getD 0 Go.undef = y, S.getD 0 (fun _ => 0) = T at this;cases this with
         | int hr => exact hr
       have hlen : ls.length = E.sz := by rw [← he, gR]
       refine ⟨by rw [hc.1, ← g2, hlen], g3, fun _ j => S.getD j fun _ => 0, fun i y hy j l hj => ?_, fun y => ?_⟩
       · cases i with
         | zero =>
           simp only [List.getElem?_cons_zero, Option.some.injEq] at hy;subst hy;have cO : (bQ E x)[j]? = some l := hj;rw [he] at cO;rw [Nat.zero_mul, Nat.zero_add];exact g5 j l cO
         | succ i => simp at hy
       · rw [← g4 y, ← zR, g1, hlen];show 0 + bY E.sz _ = _;rw [Nat.zero_add]
     · cases h
   · cases h
 · cases h
theorem DS {E : av} : ∀ {vs : List V} {us : List Value} {xs : Unit → List E.α} {ks : List Nat}, uP σ.ai E vs = some (xs, ks) → vs.length = us.length → (∀ (j : Nat) v u, vs[j]? = some v → us[j]? = some u → RV H ρ (ax σ.ai) v u) →
   (xs ()).length = us.length ∧ (∀ u ∈ us, u.cells.size = E.sz) ∧ (us.flatMap fun u => u.cells.toList).length = us.length * E.sz ∧ fP σ.ai ks = true ∧
     ∃ S, bG w.heap E (xs ()) (fun q => (us.flatMap fun u => u.cells.toList).getD q Go.undef) S ∧ ∀ y, cg us.length E.sz S y = bP ρ ks y
 | [], us, xs, ks, h, hl, _ => by
   have : us = [] := List.length_eq_zero_iff.1 hl.symm;subst this;simp only [uP, Option.some.injEq, Prod.mk.injEq] at h;obtain ⟨rfl, rfl⟩ := h;exact ⟨rfl, fun u hu => by (cases hu), by simp, rfl, fun _ _ _ => 0, bG.nil, fun y => rfl⟩
 | v :: vs, [], _, _, _, hl, _ => by simp at hl
 | v :: vs, u :: us, xs, ks, h, hl, hv => by
   unfold uP at h
   split at h
   · rename_i x k pR xg h1 h2;cases h;obtain ⟨g1, g2, S0, g3, g4⟩ := Kc r h1 (hv 0 v u rfl rfl);obtain ⟨g5, g6, g7, g8, S, g9, Kd⟩ := DS h2 (by simpa using hl) fun j v u hj cO => hv (j + 1) v u (by simpa using hj) (by simpa using cO);refine ⟨by simp [g5], fun y hy => ?_, by simp only [List.flatMap_cons, List.length_append, List.length_cons, g7, Array.length_toList, g1, Nat.add_mul]; omega, re g2 g8, glue 1 S0 S, ?_, fun y => ?_⟩
     · cases hy with
       | head => exact g1
       | tail _ hy => exact g6 y hy
     · have := (g3.glue g9);refine bG.cells this fun q hq => ?_;simp only [List.length_cons, List.length_nil, Nat.zero_add, Nat.one_mul, glue, List.flatMap_cons]
       by_cases h : q < E.sz
       · rw [if_pos h, List.getD_eq_getElem?_getD, List.getElem?_append_left (by simp [g1, h]), Array.getD_eq_getD_getElem?, Array.getElem?_toList]
       · rw [if_neg h, List.getD_eq_getElem?_getD, List.getElem?_append_right (by simp [g1]; omega), List.getD_eq_getElem?_getD];simp [g1]
     · rw [List.length_cons, Nat.add_comm, sD, g4, Kd, oF]
   · cases h
end
def DT : Z → Lf
 | .i k => .int k fun _ => 0
 | .bo => .bool fun _ => false
 | .st => .str fun _ => []
 | .nl E => .list E fun _ => []
 | .un => .bool fun _ => false
theorem Ke (E : av) : (bQ E fun _ => E.nh) = (nk E).map DT := by cases E <;> rfl
theorem Z.own {h : Array Obj} {z : Z} {v : Value} (hz : z.ok v = true) (hu : z ≠ .un) : bq h (DT z) v fun _ => 0 := by
 cases z with
 | i k =>
   cases v <;> simp [Z.ok] at hz
   obtain ⟨rfl, rfl⟩ := hz;exact bq.int (t := fun _ => 0) (IntKind.wK _)
 | bo => cases v <;> simp [Z.ok] at hz; subst hz; exact bq.bool (t := fun _ => false)
 | st =>
   cases v <;> simp [Z.ok] at hz
   subst hz;exact bq.str (t := fun _ => []) (by simp [cE])
 | nl E =>
   cases v with
   | slice a n c =>
     cases a with
     | none => cases n <;> cases c <;> first | exact bq.nil rfl | simp [Z.ok] at hz
     | some a => simp [Z.ok] at hz
   | _ => simp [Z.ok] at hz
 | un => exact (hu rfl).elim
theorem Z.zV : ∀ {zs : List Z} {vs : List Value} {j : Nat} {z : Z}, Z.gF zs vs = true → zs[j]? = some z → ∃ v, vs[j]? = some v ∧ z.ok v = true
 | [], _, j, z, _, h => by simp at h
 | z0 :: zs, [], j, z, h, _ => by simp [Z.gF] at h
 | z0 :: zs, v :: vs, j, z, h, hz => by
   simp only [Z.gF, Bool.and_eq_true] at h;cases j with
   | zero => simp at hz; subst hz; exact ⟨v, rfl, h.1⟩
   | succ j => simp at hz; obtain ⟨u, h1, h2⟩ := Z.zV h.2 hz; exact ⟨u, by simpa using h1, h2⟩
theorem Z.xi : ∀ {zs : List Z} {vs : List Value}, Z.gF zs vs = true → vs.length = zs.length
 | [], [], _ => rfl
 | [], _ :: _, h => by simp [Z.gF] at h
 | _ :: _, [], h => by simp [Z.gF] at h
 | _ :: _, _ :: _, h => by
   simp only [Z.gF, Bool.and_eq_true] at h;simp [Z.xi h.2]
theorem DU (E : av) : (nk E).length = E.sz := by cases E <;> rfl
theorem Kf (E : av) : ∀ z ∈ nk E, z ≠ .un := by cases E <;> decide
theorem Kg {h : Array Obj} {E : av} {z : Value} (hz : Z.gF (nk E) z.cells.toList = true) (n : Nat) :
  bG h E (List.replicate n E.nh) (fun q => (madeCells z.cells (n * E.sz)).getD (0 + q) Go.undef) fun _ _ _ => 0 := fun i x hx j l hj => by
 have hlen : z.cells.size = E.sz := by have := Z.xi hz; rw [DU] at this; simpa using this
 have hi : i < n := by have := bK hx; simpa using this
 have gZ := ns hj;rw [List.getElem?_replicate, if_pos hi] at hx;cases hx;have hd : (bQ E fun _ => E.nh)[j]? = some l := hj;rw [Ke, List.getElem?_map, Option.map_eq_some_iff] at hd;obtain ⟨zj, h1, rfl⟩ := hd;obtain ⟨v, h2, h3⟩ := Z.zV hz h1;have hq : i * E.sz + j < n * E.sz := pM hi gZ;have Kh : (i * E.sz + j) % z.cells.size = j := by rw [hlen, Nat.mul_comm, Nat.mul_add_mod, Nat.mod_eq_of_lt gZ]
 have : (madeCells z.cells (n * E.sz)).getD (0 + (i * E.sz + j)) Go.undef = v := by
  rw [Nat.zero_add, Array.getD_eq_getD_getElem?];unfold madeCells;rw [Array.getElem?_map, Array.getElem?_range, if_pos hq];simp only [Option.map_some, Option.getD_some, Kh];rw [Array.getElem?_toList] at h2;rw [getElem!_def, h2]
 show bq h _ ((madeCells z.cells (n * E.sz)).getD (0 + (i * E.sz + j)) Go.undef) _;rw [this];exact Z.own h3 (Kf E zj (List.mem_of_getElem? h1))
section
variable {Γ : Ctx} {H : Hp} {ρ : aL} {σ : SS} {a : Act} {w w' : World}
theorem zW {bs : List (Nat × ar)} {k : Nat} {B : ar} (h : ax bs k) : aQ (cd bs k B) k = some B := by
 induction bs with
 | nil => simp [ax] at h
 | cons p r ih =>
   simp only [cd]
   split
   · simp [aQ]
   · rename_i hp;simp only [aQ, if_neg hp];refine ih ?_;simp only [ax, List.map_cons, List.mem_cons] at h;exact h.resolve_left (Ne.symm hp)
theorem aM.zX (bN : Γ.hd = []) (r : aM Γ H ρ σ a w) {k : Nat} (hk : ax σ.ai k) (h0 : ∀ x, (ρ k).2 x = 0) {B : ar} {p : Nat → Nat}
   (hh : ∀ x, x < w.heap.size → 0 < aS ρ σ.ai x ∨ H x ≠ none → w'.heap[x]? = w.heap[x]?) (bg : Ext w w')
   (hB : cQ w'.heap H (dB ρ k ((ρ k).1, p)) (ax (cd σ.ai k B)) B ((ρ k).1, p)) (qY : ∀ x, fL B ((ρ k).1, p) x → 0 < p x)
   (hp : ∀ x, 0 < p x → H x = none ∧ aS ρ σ.ai x = 0) (hle : ∀ x, p x ≤ 1) :
   aM Γ H (dB ρ k ((ρ k).1, p)) { σ with ai := cd σ.ai k B } a w' := by
 have hf : ∀ j, (dB ρ k ((ρ k).1, p) j).1 = (ρ j).1 := fun j => by
   by_cases h : j = k
   · subst h; rw [dN]
   · rw [dC h]
 have g : jE H H ρ (dB ρ k ((ρ k).1, p)) (ax σ.ai) (ax (cd σ.ai k B)) := ⟨fun _ _ h => h, fun j hj => ⟨eV.2 hj, hf j⟩⟩;refine ⟨⟨fun j hj => by rw [hf]; exact r.b.oc j (eV.1 hj), by rw [sb]; exact r.b.nd, r.b.h0, fun b o hb => ?_, fun j A hj => ?_, fun x => ?_, fun j A hj x hx => ?_, fun j A hj x hx => ?_⟩, r.e.grow g, r.d, r.n.trans bg, (fun p hp => by rw [bN] at hp; cases hp), fun p hp => ⟨eV.2 (r.hm p hp).1, by rw [hf]; exact (r.hm p hp).2⟩⟩
 · have := r.b.hh b o hb;rw [hh b (jJ this) (.inr (by rw [hb]; simp))];exact this
 · rcases lC r.b.nd hj with ⟨rfl, rfl⟩ | ⟨aX, hj⟩
   · rw [dN]; exact hB
   · rw [dC aX];exact (r.b.ai j A hj).mono g fun b hb => hh b (r.lt (Nat.lt_of_lt_of_le hb (mo hj b))) (.inl (Nat.lt_of_lt_of_le hb (mo hj b)))
 · have h1 := sd (ρ := ρ) (ρ' := dB ρ k ((ρ k).1, p)) r.b.nd (B := B) hk (fun j hj => dC hj) x;rw [dN, h0 x] at h1;show aS _ (cd σ.ai k B) x ≤ 1;have h2 := r.b.sum x;have h3 := hle x;rcases Nat.eq_zero_or_pos (p x) with h4 | h4
   · simp only [h4] at h1; omega
   · have := (hp x h4).2;simp only at h1;omega
 · rcases lC r.b.nd hj with ⟨rfl, rfl⟩ | ⟨aX, hj⟩
   · rw [dN] at hx;have := (hp x hx).1;cases h0 : Γ.H0 x with
     | none => rfl
     | some o => rw [r.b.h0 x o h0] at this; cases this
   · rw [dC aX] at hx; exact r.b.fresh j A hj x hx
 · rcases lC r.b.nd hj with ⟨rfl, rfl⟩ | ⟨aX, hj⟩
   · rw [dN] at hx; exact (hp x (qY x hx)).1
   · rw [dC aX] at hx; exact r.b.gY j A hj x hx
theorem DV : ∀ {ks : List Nat} {ρ : aL} {k x : Nat}, (k ∈ ks ∨ (ρ k).2 x = 0) → (ij ρ ks k).2 x = 0
 | [], ρ, k, x, h => h.resolve_left (by simp)
 | j :: ks, ρ, k, x, h => by
   simp only [ij];refine DV ?_
   by_cases oy : k = j
   · right; subst oy; rw [dN]
   · rcases h with h | h
     · rcases List.mem_cons.1 h with h | h
       · exact (oy h).elim
       · exact .inl h
     · right; rw [dC oy]; exact h
theorem DW {n sz i : Nat} (hi : i < n) {S : Nat → Nat → Nat → Nat} {T : Nat → Nat → Nat} {x : Nat} :
  cg n sz (fun q => if q = i then T else S q) x + bY sz (fun j => S i j x) = cg n sz S x + bY sz fun j => T j x := by
 unfold cg;have := yR (f := fun q => bY sz fun j => (if q = i then T else S q) j x) (g := fun q => bY sz fun j => S q j x) hi fun j hj => by simp only [if_neg hj]
 simp only [if_pos] at this;omega
theorem bG.set {h : Array Obj} {E : av} {xs : List E.α} {cs ds : Nat → Value} {S T : Nat → Nat → Nat → Nat} {x : E.α} {i : Nat} (hs : bG h E xs cs S) (ht : bG h E [x] ds T) :
   bG h E (xs.set i x) (fun q => if i * E.sz ≤ q ∧ q < i * E.sz + E.sz then ds (q - i * E.sz) else cs q) (fun q => if q = i then T 0 else S q) := fun q y hy j l hj => by
 have gZ := ns hj;rw [List.getElem?_set] at hy
 by_cases hq : i = q
 · subst hq;rw [if_pos rfl] at hy
   split at hy
   · cases hy;simp only [if_pos];rw [if_pos (by omega), Nat.add_sub_cancel_left];have := ht 0 x rfl j l hj
     rwa [Nat.zero_mul, Nat.zero_add] at this
   · cases hy
 · rw [if_neg hq] at hy;simp only [if_neg (Ne.symm hq)];rw [if_neg]
   · exact hs q y hy j l hj
   · intro hc;rcases Nat.lt_or_gt_of_ne hq with h1 | h1
     · have := Nat.mul_le_mul_right E.sz (show i + 1 ≤ q from h1);rw [Nat.add_mul] at this;omega
     · have := Nat.mul_le_mul_right E.sz (show q + 1 ≤ i from h1);rw [Nat.add_mul] at this;omega
end
theorem zY {fs : List (Option Nat)} (h : fs.all Option.isNone = true) (i q j : Nat) : filled fs i q j = none := by
 unfold filled
 split
 · split
   · rename_i k hk;have := List.all_eq_true.1 h _ (List.mem_of_getElem? hk);cases this
   · rfl
 · rfl
theorem Ki {fs : List (Option Nat)} {i q j m : Nat} {o : Option Nat} (hj : j < fs.length) : filled (fs.set j o) i q m = if q = i ∧ m = j then o else filled fs i q m := by
 unfold filled
 by_cases hq : q = i
 · simp only [hq, if_true, true_and];rw [List.getElem?_set]
   by_cases hm : m = j
   · subst hm;simp only [if_true, hj];cases o <;> rfl
   · rw [if_neg (Ne.symm hm), if_neg hm]
 · simp only [hq, if_false, false_and]
section
variable {h : Array Obj} {ρ : aL} {D : Nat → Prop} {E : av} {xs : List E.α} {i : Nat} {fs : List (Option Nat)} {cs : Nat → Value} {S : Nat → Nat → Nat → Nat}
theorem wI.fw (hs : wI h ρ D E xs i fs cs S) (hf : fs.all Option.isNone = true) : bG h E xs cs S := fun q x hx j l hj => by
 have := hs q x hx j l hj;rw [zY hf] at this;exact this
theorem bG.ct (hs : bG h E xs cs S) (hf : fs.all Option.isNone = true) : wI h ρ D E xs i fs cs S := fun q x hx j l hj => by
 rw [zY hf];exact hs q x hx j l hj
end
theorem Kj {h : Array Obj} {H : Hp} {ρ : aL} {D : Nat → Prop} {E : av} {xs : Unit → List E.α} {l : Bool} {p : Value × (Nat → Nat)} (ho : cQ h H ρ D (.own E xs l) p) {i : Unit → Nat} (hi : i () < (xs ()).length)
  {fs : List (Option Nat)} (hf : fs.all Option.isNone = true) : cQ h H ρ D (.ca E xs i fs) p := by
 have ho : bq h (.list E xs) p.1 p.2 := ho;rcases ho.fw with ⟨_, h0, _⟩ | ⟨b, off, c, vs, e, fz, S, h1, h2, h3, h4, h5, h6, h7, h8⟩
 · rw [h0] at hi; simp at hi
 · exact ⟨b, off, c, vs, e, fz, S, h1, h2, h3, h4, h5, h6, h7, hi, h8.ct hf⟩
theorem Kk {h : Array Obj} {H : Hp} {ρ : aL} {D : Nat → Prop} {E : av} {xs : Unit → List E.α} {p : Value × (Nat → Nat)} {i : Unit → Nat} {fs : List (Option Nat)} (ho : cQ h H ρ D (.ca E xs i fs) p)
  (hf : fs.all Option.isNone = true) (l : Bool) : cQ h H ρ D (.own E xs l) p := by
 obtain ⟨b, o, c, cs, e, fz, S, h1, h2, h3, h4, h5, h6, h7, h8, h9⟩ := ho;have := (h9.fw hf).own h3 h4 h5 h6 h7;show bq h (.list E xs) p.1 p.2;rw [h1, h2];exact this
theorem Kl {n sz i j : Nat} (hi : i < n) (hj : j < sz) {S : Nat → Nat → Nat → Nat} {T : Nat → Nat} {x : Nat} :
  cg n sz (fun q m => if q = i ∧ m = j then T else S q m) x + S i j x = cg n sz S x + T x := by
 unfold cg;have h1 := yR (f := fun q => bY sz fun m => (if q = i ∧ m = j then T else S q m) x) (g := fun q => bY sz fun m => S q m x) hi fun q hq => by simp only [hq, false_and, if_false]
 have h2 := yR (f := fun m => (if m = j then T else S i m) x) (g := fun m => S i m x) hj fun m hm => by simp only [if_neg hm]
 simp only [true_and, if_true] at h1 h2;show (bY n fun q => bY sz fun m => (if q = i ∧ m = j then T else S q m) x) + _ = _ + _;omega
def sI (bs : List (Nat × ar)) : List (Option Nat) → List Lf → Option (List Lf × List Nat)
 | _, [] => some ([], [])
 | [], l :: ls => some (l :: ls, [])
 | o :: fs, l :: ls =>
   match sI bs fs ls with
   | some (r, ks) =>
     match o with
     | none => some (l :: r, ks)
     | some k => (match aQ bs k with | some (.own E xs false) => some (.list E xs :: r, k :: ks) | _ => none)
   | none => none
theorem DX {bs : List (Nat × ar)} {ρ : aL} : ∀ {fs : List (Option Nat)} {ls oG : List Lf} {ks : List Nat}, sI bs fs ls = some (oG, ks) →
   oG.length = ls.length ∧ fP bs ks = true ∧ (∀ (j : Nat) l', oG[j]? = some l' → (∃ k E xs, fs[j]? = some (some k) ∧ aQ bs k = some (.own E xs false) ∧ k ∈ ks ∧ l' = .list E xs) ∨ ((∀ k, fs[j]? ≠ some (some k)) ∧ ls[j]? = some l')) ∧
   ∀ (T : Nat → Nat → Nat), (∀ (j : Nat) k, fs[j]? = some (some k) → j < ls.length → T j = fun _ => 0) →
     ∀ x, bY ls.length (fun j => (match fs[j]? with | some (some k) => (ρ k).2 | _ => T j) x) = bY ls.length (fun j => T j x) + bP ρ ks x
 | fs, [], oG, ks, h => by
   have : oG = [] ∧ ks = [] := by cases fs <;> simp_all [sI]
   obtain ⟨rfl, rfl⟩ := this;exact ⟨rfl, rfl, fun j l' hj => by simp at hj, fun T _ x => rfl⟩
 | [], l :: ls, oG, ks, h => by
   simp only [sI, Option.some.injEq, Prod.mk.injEq] at h;obtain ⟨rfl, rfl⟩ := h;exact ⟨rfl, rfl, fun j l' hj => .inr ⟨fun k => by simp, hj⟩, fun T _ x => by simp [bP]⟩
 | o :: fs, l :: ls, oG, ks, h => by
   simp only [sI] at h
   split at h
   · rename_i r xg hr;obtain ⟨g1, g2, g3, g4⟩ := DX (ρ := ρ) hr;cases o with
     | none =>
       simp only [Option.some.injEq, Prod.mk.injEq] at h;obtain ⟨rfl, rfl⟩ := h;refine ⟨by simp [g1], g2, fun j l' hj => ?_, fun T hT x => ?_⟩
       · cases j with
         | zero => exact .inr ⟨fun k => by simp, by simpa using hj⟩
         | succ j => simpa using g3 j l' (by simpa using hj)
       · have := g4 (fun j => T (j + 1)) (fun j k hj hl => hT (j + 1) k (by simpa using hj) (by simpa using hl)) x;simp only [List.length_cons];rw [uO, uO];simp only [List.getElem?_cons_succ, List.getElem?_cons_zero] at this ⊢;omega
     | some k =>
       simp only at h
       split at h
       · rename_i E xs hk;simp only [Option.some.injEq, Prod.mk.injEq] at h;obtain ⟨rfl, rfl⟩ := h;refine ⟨by simp [g1], by simp only [fP, hk, g2, Bool.and_self], fun j l' hj => ?_, fun T hT x => ?_⟩
         · cases j with
           | zero => exact .inl ⟨k, E, xs, rfl, hk, List.mem_cons_self, by simpa using hj.symm⟩
           | succ j =>
             rcases g3 j l' (by simpa using hj) with ⟨k', E', pR, q1, q2, q3, q4⟩ | q
             · exact .inl ⟨k', E', pR, by simpa using q1, q2, List.mem_cons_of_mem _ q3, q4⟩
             · exact .inr (by simpa using q)
         · have := g4 (fun j => T (j + 1)) (fun j k hj hl => hT (j + 1) k (by simpa using hj) (by simpa using hl)) x;have h0 := hT 0 k rfl (by simp);simp only [List.length_cons, bP];rw [uO, uO, h0];simp only [List.getElem?_cons_succ, List.getElem?_cons_zero] at this ⊢;omega
       · cases h
   · cases h
def sJ (bs : List (Nat × ar)) (k : Nat) : Option (List (Nat × ar)) :=
 match aQ bs k with
 | some (.ca E xs i fs) =>
   match sI bs fs (bQ E (ew E xs i)) with
   | some (ls, ks) =>
     match uM E ls with
     | some x => if eB (k :: ks) = true then some (cd (fl bs (k :: ks)) k (.own E (fun _ => (xs ()).set (i ()) (x ())) false)) else none
     | none => none
   | none => none
 | some _ => some bs
 | none => none
section
variable {Γ : Ctx} {H : Hp} {ρ : aL} {σ : SS} {a : Act} {w w' : World}
theorem cQ.gY {h : Array Obj} {D : Nat → Prop} {E : av} {xs : Unit → List E.α} {i : Unit → Nat} {fs : List (Option Nat)} {p : Value × (Nat → Nat)} (_ : cQ h H ρ D (.ca E xs i fs) p) (x : Nat) (hx : fL (.ca E xs i fs) p x) : 0 < p.2 x := hx
theorem aM.DY (bN : Γ.hd = []) (r : aM Γ H ρ σ a w) {k : Nat} {ks : List Nat} (hn : eB (k :: ks) = true) (hd : ∀ j ∈ k :: ks, ax σ.ai j) (hH : ∀ j ∈ k :: ks, ∀ x, 0 < (ρ j).2 x → H x = none) {B : ar} {p : Nat → Nat}
   (hh : ∀ x, x < w.heap.size → bP ρ (k :: ks) x = 0 → w'.heap[x]? = w.heap[x]?) (bg : Ext w w')
   (hB : ∀ ρ' : aL, (∀ j, (ρ' j).1 = (ρ j).1) → (∀ j, j ∉ k :: ks → ρ' j = ρ j) → cQ w'.heap H ρ' (ax σ.ai) B ((ρ k).1, p)) (qY : ∀ x, fL B ((ρ k).1, p) x → 0 < p x)
   (hp : ∀ x, p x ≤ bP ρ (k :: ks) x) :
   ∃ ρ', aM Γ H ρ' { σ with ai := cd (Go.Proofs.YticeaiiffeccmaaGreat.fl σ.ai (k :: ks)) k B } a w' ∧ ∀ j, (ρ' j).1 = (ρ j).1 := by
 have r1 := r.fl hd;have fx := fun y => uK (ρ := ρ) (x := y) r.b.nd hn hd
 have mA : ∀ y, 0 < bP ρ (k :: ks) y → H y = none := fun y hy => by
   obtain ⟨j, hj, h1⟩ := xe hy;exact hH j hj y h1
 have xj : ∀ j, (dB (ij ρ (k :: ks)) k ((ij ρ (k :: ks) k).1, p) j).1 = (ρ j).1 := fun j => by
   by_cases h : j = k
   · subst h; rw [dN]; exact nt
   · rw [dC h, nt]
 have Km : ax (cd (Go.Proofs.YticeaiiffeccmaaGreat.fl σ.ai (k :: ks)) k B) = ax σ.ai := by
   funext j; rw [eV, uJ]
 refine ⟨_, r1.zX (w' := w') (k := k) (B := B) (p := p) bN (uJ.2 (hd k List.mem_cons_self)) (fun y => DV (.inl List.mem_cons_self))
     (fun y aR hy => hh y aR ?_) bg ?_ (by rw [nt]; exact qY) (fun y hy => ?_) (fun y => ?_), xj⟩
 · have h2 := fx y;have h3 := r.b.sum y;rcases Nat.eq_zero_or_pos (bP ρ (k :: ks) y) with h | h
   · exact h
   · rcases hy with hy | hy
     · simp only at hy; omega
     · exact (hy (mA y h)).elim
 · rw [Km, nt];refine hB _ (by rw [← nt (ks := k :: ks) (ρ := ρ) (k := k)]; exact xj) fun j hj => ?_;rw [dC (by rintro rfl; exact hj List.mem_cons_self), DK hj]
 · have h1 := hp y;have h2 := fx y;have h3 := r.b.sum y;exact ⟨mA y (by omega), by simp only; omega⟩
 · have h1 := hp y;have h2 := fx y;have h3 := r.b.sum y;omega
theorem DZ (r : aM Γ H ρ σ a w) {ks : List Nat} (hu : fP σ.ai ks = true) : (∀ j ∈ ks, ax σ.ai j) ∧ ∀ j ∈ ks, ∀ x, 0 < (ρ j).2 x → H x = none :=
 ⟨fun j hj => by obtain ⟨E, xs, hg⟩ := nu hu j hj; exact fN hg, fun j hj x hx => by obtain ⟨E, xs, hg⟩ := nu hu j hj; exact r.b.gY j _ (di hg) x hx⟩
theorem zZ (ρ : aL) (k : Nat) (ks : List Nat) (x : Nat) : bP ρ (k :: ks) x = (ρ k).2 x + bP ρ ks x := rfl
theorem aM.close (bN : Γ.hd = []) (r : aM Γ H ρ σ a w) {k : Nat} {bs : List (Nat × ar)} (h : sJ σ.ai k = some bs) : ∃ ρ', aM Γ H ρ' { σ with ai := bs } a w ∧ ∀ j, (ρ' j).1 = (ρ j).1 := by
 unfold sJ at h
 split at h
 · rename_i E xs i fs hk
   split at h
   · rename_i ls ks ka
     split at h
     · rename_i x hx
       split at h
       · rename_i hn;cases h;obtain ⟨g1, g2, g3, g4⟩ := DX (ρ := ρ) ka;rw [gR] at g4;obtain ⟨iN, pS⟩ := DZ r g2;have oH := r.b.ai k _ (di hk);obtain ⟨b, o, c, cs, e, fz, S, h1, h2, h3, h4, h5, h6, h7, h8, h9⟩ := oH
         have nx : (xs ())[i ()]? = some (ew E xs i ()) := by
           simp only [ew, List.getD_eq_getElem?_getD, List.getElem?_eq_getElem h8, Option.getD_some]
         have ny : bQ E x = ls := zQ hx fun t ht => by
           have bM : ls[0]? = some (.int .u8 t) := by rw [ht]; rfl
           rcases g3 0 _ bM with ⟨_, _, _, _, _, _, q⟩ | ⟨q1, q2⟩
           · cases q
           · have ie := h9 (i ()) _ nx 0 _ q2
             have : filled fs (i ()) (i ()) 0 = none := by
               unfold filled; rw [if_pos rfl]; split
               · rename_i k' bC; exact (q1 k' bC).elim
               · rfl
             rw [this] at ie
             have hint : ∀ (v : Value) (T : Nat → Nat), bq w.heap (.int .u8 t) v T → IntKind.u8.has (t ()) := fun v T h => by
               cases h with
               | int hr => exact hr
             exact hint _ _ ie
         have D0 : ∀ (j : Nat) k', fs[j]? = some (some k') → j < E.sz → cs.getD (o + (i () * E.sz + j)) Go.undef = (ρ k').1 ∧ S (i ()) j = fun _ => 0 := fun j k' hj hl => by
           obtain ⟨l, jo⟩ : ∃ l, (bQ E fun _ => ew E xs i ())[j]? = some l := ⟨_, List.getElem?_eq_getElem (by rw [gR]; exact hl)⟩;have := h9 (i ()) _ nx j l jo;have hf : filled fs (i ()) (i ()) j = some k' := by unfold filled; rw [if_pos rfl, hj]
           rw [hf] at this;exact this.2
         let S' : Nat → Nat → Nat → Nat := fun q j => if q = i () then (match fs[j]? with | some (some k) => (ρ k).2 | _ => S q j) else S q j
         have fx : ∀ y, cg (xs ()).length E.sz S' y = cg (xs ()).length E.sz S y + bP ρ ks y := fun y => by
           have q1 := DW (sz := E.sz) (S := S) (T := fun j => match fs[j]? with | some (some k) => (ρ k).2 | _ => S (i ()) j) (x := y) h8;have q2 := g4 (S (i ())) (fun j k' hj hl => (D0 j k' hj hl).2) y
           have q3 : S' = fun q => if q = i () then (fun j => match fs[j]? with | some (some k) => (ρ k).2 | _ => S (i ()) j) else S q := by
             funext q j
             simp only [S']
             by_cases hq : q = i ()
             · subst hq; simp only [if_true]
             · simp only [if_neg hq]
           rw [q3];omega
         have ct : bG w.heap E ((xs ()).set (i ()) (x ())) (fun q => cs.getD (o + q) Go.undef) S' := fun q y hy j l hj => by
           rw [List.getElem?_set] at hy
           by_cases hq : i () = q
           · rw [if_pos hq, if_pos (by omega)] at hy;cases hy;have cO : (bQ E x)[j]? = some l := hj;rw [ny] at cO;subst hq;simp only [S', if_true];rcases g3 j l cO with ⟨k', E', pR, q1, q2, q3, rfl⟩ | ⟨q1, q2⟩
             · have gZ : j < E.sz := ns hj;rw [q1, (D0 j k' q1 gZ).1];exact r.b.ai k' _ (di q2)
             · have ie := h9 (i ()) _ nx j l q2
               have hf : filled fs (i ()) (i ()) j = none := by
                unfold filled; rw [if_pos rfl]; split
                · rename_i k' bC; exact (q1 k' bC).elim
                · rfl
               rw [hf] at ie
               split
               · rename_i k' bC; exact (q1 k' bC).elim
               · exact ie
           · rw [if_neg hq] at hy;have ie := h9 q y hy j l hj;have hf : filled fs (i ()) q j = none := by unfold filled; rw [if_neg (Ne.symm hq)]
             rw [hf] at ie;simp only [S', if_neg (Ne.symm hq)];exact ie
         have cN := ct.own (b := b) (off := o) (c := c) h3 h4 (by rw [List.length_set]; exact h5) (by rw [List.length_set]; exact h6) h7;rw [List.length_set] at cN;refine r.DY bN (p := bT b (xs ()).length E.sz S') hn (fun j hj => ?_) (fun j hj y hy => ?_) (fun _ _ _ => rfl) (Ext.refl _) (fun ρ' iM _ => ?_) (fun y hy => hy) fun y => ?_
         · rcases List.mem_cons.1 hj with rfl | hj
           · exact fN hk
           · exact iN j hj
         · rcases List.mem_cons.1 hj with rfl | hj
           · exact r.b.gY _ _ (di hk) y hy
           · exact pS j hj y hy
         · show bq w.heap _ (ρ k).1 _;rw [h1]; exact cN
         · have := fx y;rw [zZ, h2];simp only [bT];simp only [cg] at this;omega
       · cases h
     · cases h
   · cases h
 · cases h;exact ⟨ρ, r, fun _ => rfl⟩
 · cases h
theorem aM.Kn (bN : Γ.hd = []) (r : aM Γ H ρ σ a w) {k kk : Nat} {E E' : av} {xs : Unit → List E.α} {ys : Unit → List E'.α} {i : Unit → Nat} {fs : List (Option Nat)} (hk : aQ σ.ai k = some (.ca E xs i fs)) (kU : aQ σ.ai kk = none) {j : Nat}
   (hj : (bQ E (ew E xs i))[j]? = some (.list E' ys)) (hf : fs[j]? = some none) :
   ∃ ρ', aM Γ H ρ' { σ with ai := cd (dj (cd σ.ai k .dead) kk (.own E' ys false)) k (.ca E xs i (fs.set j (some kk))) } a w ∧ (∀ q, ax σ.ai q → (ρ' q).1 = (ρ q).1) ∧
    ∃ b o n c cs e fz, (ρ k).1 = .slice (some ⟨b, o, none⟩) n c ∧ w.heap[b]? = some (.cells cs e fz) ∧ (ρ' kk).1 = cs.getD (o + (i () * E.sz + j)) Go.undef := by
 have gZ : j < E.sz := by have := bK hj; rwa [gR] at this
 have Ko : j < fs.length := bK hf;have oH := r.b.ai k _ (di hk);obtain ⟨b, o, c, cs, e, fz, S, h1, h2, h3, h4, h5, h6, h7, h8, h9⟩ := oH
 have nx : (xs ())[i ()]? = some (ew E xs i ()) := by
   simp only [ew, List.getD_eq_getElem?_getD, List.getElem?_eq_getElem h8, Option.getD_some]
 have cN := h9 (i ()) _ nx j _ hj;have z5 : filled fs (i ()) (i ()) j = none := by unfold filled; rw [if_pos rfl, hf]
 rw [z5] at cN;simp only at cN
 let S' : Nat → Nat → Nat → Nat := fun q m => if q = i () ∧ m = j then (fun _ => 0) else S q m
 have hS : ∀ y, bT b (xs ()).length E.sz S y = bT b (xs ()).length E.sz S' y + S (i ()) j y := fun y => by
   have := Kl (S := S) (T := fun _ => 0) (x := y) h8 gZ;simp only [cg] at this;simp only [bT, S'];omega
 have gm : ax σ.ai k := fN hk;have aX : kk ≠ k := fun he => jm kU (he ▸ gm);have jl : ∀ y, bP ρ [k] y = bT b (xs ()).length E.sz S y := fun y => by simp [bP, h2]
 have mA : ∀ y, 0 < bT b (xs ()).length E.sz S y → H y = none := fun y hy => r.b.gY k _ (di hk) y (by show 0 < (ρ k).2 y; rw [h2]; exact hy);have fV := fun y => uK (ρ := ρ) (ks := [k]) (x := y) r.b.nd rfl (fun j hj => by simp at hj; subst hj; exact gm);have r1 := r.kill gm
 let ρ1 : aL := dB ρ k ((ρ k).1, fun _ => 0)
 have z6 : ∀ y, aS ρ1 (cd σ.ai k .dead) y + bT b (xs ()).length E.sz S y = aS ρ σ.ai y := fun y => by have := fV y; rw [jl y] at this; exact this
 have dS : (cs.getD (o + (i () * E.sz + j)) Go.undef).oneCell' = true := cN.one
 have r2 := r1.qS (w' := w) (k := kk) (B := .own E' ys false) (p := (cs.getD (o + (i () * E.sz + j)) Go.undef, S (i ()) j)) (DL kU) (fun _ _ _ => rfl) (fun _ _ => rfl) (Ext.refl _) dS
   (fun y hy => by
    have q1 := hS y;have q2 := z6 y;have q3 := r.b.sum y;exact ⟨mA y (by simp only at hy; omega), by show aS ρ1 (cd σ.ai k .dead) y = 0; simp only at hy; omega⟩)
   (fun y => by
    have q1 := hS y;have q2 := z6 y;have q3 := r.b.sum y;simp only; omega) cN (by simp)
 let ρ2 : aL := dB ρ1 kk (cs.getD (o + (i () * E.sz + j)) Go.undef, S (i ()) j)
 have e2 : ∀ q, q ≠ kk → ρ2 q = ρ1 q := fun q hq => dC hq
 have e1 : ∀ q, (ρ1 q).1 = (ρ q).1 := fun q => by
   by_cases h : q = k
   · subst h; simp only [ρ1]; rw [dN]
   · simp only [ρ1]; rw [dC h]
 have D3 : (ρ2 k) = ((ρ k).1, fun _ => 0) := by rw [e2 k (Ne.symm aX)]; exact dN _ _ _
 have D4 : ∀ y, aS ρ2 (dj (cd σ.ai k .dead) kk (.own E' ys false)) y + bT b (xs ()).length E.sz S' y = aS ρ σ.ai y := fun y => by
   have q1 := hS y;have q2 := z6 y;rw [wJ, uh (ρ := ρ1) (ρ' := ρ2) fun q hq => e2 q fun he => jm kU (by rw [← he]; exact eV.1 hq)];have : (ρ2 kk).2 y = S (i ()) j y := by simp only [ρ2]; rw [dN]
   omega
 have Kp : ax (dj (cd σ.ai k .dead) kk (.own E' ys false)) k := fO.2 (.inr (eV.2 gm))
 have e3 : ∀ q, (dB ρ2 k ((ρ2 k).1, bT b (xs ()).length E.sz S') q).1 = (ρ2 q).1 := fun q => by
   by_cases h : q = k
   · subst h; rw [dN]
   · rw [dC h]
 have r3 := aM.zX (w' := w) bN r2 (k := k) (B := .ca E xs i (fs.set j (some kk))) (p := bT b (xs ()).length E.sz S') Kp (fun y => by
    show (ρ2 k).2 y = 0;rw [D3]) (fun _ _ _ => rfl) (Ext.refl _)
   (by
    refine ⟨b, o, c, cs, e, fz, S', ?_, rfl, h3, h4, h5, h6, h7, h8, fun q x hx m l hm => ?_⟩
    · show (ρ2 k).1 = _;rw [D3]; exact h1
    · rw [Ki Ko]
      by_cases hq : q = i () ∧ m = j
      · rw [if_pos hq];obtain ⟨rfl, rfl⟩ := hq;refine ⟨eV.2 (fO.2 (.inl rfl)), ?_, by simp [S']⟩;show _ = (dB ρ2 k ((ρ2 k).1, bT b (xs ()).length E.sz S') kk).1;rw [e3];simp only [ρ2]; rw [dN]
      · rw [if_neg hq];have bM := h9 q x hx m l hm;have Kq : S' q m = S q m := by simp only [S', if_neg hq]
        rw [Kq]
        split at bM
        · obtain ⟨g1, g2, g3⟩ := bM;have Kr : ∀ k', k' = kk → ¬ ax σ.ai k' := fun k' he hd => jm kU (he ▸ hd);refine ⟨eV.2 (fO.2 (.inr (eV.2 g1))), ?_, g3⟩;show _ = (dB ρ2 k ((ρ2 k).1, bT b (xs ()).length E.sz S') _).1;rw [e3, e2 _ fun he => Kr _ he g1, e1]; exact g2
        · exact bM)
   (fun y hy => hy)
   (fun y hy => by
    have q1 := D4 y;have q2 := r.b.sum y;have q3 := hS y;refine ⟨mA y (by omega), ?_⟩;show aS ρ2 (dj (cd σ.ai k .dead) kk (.own E' ys false)) y = 0;omega)
   (fun y => by
    have q1 := D4 y;have q2 := r.b.sum y;omega)
 refine ⟨_, r3, fun q hq => ?_, b, o, _, c, cs, e, fz, h1, h3, ?_⟩
 · show (dB ρ2 k ((ρ2 k).1, bT b (xs ()).length E.sz S') q).1 = _;rw [e3, e2 q fun he => jm kU (he ▸ hq), e1]
 · show (dB ρ2 k ((ρ2 k).1, bT b (xs ()).length E.sz S') kk).1 = _;rw [e3];simp only [ρ2]; rw [dN]
end
def pT (ls : List Lf) (off : Nat) (new : List Lf) : List Lf := ls.take off ++ (new ++ ls.drop (off + new.length))
theorem D5 {ls new : List Lf} {off j : Nat} (h : off + new.length ≤ ls.length) : (pT ls off new)[j]? = if off ≤ j ∧ j < off + new.length then new[j - off]? else ls[j]? := by
 unfold pT;rcases Nat.lt_or_ge j off with h1 | h1
 · rw [List.getElem?_append_left (by rw [List.length_take]; omega), List.getElem?_take, if_pos h1, if_neg (by omega)]
 · rw [List.getElem?_append_right (by rw [List.length_take]; omega), List.length_take, Nat.min_eq_left (by omega)];rcases Nat.lt_or_ge j (off + new.length) with h2 | h2
   · rw [List.getElem?_append_left (by omega), if_pos ⟨h1, h2⟩]
   · rw [List.getElem?_append_right (by omega), if_neg (by omega), List.getElem?_drop]
     congr 1; omega
def lI : List (Option Nat) → Nat → Nat → List (Option Nat)
 | [], _, _ => []
 | o :: fs, 0, 0 => o :: fs
 | _ :: fs, 0, n + 1 => none :: lI fs 0 n
 | o :: fs, off + 1, n => o :: lI fs off n
theorem z7 : ∀ {fs : List (Option Nat)} {off n j : Nat}, (lI fs off n)[j]? = if off ≤ j ∧ j < off + n then (fs[j]?).map fun _ => none else fs[j]?
 | [], off, n, j => by simp [lI]
 | o :: fs, 0, 0, j => by
   have : ¬ (0 ≤ j ∧ j < 0 + 0) := by omega
   simp only [lI, if_neg this]
 | o :: fs, 0, n + 1, 0 => by simp [lI]
 | o :: fs, 0, n + 1, j + 1 => by
   simp only [lI, List.getElem?_cons_succ];rw [z7];have : (0 ≤ j ∧ j < 0 + n) ↔ (0 ≤ j + 1 ∧ j + 1 < 0 + (n + 1)) := by omega
   simp only [this]
 | o :: fs, off + 1, n, 0 => by
   simp [lI]
 | o :: fs, off + 1, n, j + 1 => by
   simp only [lI, List.getElem?_cons_succ];rw [z7];have : (off ≤ j ∧ j < off + n) ↔ (off + 1 ≤ j + 1 ∧ j + 1 < off + 1 + n) := by omega
   simp only [this]
theorem Ks {fs : List (Option Nat)} {off n i q j : Nat} : filled (lI fs off n) i q j = if off ≤ j ∧ j < off + n then none else filled fs i q j := by
 unfold filled;rw [z7]
 by_cases h : off ≤ j ∧ j < off + n
 · simp only [if_pos h]
   split
   · cases fs[j]? <;> rfl
   · rfl
 · simp only [if_neg h]
theorem Kt {n : Nat} {f g : Nat → Nat} : bY n (fun j => f j + g j) = bY n f + bY n g := by
 induction n with
 | zero => rfl
 | succ n ih => simp only [bY, ih]; omega
theorem Ku {off n sz : Nat} {f g : Nat → Nat} (h : off + n ≤ sz) : bY sz (fun j => if off ≤ j ∧ j < off + n then f (j - off) else g j) ≤ bY sz g + bY n f := by
 have h1 : bY sz (fun j => if off ≤ j ∧ j < off + n then f (j - off) else g j) ≤ bY sz fun j => g j + (if off ≤ j ∧ j < off + n then f (j - off) else 0) :=
  Jg fun j hj => by split <;> omega
 have h2 : bY sz (fun j => if off ≤ j ∧ j < off + n then f (j - off) else 0) = bY n f := by
  obtain ⟨m, rfl⟩ : ∃ m, sz = off + (n + m) := ⟨sz - off - n, by omega⟩;rw [uI, lB (n := off) (fun i hi => by rw [if_neg (by omega)]), uI, lB (n := m) (fun i hi => by rw [if_neg (by omega)]), Nat.zero_add, Nat.add_zero];exact uc fun i hi => by rw [if_pos (by omega), Nat.add_sub_cancel_left]
 rw [Kt, h2] at h1;exact h1
def sK (E : av) (xs : Unit → List E.α) (i : Unit → Nat) (fs : List (Option Nat)) : ar := if fs.all Option.isNone = true then .own E xs false else .ca E xs i fs
theorem Kv {h : Array Obj} {H : Hp} {ρ : aL} {D : Nat → Prop} {E : av} {xs : Unit → List E.α} {i : Unit → Nat} {fs : List (Option Nat)} {p : Value × (Nat → Nat)} (hr : cQ h H ρ D (.ca E xs i fs) p) : cQ h H ρ D (sK E xs i fs) p := by
 unfold sK
 split
 · rename_i hf; exact Kk hr hf false
 · exact hr
theorem Kw {E : av} {xs : Unit → List E.α} {i : Unit → Nat} {fs : List (Option Nat)} {p : Value × (Nat → Nat)} {x : Nat} (h : fL (sK E xs i fs) p x) : 0 < p.2 x := by
 unfold sK at h
 split at h <;> exact h
section
variable {Γ : Ctx} {H : Hp} {ρ : aL} {σ : SS} {a : Act} {w w' : World}
theorem aM.Kx {P : Program} (bN : Γ.hd = []) (r : aM Γ H ρ σ a w) {k : Nat} {ks : List Nat} (hn : eB (k :: ks) = true) {E : av} {xs : Unit → List E.α} {i : Unit → Nat} {fs : List (Option Nat)} (iN : ax σ.ai k)
   (hB : cQ w.heap H ρ (ax σ.ai) (.ca E xs i fs) (ρ k)) (pS : ∀ x, 0 < (ρ k).2 x → H x = none) (hu : fP σ.ai ks = true) {b o n c : Nat} (hv : (ρ k).1 = .slice (some ⟨b, o, none⟩) n c) {off : Nat} {us : List Value} {new : List Lf}
   (zA : us.length = new.length) (dZ : off + new.length ≤ E.sz) {T : Nat → Nat → Nat} (cN : ∀ (j : Nat) l, new[j]? = some l → bq w.heap l (us.getD j Go.undef) (T j)) (hT : ∀ y, bY new.length (fun j => T j y) = bP ρ ks y)
   {x : Unit → E.α} (hx : bQ E x = pT (bQ E (ew E xs i)) off new) :
   ∃ w', (storeCells ⟨b, o + i () * E.sz + off, none⟩ us).run P w = .ok () w' ∧
     ∃ ρ', aM Γ H ρ' { σ with ai := cd (Go.Proofs.YticeaiiffeccmaaGreat.fl σ.ai (k :: ks)) k (sK E (fun _ => (xs ()).set (i ()) (x ())) i (lI fs off new.length)) } a w' := by
 obtain ⟨b', o', c', vs, e, fz, S, h1, h2, h3, h4, h5, h6, h7, h8, h9⟩ := hB;rw [hv] at h1;simp only [Value.slice.injEq, Option.some.injEq, Addr.mk.injEq, and_true] at h1;obtain ⟨⟨rfl, rfl⟩, rfl, rfl⟩ := h1;obtain ⟨Ky, Kz⟩ := DZ r hu;have hd : ∀ j ∈ k :: ks, ax σ.ai j := fun j hj => by rcases List.mem_cons.1 hj with rfl | hj; exact iN; exact Ky j hj
 have hle : ∀ y, (ρ k).2 y + bP ρ ks y ≤ 1 := fun y => by
   have h1 := my (ρ := ρ) (k :: ks) hn hd y;have h2 := r.b.sum y;simp only [bP] at h1;omega
 have nx : (xs ())[i ()]? = some (ew E xs i ()) := by
   simp only [ew, List.getD_eq_getElem?_getD, List.getElem?_eq_getElem h8, Option.getD_some]
 have ed : i () * E.sz + E.sz ≤ (xs ()).length * E.sz := by
   have := Nat.mul_le_mul_right E.sz (show i () + 1 ≤ (xs ()).length from h8)
   rwa [Nat.add_mul, Nat.one_mul] at this
 have nv := Nat.mul_le_mul_right E.sz h5
 have dS : ∀ u ∈ us, u.oneCell' = true := fun u z8 => by
   obtain ⟨q, hq, rfl⟩ := List.getElem_of_mem z8;obtain ⟨l, hl⟩ : ∃ l, new[q]? = some l := ⟨_, List.getElem?_eq_getElem (by omega)⟩;have := (cN q l hl).one
   rwa [List.getD_eq_getElem?_getD, List.getElem?_eq_getElem hq] at this
 obtain ⟨w', g1, g2, g3, g4⟩ := pJ (P := P) us w b (o + i () * E.sz + off) 0 vs e fz h3 h4 (by omega) dS;rw [Nat.add_zero] at g2
 let S' : Nat → Nat → Nat → Nat := fun q j => if q = i () then (if off ≤ j ∧ j < off + new.length then T (j - off) else S q j) else S q j
 have D6 : ∀ y, cg (xs ()).length E.sz S' y ≤ cg (xs ()).length E.sz S y + bP ρ ks y := fun y => by
   have q1 := DW (sz := E.sz) (S := S) (T := fun j => if off ≤ j ∧ j < off + new.length then T (j - off) else S (i ()) j) (x := y) h8;have q2 := Ku (f := fun j => T j y) (g := fun j => S (i ()) j y) dZ
   have q3 : S' = fun q => if q = i () then (fun j => if off ≤ j ∧ j < off + new.length then T (j - off) else S (i ()) j) else S q := by
     funext q j
     simp only [S']
     by_cases hq : q = i ()
     · subst hq; simp only [if_true]
     · simp only [if_neg hq]
   have q4 : (bY E.sz fun j => (fun j => if off ≤ j ∧ j < off + new.length then T (j - off) else S (i ()) j) j y) = bY E.sz fun j => if off ≤ j ∧ j < off + new.length then T (j - off) y else S (i ()) j y :=
     uc fun j _ => by show (if _ then _ else _ : Nat → Nat) y = _; split <;> rfl
   rw [← q3, q4] at q1;rw [hT y] at q2;omega
 have jt : ∀ y, (ρ k).2 y = (if y = b then 1 else 0) + cg (xs ()).length E.sz S y := fun y => by rw [h2]; rfl
 have Rb : cg (xs ()).length E.sz S b = 0 ∧ bP ρ ks b = 0 := by
   have h1 := hle b;have h2 := jt b;rw [if_pos rfl] at h2;omega
 have z_ : ∀ q y, (xs ())[q]? = some y ∨ q = i () → ∀ j, j < E.sz → ∀ z, 0 < S' q j z → z ≠ b := fun q y hy j hj z hz KA => by
   subst KA;have hq : q < (xs ()).length := by rcases hy with hy | rfl; exact bK hy; exact h8
   have := DJ (S := S') (x := z) hq hj;have := D6 z;omega
 have eJ : ∀ q, o + q < vs.size → ¬ (i () * E.sz + off ≤ q ∧ q < i () * E.sz + off + new.length) → (dz vs (o + i () * E.sz + off) us).getD (o + q) Go.undef = vs.getD (o + q) Go.undef := fun q hq hc => by
   rw [iz _ _ _ _ (by omega), if_neg (by omega)]
 have KB : ∀ j, j < new.length → (dz vs (o + i () * E.sz + off) us).getD (o + (i () * E.sz + (off + j))) Go.undef = us.getD j Go.undef := fun j hj => by
   rw [iz _ _ _ _ (by omega), if_pos (by omega)]
   congr 1; omega
 refine ⟨w', g1, Exists.imp (fun _ h => And.left h) (r.DY bN (p := bT b (xs ()).length E.sz S') hn hd (fun j hj y hy => by rcases List.mem_cons.1 hj with rfl | hj; exact pS y hy; exact Kz j hj y hy) (fun y _ hy => g3 y fun he => ?_) g4 (fun ρ' iM Rc => Kv ?_) (fun y hy => Kw hy) fun y => ?_)⟩
 · subst he;have := jt y;rw [if_pos rfl] at this;rw [zZ] at hy;omega
 · refine ⟨b, o, c, dz vs (o + i () * E.sz + off) us, e, fz, S', by rw [List.length_set]; exact hv, by rw [List.length_set], g2, by rcases h4 with h | h; exact .inl h; exact .inr (by rw [dU]; exact h), by rw [List.length_set]; exact h5,
     by rw [List.length_set]; exact h6, by rw [dU]; exact h7, by rw [List.length_set]; exact h8, fun q y hy j l hj => ?_⟩
   have gZ := ns hj;rw [List.getElem?_set] at hy
   by_cases hq : i () = q
   · rw [if_pos hq, if_pos h8] at hy;cases hy;subst hq;have cO : (bQ E x)[j]? = some l := hj;rw [hx, D5 (by rw [gR]; exact dZ)] at cO;rw [Ks];simp only [S', if_true]
     by_cases hr : off ≤ j ∧ j < off + new.length
     · rw [if_pos hr] at cO ⊢;rw [if_pos hr];have q1 := KB (j - off) (by omega);rw [show off + (j - off) = j by omega] at q1;show bq w'.heap l ((dz vs (o + i () * E.sz + off) us).getD (o + (i () * E.sz + j)) Go.undef) (T (j - off));rw [q1];refine (cN _ _ cO).mono fun z hz => g3 z ?_;exact z_ (i ()) (ew E xs i ()) (.inr rfl) j gZ z (by simp only [S', if_true, if_pos hr]; exact hz)
     · rw [if_neg hr] at cO ⊢;rw [if_neg hr];have bM := h9 (i ()) _ nx j l cO;have q1 := eJ (i () * E.sz + j) (by omega) (by omega);simp only [q1]
       split at bM
       · obtain ⟨f1, f2, f3⟩ := bM;exact ⟨f1, by rw [iM]; exact f2, f3⟩
       · refine bM.mono fun z hz => g3 z (z_ (i ()) (ew E xs i ()) (.inr rfl) j gZ z (by simp only [S', if_true, if_neg hr]; exact hz))
   · rw [if_neg hq] at hy;have bM := h9 q y hy j l hj;have hf : ∀ pU : List (Option Nat), filled pU (i ()) q j = none := fun pU => by unfold filled; rw [if_neg (Ne.symm hq)]
     rw [hf] at bM ⊢;simp only [S', if_neg (Ne.symm hq)];have Rd : q * E.sz + j < (xs ()).length * E.sz := pM (bK hy) gZ
     have q1 := eJ (q * E.sz + j) (by omega) (fun hc => by
       rcases Nat.lt_or_gt_of_ne hq with h1 | h1
       · have := Nat.mul_le_mul_right E.sz (show i () + 1 ≤ q from h1);rw [Nat.add_mul] at this;omega
       · have := Nat.mul_le_mul_right E.sz (show q + 1 ≤ i () from h1);rw [Nat.add_mul] at this;omega)
     show bq w'.heap l ((dz vs (o + i () * E.sz + off) us).getD (o + (q * E.sz + j)) Go.undef) (S q j);rw [q1];exact bM.mono fun z hz => g3 z (z_ q y (.inl hy) j gZ z (by simp only [S', if_neg (Ne.symm hq)]; exact hz))
 · have := D6 y;have := jt y;rw [zZ];simp only [bT];simp only [cg] at *;omega
end
def uQ (E : av) (xs : Unit → List E.α) (i : Unit → Nat) (k : Nat) : List (Nat × Nat) → List (Option Nat) → List (Nat × ar) → Option (List (Nat × ar))
 | [], _, bs => some bs
 | (j, kk) :: r, fs, bs =>
   match (bQ E (ew E xs i))[j]?, fs[j]?, aQ bs kk with
   | some (.list E' ys), some none, none => uQ E xs i k r (fs.set j (some kk)) (cd (dj (cd bs k .dead) kk (.own E' ys false)) k (.ca E xs i (fs.set j (some kk))))
   | _, _, _ => none
def sL : List Lf → Nat → Nat → List (Nat × Nat)
 | [], _, _ => []
 | .list _ _ :: ls, j, kk => (j, kk) :: sL ls (j + 1) (kk + 1)
 | _ :: ls, j, kk => sL ls (j + 1) kk
def mD : List Lf → Nat → List C
 | [], _ => []
 | .list _ _ :: ls, kk => .own kk :: mD ls (kk + 1)
 | l :: ls, kk => .lf l :: mD ls kk
theorem Aa : ∀ {ls : List Lf} {kk : Nat}, (mD ls kk).length = ls.length
 | [], _ => rfl
 | l :: ls, kk => by cases l <;> simp [mD, Aa (ls := ls)]
theorem D7 : ∀ {ls : List Lf} {j kk m : Nat} {c : C}, (mD ls kk)[m]? = some c → ∃ l, ls[m]? = some l ∧ ((l.sc = true ∧ c = .lf l) ∨ ∃ q, c = .own q ∧ (j + m, q) ∈ sL ls j kk)
 | [], j, kk, m, c, h => by simp [mD] at h
 | l :: ls, j, kk, 0, c, h => by
   cases l <;> simp [mD] at h <;> subst h <;> refine ⟨_, rfl, ?_⟩
   · exact .inl ⟨rfl, rfl⟩
   · exact .inl ⟨rfl, rfl⟩
   · exact .inl ⟨rfl, rfl⟩
   · exact .inr ⟨kk, rfl, by simp [sL]⟩
 | l :: ls, j, kk, m + 1, c, h => by
   cases l
   all_goals
    simp only [mD, List.getElem?_cons_succ] at h;obtain ⟨l', h1, h2⟩ := D7 (j := j + 1) h;refine ⟨l', by simpa using h1, ?_⟩;rcases h2 with h2 | ⟨q, h2, h3⟩
    · exact .inl h2
    · refine .inr ⟨q, h2, ?_⟩;simp only [sL];rw [show j + (m + 1) = j + 1 + m by omega]
      first | exact List.mem_cons_of_mem _ h3 | exact h3
def xk (bs : List (Nat × ar)) (k : Nat) (E : av) : Option ((Unit → List E.α) × Option (Unit → Nat) × List (Option Nat)) :=
 match aQ bs k with
 | some (.own E' xs false) => (match pP E E' xs with | some ys => some (ys, none, List.replicate E.sz none) | none => none)
 | some (.ca E' xs i fs) => (match pP E E' xs with | some ys => some (ys, some i, fs) | none => none)
 | _ => none
def D8 (tab : bj) (T : TypeId) (cs : List C) : V :=
 match cR tab T with
 | some (.st _ _ _ _) => .agg cs
 | some _ => (match cs with | [c] => .c c | _ => .c .undef)
 | none => .c .undef
def Ab (tab : bj) (σ : SS) (K : SS → Prop) (T : TypeId) (d k : Nat) (E : av) (i : Unit → Nat) (off : Nat) : Prop :=
 match sJ σ.ai k with
 | some bs =>
   match xk bs k E, oA tab T with
   | some (xs, none, _), some n =>
     if off + n ≤ E.sz then
      match uQ E xs i k (sL (((bQ E (ew E xs i)).drop off).take n) off (8 * d)) (List.replicate E.sz none) (cd bs k (.ca E xs i (List.replicate E.sz none))) with
      | some cf => K (({ σ with ai := cf } : SS).put (some d) (D8 tab T (mD (((bQ E (ew E xs i)).drop off).take n) (8 * d))))
      | none => False
     else False
   | _, _ => False
 | none => False
inductive Sv (E : av) (t : Unit → List E.α) (K : (Unit → List E.α) → Prop) : Prop where
 | mk (u : Unit → List E.α) (h : t () = u ()) (hk : K u)
theorem Sv.ik {E : av} {t : Unit → List E.α} {K : (Unit → List E.α) → Prop} (hk : K t) : Sv E t K := ⟨t, rfl, hk⟩
def xl (σ : SS) (K : SS → Prop) (k : Nat) (E : av) (xs : Unit → List E.α) (i : Unit → Nat) (fs : List (Option Nat)) (off n : Nat) (ls : List Lf) (ks : List Nat) : Prop :=
 match uM E (pT (bQ E (ew E xs i)) off ls) with
 | some x => if ls.length = n ∧ off + n ≤ E.sz ∧ eB (k :: ks) = true then Sv E (fun _ => (xs ()).set (i ()) (x ())) fun ys => K { σ with ai := cd (fl σ.ai (k :: ks)) k (sK E ys i (lI fs off ls.length)) } else False
 | none => False
def Ac (tab : bj) (σ : SS) (K : SS → Prop) (T : TypeId) (k : Nat) (E : av) (i : Unit → Nat) (off : Nat) (v : V) : Prop :=
 match xk σ.ai k E, oA tab T, nq v with
 | some (xs, oi, fs), some n, some cs =>
   match oE σ.ai (((nk E).drop off).take n) cs with
   | some (ls, ks) =>
     match oi with
     | none => xl σ K k E xs i fs off n ls ks
     | some i' => Ob (fun _ => i () = i' ()) fun _ => xl σ K k E xs i' fs off n ls ks
   | none => False
 | _, _, _ => False
section
variable {P : Program} {tab : bj} (hT : eW P tab = true) {Γ : Ctx} {H : Hp}
theorem Ad {E E' : av} {t : Unit → List E'.α} {u : Unit → List E.α} (h : Lf.list E' t = Lf.list E u) {B : (E : av) → (Unit → List E.α) → Prop} (hB : B E' t) : B E u := by
 injection h with h1 h2
 subst h1;have := eq_of_heq h2;subst this;exact hB
theorem D9 {w : World} {bs : List (Nat × ar)} {ρ : aL} {D : Nat → Prop} {k : Nat} {E : av} {xs : Unit → List E.α} {oi : Option (Unit → Nat)} {fs : List (Option Nat)} (h : xk bs k E = some (xs, oi, fs))
   (hb : ∀ B, aQ bs k = some B → cQ w.heap H ρ D B (ρ k)) {i : Unit → Nat} {b o n c : Nat} (hv : (ρ k).1 = .slice (some ⟨b, o, none⟩) n c) (hi : i () < n) :
   cQ w.heap H ρ D (.ca E xs (oi.getD i) fs) (ρ k) ∧ n = (xs ()).length ∧ (∃ B, aQ bs k = some B ∧ ∀ x, 0 < (ρ k).2 x → fL B (ρ k) x) ∧ (oi = none → fs = List.replicate E.sz none ∧ aQ bs k = some (.own E xs false)) := by
 unfold xk at h
 split at h
 · rename_i E' pR hg
   split at h
   · rename_i ys hc;simp only [Option.some.injEq, Prod.mk.injEq] at h;obtain ⟨rfl, rfl, rfl⟩ := h;have h0 := hb _ hg;have D_ := sF hc
     have hn : n = (ys ()).length ∧ cQ w.heap H ρ D (.own E ys false) (ρ k) := by
      have h1 : cQ w.heap H ρ D (.own E ys false) (ρ k) := Ad D_ (B := fun E u => cQ w.heap H ρ D (.own E u false) (ρ k)) h0;have h2 : bq w.heap (.list E ys) (ρ k).1 (ρ k).2 := h1;obtain ⟨b', c', h3, _⟩ := bq.slice h2;rw [hv] at h3;simp only [Value.slice.injEq] at h3;exact ⟨h3.2.1, h1⟩
     obtain ⟨rfl, h1⟩ := hn
     have xm : aQ bs k = some (.own E ys false) := by
      rw [hg];exact Ad D_ (B := fun E u => some (ar.own E' pR false) = some (ar.own E u false)) rfl
     exact ⟨Kj h1 hi (by simp), rfl, ⟨_, hg, fun x hx => hx⟩, fun _ => ⟨rfl, xm⟩⟩
   · cases h
 · rename_i E' pR i' pU hg
   split at h
   · rename_i ys hc;simp only [Option.some.injEq, Prod.mk.injEq] at h;obtain ⟨rfl, rfl, rfl⟩ := h;have h0 := hb _ hg;have h1 : cQ w.heap H ρ D (.ca E ys i' pU) (ρ k) := Ad (sF hc) (B := fun E u => cQ w.heap H ρ D (.ca E u i' pU) (ρ k)) h0
     have hn : n = (ys ()).length := by
      obtain ⟨b', o', c', _, _, _, _, h3, _⟩ := h1;rw [hv] at h3;simp only [Value.slice.injEq] at h3;exact h3.2.1
     exact ⟨h1, hn, ⟨_, hg, fun x hx => hx⟩, fun h => by cases h⟩
   · cases h
 · cases h
theorem Ea (bN : Γ.hd = []) {E : av} {xs : Unit → List E.α} {i : Unit → Nat} {k : Nat} {env : List V} {a : Act} {w : World} : ∀ {l : List (Nat × Nat)} {fs : List (Option Nat)} {bs cf : List (Nat × ar)} {ρ : aL},
   uQ E xs i k l fs bs = some cf → aM Γ H ρ { env := env, ai := bs } a w → aQ bs k = some (.ca E xs i fs) →
   ∃ ρ', aM Γ H ρ' { env := env, ai := cf } a w ∧ (∀ q, ax bs q → ax cf q ∧ (ρ' q).1 = (ρ q).1) ∧
     ∀ p ∈ l, ax cf p.2 ∧ ∃ b o n c cs e fz, (ρ k).1 = .slice (some ⟨b, o, none⟩) n c ∧ w.heap[b]? = some (.cells cs e fz) ∧ (ρ' p.2).1 = cs.getD (o + (i () * E.sz + p.1)) Go.undef
 | [], fs, bs, cf, ρ, h, r, hk => by
   simp only [uQ, Option.some.injEq] at h;subst h;exact ⟨ρ, r, fun q hq => ⟨hq, rfl⟩, fun p hp => by cases hp⟩
 | (j, kk) :: l, fs, bs, cf, ρ, h, r, hk => by
   simp only [uQ] at h
   split at h
   · rename_i E' ys hj hf kU;obtain ⟨ρ1, r1, g1, g2⟩ := aM.Kn bN r hk kU hj hf;have gm : ax bs k := fN hk;have pV : aQ (cd (dj (cd bs k .dead) kk (.own E' ys false)) k (.ca E xs i (fs.set j (some kk)))) k = some (.ca E xs i (fs.set j (some kk))) := zW (fO.2 (.inr (eV.2 gm)));obtain ⟨ρ2, r2, g3, g4⟩ := Ea bN h r1 pV;have Eb : ∀ q, ax bs q → ax (cd (dj (cd bs k .dead) kk (.own E' ys false)) k (.ca E xs i (fs.set j (some kk)))) q := fun q hq => eV.2 (fO.2 (.inr (eV.2 hq)));refine ⟨ρ2, r2, fun q hq => ⟨(g3 q (Eb q hq)).1, by rw [(g3 q (Eb q hq)).2, g1 q hq]⟩, fun p hp => ?_⟩;rcases List.mem_cons.1 hp with rfl | hp
     · have hq := g3 kk (eV.2 (fO.2 (.inl rfl)));obtain ⟨b, o, n, c, cs, e, fz, q1, q2, q3⟩ := g2;exact ⟨hq.1, b, o, n, c, cs, e, fz, q1, q2, by rw [hq.2]; exact q3⟩
     · obtain ⟨q0, b, o, n, c, cs, e, fz, q1, q2, q3⟩ := g4 p hp;exact ⟨q0, b, o, n, c, cs, e, fz, by rw [← g1 k gm]; exact q1, q2, q3⟩
   · cases h
include hT in
theorem KD {T : TypeId} {n : Nat} (bg : oA tab T = some n) : ∃ i, P.info? T = some i ∧ i.size = n := by
 unfold oA at bg
 split at bg
 · rename_i ba; cases bg;obtain ⟨fields, _, _, i, cs, h1, h2, _⟩ := od (cA hT ba);exact ⟨i, h1, h2⟩
 · rename_i ti aX ba; cases bg
   have sc : ∀ {t : TypeId} {z : Z}, dY P t (.sc z) = true → ∃ i, P.info? t = some i ∧ i.size = 1 := fun {t z} h => by
    obtain ⟨_, i, v, h1, h2, _⟩ := oe h; exact ⟨i, h1, h2⟩
   have ht := cA hT ba;cases ti with
   | st n fs z q => exact (aX _ _ _ _ rfl).elim
   | sl E elem bytes => exact sc (wM ht)
   | sc z => exact sc ht
   | it k => exact sc (oh ht).2
   | bt => exact sc (qO ht).2
   | ss => exact sc (mr ht).2
   | mp kt et => exact sc (pA ht).2.2.2
 · cases bg
section
variable {ρ : aL} {σ : SS} {a : Act} {w : World} (r : aM Γ H ρ σ a w)
include hT r
theorem KE (bN : Γ.hd = []) {K : SS → Prop} {T : TypeId} {d k : Nat} {E : av} {i : Unit → Nat} {off : Nat} {p : Value} (h : Ab tab σ K T d k E i off) (hp : RV H ρ (ax σ.ai) (.c (.fj k E i off)) p) :
   ∃ aD y ρ', K aD ∧ aM Γ H ρ' aD (a.put (some d) y) w ∧ (Instr.loadAt T p).run P w = .ok y w := by
 unfold Ab at h
 split at h
 · rename_i bs fc
   split at h
   · rename_i xs fs n sM bg
     split at h
     · rename_i dZ
       split at h
       · rename_i cf aZ;obtain ⟨ρ1, r1, f1⟩ := aM.close bN r fc;obtain ⟨_, b, o, n', c, hv, hi, rfl⟩ := hp;have Ae : (ρ1 k).1 = .slice (some ⟨b, o, none⟩) n' c := by rw [f1]; exact hv
         obtain ⟨hB, rfl, ⟨B, xn, Ec⟩, cN⟩ := D9 (i := i) sM (fun B hB => r1.b.ai k B (di hB)) Ae hi;obtain ⟨rfl, xm⟩ := cN rfl;have hB : cQ w.heap H ρ1 (ax bs) (.ca E xs i (List.replicate E.sz none)) (ρ1 k) := hB;have gm : ax bs k := fN xm
         have r2 : aM Γ H ρ1 { env := σ.env, ai := cd bs k (.ca E xs i (List.replicate E.sz none)) } a w :=
           aM.uH (σ := { env := σ.env, ai := bs }) r1 xm (fun _ _ => rfl) (Ext.refl _) hB (fun x hx => hx) (fun x hx => hx)
         obtain ⟨Af, r3, g3, g4⟩ := Ea bN aZ r2 (zW gm);obtain ⟨b', o', c', cs, e, fz, S, h1, h2, h3, h4, h5, h6, h7, h8, h9⟩ := hB;rw [Ae] at h1;simp only [Value.slice.injEq, Option.some.injEq, Addr.mk.injEq, and_true] at h1;obtain ⟨⟨rfl, rfl⟩, _, rfl⟩ := h1
         have nx : (xs ())[i ()]? = some (ew E xs i ()) := by
           simp only [ew, List.getD_eq_getElem?_getD, List.getElem?_eq_getElem h8, Option.getD_some]
         have ed : i () * E.sz + E.sz ≤ (xs ()).length * E.sz := by
           have := Nat.mul_le_mul_right E.sz (show i () + 1 ≤ (xs ()).length from h8)
           rwa [Nat.add_mul, Nat.one_mul] at this
         have nv := Nat.mul_le_mul_right E.sz h5
         have ck : ∀ (m : Nat) cv, (mD (((bQ E (ew E xs i)).drop off).take n) (8 * d))[m]? = some cv → RC H Af (ax cf) cv (cs.getD (o + i () * E.sz + off + m) Go.undef) := fun m cv hm => by
           obtain ⟨l, q1, q2⟩ := D7 (j := off) hm;rw [List.getElem?_take, List.getElem?_drop] at q1
           split at q1
           · rename_i xo;rcases q2 with ⟨q2, rfl⟩ | ⟨q, rfl, q3⟩
             · have q4 := h9 (i ()) _ nx (off + m) l q1;rw [zY (by simp)] at q4;have q5 : bq w.heap l (cs.getD (o + (i () * E.sz + (off + m))) Go.undef) (S (i ()) (off + m)) := q4;rw [show o + i () * E.sz + off + m = o + (i () * E.sz + (off + m)) by omega];exact q5.yX q2
             · obtain ⟨q4, b2, o2, n2, c2, Ed, e2, Re, q5, q6, q7⟩ := g4 _ q3;rw [Ae] at q5;simp only [Value.slice.injEq, Option.some.injEq, Addr.mk.injEq, and_true] at q5;obtain ⟨⟨rfl, rfl⟩, _, _⟩ := q5;rw [h3] at q6;cases q6;refine ⟨q4, ?_⟩;rw [q7, show o + i () * E.sz + off + m = o + (i () * E.sz + (off + m)) by omega]
           · cases q1
         have hlen : (((bQ E (ew E xs i)).drop off).take n).length = n := by
           rw [List.length_take, List.length_drop, gR]; omega
         unfold oA at bg;unfold D8 at h
         split at bg
         · rename_i m pU z q ba;have bg : m = n := by simpa using bg
           subst bg;rw [ba] at h;obtain ⟨dd, ii, bM, ie, zr, Ee⟩ := np (cA hT ba);refine ⟨_, .agg ((List.range ii.size).map fun j => cs.getD (o + i () * E.sz + off + j) Go.undef).toArray, Af, h, aM.put (v := .agg (mD (((bQ E (ew E xs i)).drop off).take m) (8 * d))) r3 (x := .agg ((List.range ii.size).map fun j => cs.getD (o + i () * E.sz + off + j) Go.undef).toArray) ⟨_, rfl, ?_⟩ (some d), uk bM ie zr h3 (by rw [Ee]; omega)⟩;refine ⟨by simp [Aa, hlen, Ee], fun m cv hm => ?_⟩;have xo : m < ii.size := by have := bK hm; rw [Aa, hlen] at this; omega
           rw [Array.getD_eq_getD_getElem?];simp only [List.getElem?_toArray, List.getElem?_map, List.getElem?_range xo, Option.map_some, Option.getD_some];exact ck m cv hm
         · rename_i ti aX ba;simp only [Option.some.injEq] at bg;subst bg;rw [ba] at h;obtain ⟨dd, ii, bM, ie⟩ := np (cA hT ba)
           have ie : jn dd = false := by
             split at ie
             · exact (aX _ _ _ _ rfl).elim
             · exact ie
           have aR : o + i () * E.sz + off < cs.size := by omega
           refine ⟨_, cs.getD (o + i () * E.sz + off) Go.undef, Af, h, aM.put r3 ?_ (some d), uj bM ie h3 (getD_some aR)⟩
           split
           · rename_i heq;cases heq;exact (aX _ _ _ _ rfl).elim
           · split
             · rename_i cv kT;exact ck 0 cv (by rw [kT]; rfl)
             · trivial
           · rename_i hh; cases hh
         · cases bg
       · cases h
     · cases h
   · cases h
 · cases h
theorem KF (bN : Γ.hd = []) {K : SS → Prop} {T : TypeId} {k : Nat} {E : av} {i : Unit → Nat} {off : Nat} {v : V} {p u : Value} (h : Ac tab σ K T k E i off v) (hp : RV H ρ (ax σ.ai) (.c (.fj k E i off)) p) (hv : RV H ρ (ax σ.ai) v u) :
   ∃ aD w' ρ', K aD ∧ aM Γ H ρ' aD a w' ∧ (Instr.storeAt T p u).run P w = .ok () w' := by
 have key : ∀ {xs : Unit → List E.α} {i' : Unit → Nat} {fs : List (Option Nat)} {n : Nat} {ls : List Lf} {ks : List Nat} {cs : List C} {b o n' c : Nat}, (ρ k).1 = .slice (some ⟨b, o, none⟩) n' c → i () = i' () → p = .pointer (some ⟨b, o + i () * E.sz + off, none⟩) → ax σ.ai k →
     cQ w.heap H ρ (ax σ.ai) (.ca E xs i' fs) (ρ k) → (∀ x, 0 < (ρ k).2 x → H x = none) → oA tab T = some n → nq v = some cs → oE σ.ai (((nk E).drop off).take n) cs = some (ls, ks) → xl σ K k E xs i' fs off n ls ks →
     ∃ aD w' ρ', K aD ∧ aM Γ H ρ' aD a w' ∧ (Instr.storeAt T p u).run P w = .ok () w' := by
   intro xs i' fs n ls ks cs b o n' c eM um jI gm hB pS bg dA oI lJ;unfold xl at lJ
   split at lJ
   · rename_i x hx
     split at lJ
     · rename_i qR;obtain ⟨KG, dZ, hn⟩ := qR
       have hc := hv.cells dA fun k hk => by
        rw [hk] at hv;exact ur r hv
       obtain ⟨S, g1, g2, g3, g4, g5⟩ := zS r oI (f := fun j => u.cells.getD j Go.undef) hc.2;have hu : u.cells.toList.length = ls.length := by rw [Array.length_toList, hc.1, g2]
       have ny : bQ E x = pT (bQ E (ew E xs i')) off ls := zQ hx fun t ht => by
        have KH : (pT (bQ E (ew E xs i')) off ls).length = E.sz := by
          simp only [pT, List.length_append, List.length_take, List.length_drop, gR]; omega
        have h1 : E.sz = 1 := by rw [← KH, ht]; rfl
        have hint : ∀ (v : Value) (T : Nat → Nat), bq w.heap (.int .u8 t) v T → IntKind.u8.has (t ()) := fun v T h => by
          cases h with
          | int hr => exact hr
        have h0 : (pT (bQ E (ew E xs i')) off ls)[0]? = some (.int .u8 t) := by rw [ht]; rfl
        rw [D5 (by rw [gR]; omega)] at h0
        split at h0
        · exact hint _ _ (g5 _ _ h0)
        · obtain ⟨b', o', c', kg, e, fz, S', sj, h2, h3, h4, h5, h6, h7, h8, h9⟩ := hB
          have nx : (xs ())[i' ()]? = some (ew E xs i' ()) := by
           simp only [ew, List.getD_eq_getElem?_getD, List.getElem?_eq_getElem h8, Option.getD_some]
          have KI : IntKind.u8.has (t ()) := by
           cases E <;> first | (exfalso; simp only [av.sz] at h1; omega) | skip
           · simp [bQ] at h0
           · simp only [bQ, List.getElem?_cons_zero, Option.some.injEq, Lf.int.injEq, true_and] at h0;subst h0;refine ui.2 ⟨?_, ?_⟩
             · show (0 : Int) ≤ ((ew .byte xs i' ()).toNat : Int);omega
             · show ((ew .byte xs i' ()).toNat : Int) ≤ 255;have := (ew .byte xs i' ()).toNat_lt;omega
           · simp [bQ] at h0
           · simp [bQ] at h0
          exact KI
       obtain ⟨w', g6, ρ', g7⟩ := r.Kx (P := P) bN hn gm hB pS g3 eM hu (by omega) (T := fun j => S.getD j fun _ => 0) (fun j l hj => by
          have := g5 j l hj;rw [List.getD_eq_getElem?_getD, Array.getElem?_toList, ← Array.getD_eq_getD_getElem?];exact this) (fun y => by rw [← g4 y, ← zR, g1]) ny
       obtain ⟨ii, KJ, zI⟩ := KD hT bg;obtain ⟨u', z8, lJ⟩ := lJ;have he : (fun _ => (xs ()).set (i' ()) (x ())) = u' := funext fun _ => z8;rw [he] at g7;refine ⟨_, w', ρ', lJ, g7, ?_⟩;have KK : ¬ (u.cells.size ≠ ii.size) := by rw [hc.1, ← g2, KG, zI]; simp
       rw [← um] at g6;simp only [jI, Instr.storeAt, Instr.sureAddr, storeVar, Sem.run_bind, Sem.run_pure, Result.andThen_ok, lD w KJ];rw [if_neg KK];exact g6
     · cases lJ
   · cases lJ
 unfold Ac at h;obtain ⟨_, b, o, n', c, eM, hi, jI⟩ := hp
 split at h
 · rename_i xs oi fs n cs sM bg dA;obtain ⟨hB, rfl, ⟨B, xn, Ec⟩, cN⟩ := D9 (i := i) sM (fun B hB => r.b.ai k B (di hB)) eM hi;have pS : ∀ x, 0 < (ρ k).2 x → H x = none := fun x hx => r.b.gY k B (di xn) x (Ec x hx)
   split at h
   · rename_i ls ks oI
     split at h
     · exact key eM rfl jI (fN xn) hB pS bg dA oI h
     · rename_i i';obtain ⟨um, h⟩ := h;exact key eM um jI (fN xn) hB pS bg dA oI h
   · cases h
 · cases h
end
end
end Go.Proofs.YticeaiiffeccmaaGreat

