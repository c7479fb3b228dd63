/- Parts of a proof. No conditions. -/

import Derived.Test.YtehpbaiclfilaaaGreatG01
import Derived.Deep.AppendSrc
import Derived.Great.BuildSlice
import Derived.Laws.MakeOwn
set_option linter.unusedSimpArgs false
set_option linter.unusedVariables false
namespace Go.Proofs.YtehpbaiclfilaaaGreat
open Go
theorem qI {bs : List (Nat × ak)} {k : Nat} {B : ak} (h : (k, B) ∈ bs) : av bs k := List.mem_map.2 ⟨_, h, rfl⟩
theorem s_ {ρ : aG} {bs : List (Nat × ak)} {k j : Nat} (hk : av bs k) (hj : av bs j) (hne : j ≠ k) (x : Nat) : (ρ k).2 x + (ρ j).2 x ≤ aS ρ bs x := by
 rw [FL hk x];have h := FM hj hne;obtain ⟨⟨j', B⟩, h1, h2⟩ := List.mem_map.1 h;simp only at h2;subst h2;have := mO (ρ := ρ) h1 x;omega
theorem aI.wD {Γ : Ctx} {H : Hp} {ρ : aG} {σ : SS} {a : Act} {w w' : World} (r : aI Γ H ρ σ a w) {k : Nat} {B B' : ak} (hk : aM σ.af k = some B)
   (hold : ∀ x, ¬ fV B (ρ k) x → w'.heap[x]? = w.heap[x]?) (bj : Ext w w')
   (hB : cK w'.heap H ρ (av σ.af) B' (ρ k)) (ta : ∀ x, fV B' (ρ k) x → fV B (ρ k) x) (hS : ∀ x, fV B (ρ k) x → 0 < (ρ k).2 x) :
   aI Γ H ρ { σ with af := bO σ.af k B' } a w' := by
 have hm := de hk;have hd := qI hm;have e : av (bO σ.af k B') = av σ.af := by funext j; exact propext fc
 refine ⟨⟨?_, by rw [sS]; exact r.b.nd, r.b.h0, ?_, ?_, ?_, ?_, ?_⟩, by rw [e]; exact r.e, r.d, r.n.trans bj, by rw [e]; exact r.hd, by rw [e]; exact r.hm⟩
 · intro j hj; exact r.b.oc j (fc.1 hj)
 · intro b o hb;rw [hold b fun ht => by have := r.b.ia k B hm b ht; rw [this] at hb; cases hb];exact r.b.hh b o hb
 · intro j A hj;rw [e];rcases ko r.b.nd hj with ⟨rfl, rfl⟩ | ⟨hne, hj⟩
   · exact hB
   · refine (r.b.af j A hj).mono (jO.refl _ _ _) fun b hb => hold b fun ht => ?_;have h1 := s_ (ρ := ρ) hd (qI hj) hne b;have h2 := r.b.sum b;have h3 := hS b ht;omega
 · intro x;have := sU (ρ := ρ) (ρ' := ρ) r.b.nd (B := B') hd (fun _ _ => rfl) x;have := r.b.sum x;show aS ρ (bO σ.af k B') x ≤ 1;omega
 · intro j A hj x hx;rcases ko r.b.nd hj with ⟨rfl, rfl⟩ | ⟨hne, hj⟩
   · exact r.b.fresh _ B hm x hx
   · exact r.b.fresh j A hj x hx
 · intro j A hj x hx;rcases ko r.b.nd hj with ⟨rfl, rfl⟩ | ⟨hne, hj⟩
   · exact r.b.ia _ B hm x (ta x hx)
   · exact r.b.ia j A hj x hx
theorem eB : ∀ (us : List Value) (vs : Array Value) (o : Nat), (dF vs o us).size = vs.size
 | [], _, _ => rfl
 | u :: us, vs, o => by simp only [dF]; rw [eB us]; simp
theorem ML {w : World} {b o : Nat} {vs : Array Value} {e : TypeId} {fz : Nat × Nat} (hb : w.heap[b]? = some (.cells vs e fz)) (hf : NF vs fz) (ho : o < vs.size) : w.frozen? ⟨b, o, none⟩ = false := by
 obtain ⟨lo, hi⟩ := fz;simp only [World.frozen?, hb];rcases hf with hf | hf
 · simp only at hf;have : ¬ (lo ≤ o ∧ o < hi) := by omega
   simpa using this
 · simp only at hf;have : ¬ (lo ≤ o ∧ o < hi) := by omega
   simpa using this
theorem MM (w : World) (b o : Nat) (v : Value) {vs : Array Value} {e : TypeId} {fz : Nat × Nat} (hb : w.heap[b]? = some (.cells vs e fz)) :
   (w.setCell ⟨b, o, none⟩ v).heap[b]? = some (.cells (vs.setIfInBounds o v) e fz) ∧ (∀ x, x ≠ b → (w.setCell ⟨b, o, none⟩ v).heap[x]? = w.heap[x]?) ∧ Ext w (w.setCell ⟨b, o, none⟩ v) := by
 obtain ⟨lo, hi⟩ := fz;refine ⟨?_, fun x hx => ?_, Ext.of (by simp [World.setCell]) rfl rfl fun a => World.frozen?_setCell _ _ _ _⟩
 · simp only [World.setCell, Array.getElem?_modify, hb];simp
 · simp only [World.setCell, Array.getElem?_modify];rw [if_neg (Ne.symm hx)]
theorem qJ {P : Program} : ∀ (us : List Value) (w : World) (b o i : Nat) (vs : Array Value) (e : TypeId) (fz : Nat × Nat), w.heap[b]? = some (.cells vs e fz) → NF vs fz → o + i + us.length ≤ vs.size →
   (∀ u ∈ us, u.oneCell' = true) →
   ∃ w', (storeCells ⟨b, o, none⟩ us i).run P w = .ok () w' ∧ w'.heap[b]? = some (.cells (dF vs (o + i) us) e fz) ∧ (∀ x, x ≠ b → w'.heap[x]? = w.heap[x]?) ∧ Ext w w'
 | [], w, b, o, i, vs, e, fz, hb, _, _, _ => ⟨w, rfl, hb, fun _ _ => rfl, Ext.refl w⟩
 | u :: us, w, b, o, i, vs, e, fz, hb, hf, hs, h1 => by
   simp only [List.length_cons] at hs;obtain ⟨g1, g2, g3⟩ := MM w b (o + i) u hb;have MN : NF (vs.setIfInBounds (o + i) u) fz := by rcases hf with h | h; exact .inl h; exact .inr (by simpa using h)
   obtain ⟨w', g4, g5, g6, g7⟩ := qJ (P := P) us (w.setCell ⟨b, o + i, none⟩ u) b o (i + 1) _ e fz g1 MN (by simp; omega) (fun x hx => h1 x (List.mem_cons_of_mem _ hx));refine ⟨w', ?_, g5, fun x hx => by rw [g6 x hx, g2 x hx], g3.trans g7⟩;simp only [storeCells, Sem.run_bind, fe];rw [run_store P w _ u .plain (h1 u List.mem_cons_self), cell_of hb (getD_some (show o + i < vs.size by omega)), ML hb hf (show o + i < vs.size by omega)];simpa using g4
def pM (tab : bf) (T : TypeId) : Option Nat :=
 match cS tab T with
 | some (.st n _ _ _) => some n
 | some _ => some 1
 | none => none
def zT (tab : bf) (T : TypeId) : Option (List Z) :=
 match cS tab T with
 | some (.st _ _ z _) => some z
 | some (.sc z) => some [z]
 | some (.sl E _ _) => some [.nl E]
 | some (.it k) => some [.i k]
 | some .bt => some [.bo]
 | some .ss => some [.st]
 | some (.mp _ _) => none
 | none => none
def ib (w w' : World) : Prop := ∀ (b : Nat) o, w.heap[b]? = some o → w'.heap[b]? = some o
theorem ib.refl (w : World) : ib w w := fun _ _ h => h
theorem ib.alloc (w : World) (o : Obj) : ib w (w.alloc o) := fun b _ h => by rw [alloc_old w o b (ky h)]; exact h
def wE (tab : bf) (T : TypeId) : Bool :=
 match cS tab T with
 | some (.sl _ _ _) => true
 | some (.st n _ z _) => decide (n ≤ 7) && z.any fun z => match z with | .nl _ => true | _ => false
 | _ => false
def gM (tab : bf) (o : Oper) : Bool :=
 match o.op with
 | .store _ _ _ => true
 | .mapUpdate _ _ _ _ => true
 | .load T _ => wE tab T
 | .call c => match c.callee with
   | .builtin _ => true
   | .value (.func f) => (v8 tab f).isSome
   | _ => true
 | _ => false
def qK (Γ : Ctx) (H : Hp) (wr : Bool) (w : World) (ax : SS) (a' : Act) (w' : World) : Prop := (∃ ρ, aI Γ H ρ ax a' w') ∧ (wr = false → ib w w')
theorem qK.rel {Γ : Ctx} {H : Hp} {wr : Bool} {w : World} {ax : SS} {a' : Act} {w' : World} (h : qK Γ H wr w ax a' w') : Rel Γ ax a' w' := ⟨H, h.1⟩
def SS.set (σ : SS) (k : Nat) (B : ak) : SS := { σ with af := bO σ.af k B }
def SS.new (σ : SS) (k : Nat) (B : ak) : SS := { σ with af := dx σ.af k B }
def qL (tab : bf) (o : Oper) (σ : SS) (K : SS → Prop) : Prop :=
 match o.op, o.dst with
 | .box _ x, some d =>
   match nS (σ.ev x), aM σ.af (8 * d) with
   | some cs, none => K ((σ.new (8 * d) (.box cs)).put (some d) (.c (.ptr (8 * d) 0)))
   | _, _ => False
 | .alloc T, some d =>
   match zT tab T, aM σ.af (8 * d) with
   | some z, none => K ((σ.new (8 * d) (.box (z.map Z.c))).put (some d) (.c (.ptr (8 * d) 0)))
   | _, _ => False
 | .store T p v, none =>
   match σ.ev p, nS (σ.ev v), pM tab T with
   | .c (.ptr k off), some xs, some n =>
     match aM σ.af k with
     | some (.box cs) => if xs.length = n ∧ off + n ≤ cs.length ∧ xs.all C.yx = true then K (σ.set k (.box (yG cs off xs))) else False
     | _ => False
   | _, _, _ => False
 | .makeMap T none, some d =>
   match cS tab T, aM σ.af (8 * d) with
   | some (.mp _ _), none => K ((σ.new (8 * d) (.mp fun _ => [])).put (some d) (.c (.own (8 * d))))
   | _, _ => False
 | .lookup T x i false, some d =>
   match cS tab T, σ.ev x, σ.ev i with
   | some (.mp _ _), .c (.own k), .c (.lf (.int .i64 t)) =>
     match aM σ.af k with
     | some (.mp m) => K (σ.put (some d) (iV .i64 fun _ => eX (m ()) (t ())))
     | _ => False
   | _, _, _ => False
 | .mapUpdate T x i v, none =>
   match cS tab T, σ.ev x, σ.ev i, σ.ev v with
   | some (.mp _ _), .c (.own k), .c (.lf (.int .i64 t)), .c (.lf (.int .i64 u)) =>
     match aM σ.af k with
     | some (.mp m) => Ob (fun _ => (m ()).length < 9223372036854775807) fun _ => K (σ.set k (.mp fun _ => ju (m ()) (t ()) (u ())))
     | _ => False
   | _, _, _, _ => False
 | .call c, some d =>
   match c.callee, c.args.toList, c.argTypes.toList with
   | .builtin .len, [x], [T] =>
     match cS tab T, σ.ev x with
     | some (.mp _ _), .c (.own k) =>
       match aM σ.af k with
       | some (.mp m) => K (σ.put (some d) (iV .i64 fun _ => ((m ()).length : Int)))
       | _ => False
     | _, _ => False
   | _, _, _ => False
 | _, _ => False
section
variable {P : Program} {tab : bf} (hT : fw P tab = true) {Γ : Ctx} {H : Hp} {ρ : aG} {σ : SS} {a : Act} {w : World} (r : aI Γ H ρ σ a w)
include hT r
omit hT r in
theorem kC {o : Oper} {a : Act} {w w' : World} {v : Value} {next : Act → World → Prop} {Q : Exit → Act → World → Prop} (h : (execOp a.eval o).run P w = .ok (.value v) w') (hn : next (a.put o.dst v) w') : o.wp P a w next Q := by
 unfold Oper.wp; rw [h]; exact hn
omit hT r in
theorem wF {o : Oper} {a : Act} {w w' : World} {next : Act → World → Prop} {Q : Exit → Act → World → Prop} (h : (execOp a.eval o).run P w = .ok .skip w') (hd : o.dst = none) (hn : next a w') : o.wp P a w next Q := by
 unfold Oper.wp; rw [h];simp only [Oper.upon, hd, Act.put];exact hn
omit r in
theorem MO {T : TypeId} {z : List Z} (h : zT tab T = some z) : ∃ i v, P.info? T = some i ∧ i.zero = some v ∧ Z.gV z v.cells.toList = true := by
 have sc : ∀ {t : TypeId} {z : Z}, eJ P t (.sc z) = true → ∃ i v, P.info? t = some i ∧ i.zero = some v ∧ Z.gV [z] v.cells.toList = true := fun {t z} h => by
   obtain ⟨_, i, v, h1, h2, h3, h4, h5⟩ := pE h;refine ⟨i, v, h1, h3, ?_⟩;have : v.cells = #[v] := by cases v <;> simp [Value.oneCell'] at h4 <;> rfl
   rw [this];simp [Z.gV, h5]
 unfold zT at h
 split at h
 · rename_i ba; cases h;obtain ⟨fields, _, _, i, cs, h1, h2, h3, h4⟩ := pD (cD hT ba);exact ⟨i, _, h1, h3, h4⟩
 · rename_i ba; cases h; exact sc (cD hT ba)
 · rename_i ba; cases h; exact sc (yv (cD hT ba))
 · rename_i ba; cases h; exact sc (pF (cD hT ba)).2
 · rename_i ba; cases h; exact sc (sV (cD hT ba)).2
 · rename_i ba; cases h; exact sc (mQ (cD hT ba)).2
 · cases h
 · cases h
theorem MP {o : Oper} {K : SS → Prop} {Q : Exit → Act → World → Prop} {T : TypeId} {p v : Operand} {k off : Nat} (aX : o.op = .store T p v) (hd : o.dst = none) (hp : σ.ev p = .c (.ptr k off)) (h : qL tab o σ K) :
   o.wp P a w (fun a' w' => ∃ ax, K ax ∧ aI Γ H ρ ax a' w' ∧ ∀ x, (ρ k).2 x = 0 → w'.heap[x]? = w.heap[x]?) Q := by
 have ev := jQ r.e;unfold qL at h;simp only [aX, hd, hp] at h
 split at h
 · rename_i k' MQ xs n ic wg bj;cases ic
   split at h
   · rename_i cs hg
     split at h
     · rename_i hc;obtain ⟨gy, lB, yO⟩ := hc;have ep := ev p;rw [hp] at ep;obtain ⟨gL, b, hh, kx⟩ := ep
       have hv := (ev v).cells wg fun k hk => by
         have := ev v;rw [hk] at this;exact wh r this
       obtain ⟨b', vs, e, fz, h1, h2, h3, h4, h5⟩ := r.b.af k _ (de hg);rw [hh] at h1;simp only [Value.pointer.injEq, Option.some.injEq, Addr.mk.injEq, and_true] at h1;subst h1
       have ew : ∀ u ∈ (a.eval v).cells.toList, u.oneCell' = true := by
         intro u hu;obtain ⟨j, hj, BQ⟩ := List.getElem_of_mem hu;have cL : j < xs.length := by rw [← hv.1]; simpa using hj
         have h6 := hv.2 j _ (List.getElem?_eq_getElem cL);rw [Array.getD_eq_getD_getElem?, Array.getElem?_eq_getElem (by simpa using hj)] at h6;simp only [Option.getD_some] at h6;have h7 := List.all_eq_true.1 yO _ (List.getElem_mem cL);rw [← BQ];simp only [Array.getElem_toList];exact (RC.cells h6 h7 fun k hk => by rw [hk] at h6; obtain ⟨h8, h9⟩ := h6; rw [h9]; exact r.b.oc k h8).2
       obtain ⟨w', h6, h7, h8, h9⟩ := qJ (P := P) (a.eval v).cells.toList w b off 0 vs e fz h3 h4 (by rw [h5.1]; have := hv.1; simp only [Array.length_toList]; omega) ew
       have BR : ∃ i, P.info? T = some i ∧ i.size = n := by
         unfold pM at bj
         split at bj
         · rename_i ba; cases bj;obtain ⟨fields, _, _, i, cs, h1, h2, _⟩ := pD (cD hT ba);exact ⟨i, h1, h2⟩
         · rename_i ti hne ba; cases bj
           have sc : ∀ {t : TypeId} {z : Z}, eJ P t (.sc z) = true → ∃ i, P.info? t = some i ∧ i.size = 1 := fun {t z} h => by
             obtain ⟨_, i, v, h1, h2, _⟩ := pE h; exact ⟨i, h1, h2⟩
           have ht := cD hT ba;cases ti with
           | st n fs z q => exact (hne _ _ _ _ rfl).elim
           | sl E elem bytes => exact sc (yv ht)
           | sc z => exact sc ht
           | it k => exact sc (pF ht).2
           | bt => exact sc (sV ht).2
           | ss => exact sc (mQ ht).2
           | mp kt et => exact sc (qx ht).2.2.2
         · cases bj
       obtain ⟨i, hi, BS⟩ := BR;refine wF (w' := w') ?_ hd ⟨_, h, ?_, fun x hx => h8 x fun he => by rw [he, h2] at hx; simp [one] at hx⟩
       · have dy : ¬ ((a.eval v).cells.size ≠ i.size) := by have := hv.1; omega
         simp only [execOp, aX, Instr.storeAt, kx, Instr.sureAddr, storeVar, Sem.run_bind, Sem.run_pure, Result.andThen_ok, l4 w hi];rw [if_neg dy];simp only [Result.andThen_ok, h6]
       · refine r.wD hg (fun x hx => h8 x fun he => hx ?_) h9 ?_ (fun x hx => hx) (fun x hx => hx)
         · rw [he]; show 0 < (ρ k).2 b; rw [h2]; simp [one]
         · refine ⟨b, _, e, fz, hh, h2, h7, ?_, ?_⟩
           · rcases h4 with h | h
             · exact .inl h
             · exact .inr (by rw [eB]; exact h)
           · rw [Nat.add_zero];exact cW.yH xs _ h5 (by simpa using hv)
     · cases h
   · cases h
 · cases h
theorem BT {o : Oper} {K : SS → Prop} {Q : Exit → Act → World → Prop} (h : qL tab o σ K) :
   o.wp P a w (fun a' w' => ∃ ax, K ax ∧ qK Γ H (gM tab o) w ax a' w') Q := by
 have ev := jQ r.e;unfold qL at h
 split at h
 · rename_i T x d aX hd
   split at h
   · rename_i cs dy hg
     have hc := (ev x).cells dy fun k hk => by
       have := ev x;rw [hk] at this;exact wh r this
     obtain ⟨ρ', r1, h1, h2⟩ := r.FK hg T hc;refine kC (v := .pointer (some ⟨w.heap.size, 0, none⟩)) (w' := w.alloc (.cells (a.eval x).cells T)) ?_ ⟨_, h, ⟨ρ', ?_⟩, fun _ => ib.alloc w _⟩
     · simp [execOp, aX, Instr.box, newVar, newRow]
     · rw [hd];refine aI.put r1 (v := .c (.ptr (8 * d) 0)) ⟨gh.2 (.inl rfl), _, h1, rfl⟩ (some d)
   · cases h
 · rename_i T d aX hd
   split at h
   · rename_i z hz hg;obtain ⟨i, v, hi, hv, qB⟩ := MO hT hz;have hc := Z.Fj (H := H) (ρ := ρ) (D := av σ.af) qB;obtain ⟨ρ', r1, h1, h2⟩ := r.FK hg T hc;refine kC (v := .pointer (some ⟨w.heap.size, 0, none⟩)) (w' := w.alloc (.cells v.cells T)) ?_ ⟨_, h, ⟨ρ', ?_⟩, fun _ => ib.alloc w _⟩
     · simp [execOp, aX, Instr.alloc, newVar, newRow, Fo w hi hv]
     · rw [hd];simp only [Array.toArray_toList] at r1;refine aI.put r1 (v := .c (.ptr (8 * d) 0)) ⟨gh.2 (.inl rfl), _, h1, rfl⟩ (some d)
   · cases h
 · rename_i T p v aX hd
   split at h
   · rename_i k off xs n hp wg bj
     split at h
     · rename_i cs hg
       split at h
       · rename_i hc;obtain ⟨gy, lB, yO⟩ := hc;have ep := ev p;rw [hp] at ep;obtain ⟨gL, b, hh, kx⟩ := ep
         have hv := (ev v).cells wg fun k hk => by
           have := ev v;rw [hk] at this;exact wh r this
         obtain ⟨b', vs, e, fz, h1, h2, h3, h4, h5⟩ := r.b.af k _ (de hg);rw [hh] at h1;simp only [Value.pointer.injEq, Option.some.injEq, Addr.mk.injEq, and_true] at h1;subst h1
         have ew : ∀ u ∈ (a.eval v).cells.toList, u.oneCell' = true := by
           intro u hu;obtain ⟨j, hj, BQ⟩ := List.getElem_of_mem hu;have cL : j < xs.length := by rw [← hv.1]; simpa using hj
           have h6 := hv.2 j _ (List.getElem?_eq_getElem cL);rw [Array.getD_eq_getD_getElem?, Array.getElem?_eq_getElem (by simpa using hj)] at h6;simp only [Option.getD_some] at h6;have h7 := List.all_eq_true.1 yO _ (List.getElem_mem cL);rw [← BQ];simp only [Array.getElem_toList];exact (RC.cells h6 h7 fun k hk => by rw [hk] at h6; obtain ⟨h8, h9⟩ := h6; rw [h9]; exact r.b.oc k h8).2
         obtain ⟨w', h6, h7, h8, h9⟩ := qJ (P := P) (a.eval v).cells.toList w b off 0 vs e fz h3 h4 (by rw [h5.1]; have := hv.1; simp only [Array.length_toList]; omega) ew
         have BR : ∃ i, P.info? T = some i ∧ i.size = n := by
           unfold pM at bj
           split at bj
           · rename_i ba; cases bj;obtain ⟨fields, _, _, i, cs, h1, h2, _⟩ := pD (cD hT ba);exact ⟨i, h1, h2⟩
           · rename_i ti hne ba; cases bj
             have sc : ∀ {t : TypeId} {z : Z}, eJ P t (.sc z) = true → ∃ i, P.info? t = some i ∧ i.size = 1 := fun {t z} h => by
               obtain ⟨_, i, v, h1, h2, _⟩ := pE h; exact ⟨i, h1, h2⟩
             have ht := cD hT ba;cases ti with
             | st n fs z q => exact (hne _ _ _ _ rfl).elim
             | sl E elem bytes => exact sc (yv ht)
             | sc z => exact sc ht
             | it k => exact sc (pF ht).2
             | bt => exact sc (sV ht).2
             | ss => exact sc (mQ ht).2
             | mp kt et => exact sc (qx ht).2.2.2
           · cases bj
         obtain ⟨i, hi, BS⟩ := BR;refine wF (w' := w') ?_ hd ⟨_, h, ⟨ρ, ?_⟩, fun hw => by simp [gM, aX] at hw⟩
         · have dy : ¬ ((a.eval v).cells.size ≠ i.size) := by have := hv.1; omega
           simp only [execOp, aX, Instr.storeAt, kx, Instr.sureAddr, storeVar, Sem.run_bind, Sem.run_pure, Result.andThen_ok, l4 w hi];rw [if_neg dy];simp only [Result.andThen_ok, h6]
         · refine r.wD hg (fun x hx => h8 x fun he => hx ?_) h9 ?_ (fun x hx => hx) (fun x hx => hx)
           · rw [he]; show 0 < (ρ k).2 b; rw [h2]; simp [one]
           · refine ⟨b, _, e, fz, hh, h2, h7, ?_, ?_⟩
             · rcases h4 with h | h
               · exact .inl h
               · exact .inr (by rw [eB]; exact h)
             · rw [Nat.add_zero];exact cW.yH xs _ h5 (by simpa using hv)
       · cases h
     · cases h
   · cases h
 · rename_i T d aX hd
   split at h
   · rename_i kt et ba hg;obtain ⟨ρ', r1, h1⟩ := r.MG hg;refine kC (v := .map (some w.heap.size)) (w' := w.alloc (.map #[] 0)) ?_ ⟨_, h, ⟨ρ', ?_⟩, fun _ => ib.alloc w _⟩
     · simp [execOp, aX, Instr.makeMap]
     · rw [hd];exact aI.put r1 (v := .c (.own (8 * d))) ⟨gh.2 (.inl rfl), h1.symm⟩ (some d)
   · cases h
 · rename_i T x i d aX hd
   split at h
   · rename_i kt et k t ba hx hi
     split at h
     · rename_i m hg;have ex := ev x;rw [hx] at ex;obtain ⟨gL, pO⟩ := ex;have ei := ev i;rw [hi] at ei;obtain ⟨BU, MR⟩ := RL.of_int ei;obtain ⟨b, es, c, h1, h2, h3, h4⟩ := r.b.af k _ (de hg);obtain ⟨t1, t2, ⟨U5, t3, t4⟩, _⟩ := qx (cD hT ba);have cM := L8 (P := P) t1 t2 t3 t4 h3 h4 (t ());refine kC (v := .int .i64 (eX (m ()) (t ()))) (w' := w) ?_ ⟨_, h, ⟨ρ, ?_⟩, fun _ => ib.refl w⟩
       · simp only [execOp, aX, pO, h1, BU, cM, Sem.run_bind, Result.andThen_ok, Sem.run_pure]
       · rw [hd];exact r.put (v := iV .i64 fun _ => eX (m ()) (t ())) (RL.int (t := fun _ => eX (m ()) (t ())) (h4.get _)) (some d)
     · cases h
   · cases h
 · rename_i T x i v aX hd
   split at h
   · rename_i kt et k t u ba hx hi hv
     split at h
     · rename_i m hg;obtain ⟨hlen, h⟩ := h;have ex := ev x;rw [hx] at ex;obtain ⟨gL, pO⟩ := ex;have ei := ev i;rw [hi] at ei;obtain ⟨BU, MR⟩ := RL.of_int ei;have eu := ev v;rw [hv] at eu;obtain ⟨MS, MT⟩ := RL.of_int eu;obtain ⟨b, es, c, h1, h2, h3, h4⟩ := r.b.af k _ (de hg);obtain ⟨t1, t2, _, _⟩ := qx (cD hT ba);obtain ⟨pB, c', cM, h5⟩ := L9 (P := P) t1 t2 h3 h4 (t ()) (u ()) MT hlen;have hb : b < w.heap.size := ky h3;have dM : (w.heap.setIfInBounds b (.map pB c'))[b]? = some (.map pB c') := by rw [Array.getElem?_setIfInBounds, if_pos rfl, if_pos hb]
       have F7 : ∀ y, y ≠ b → (w.heap.setIfInBounds b (.map pB c'))[y]? = w.heap[y]? := fun y hy => by rw [Array.getElem?_setIfInBounds, if_neg (Ne.symm hy)]
       refine wF (w' := { w with heap := w.heap.setIfInBounds b (.map pB c') }) ?_ hd ⟨_, h, ⟨ρ, ?_⟩, fun hw => by simp [gM, aX] at hw⟩
       · simp only [execOp, aX, pO, h1, BU, MS, cM, Sem.run_bind, Result.andThen_ok, Sem.run_pure]
       · refine r.wD hg (fun y hy => F7 y fun he => hy ?_) (Ext.of (by simp) rfl rfl (FI fun y => ?_)) ?_ (fun x hx => hx) (fun x hx => hx)
         · rw [he]; show 0 < (ρ k).2 b; rw [h2]; simp [one]
         · by_cases hy : y = b
           · subst hy; exact .inr ⟨pB, c', dM, .inr ⟨es, c, h3⟩⟩
           · exact .inl (F7 y hy)
         · exact ⟨b, pB, c', h1, h2, dM, h5⟩
     · cases h
   · cases h
 · rename_i c d aX hd
   split at h
   · rename_i x T ff hx Bm
     split at h
     · rename_i kt et k ba pO
       split at h
       · rename_i m hg;have ex := ev x;rw [pO] at ex;obtain ⟨gL, MU⟩ := ex;obtain ⟨b, es, cc, h1, h2, h3, h4⟩ := r.b.af k _ (de hg);obtain ⟨t1, _, _, _⟩ := qx (cD hT ba);have e1 : c.args = #[x] := by rw [← Array.toList_inj]; simpa using hx
         have e2 : c.argTypes = #[T] := by rw [← Array.toList_inj]; simpa using Bm
         have nW : (getObj b).run P w = .ok (.map es cc) w := by simp [getObj, Sem.run, h3]
         have hle := h4.le;refine kC (v := .int .i64 ((m ()).length : Int)) (w' := w) ?_ ⟨_, h, ⟨ρ, ?_⟩, fun _ => ib.refl w⟩
         · simp [execOp, aX, resolve, ff, e1, e2, invoke, builtin, Builtin.len_, iP w t1, MU, h1, nW, h4.size, goInt]
         · rw [hd];exact r.put (v := iV .i64 fun _ => ((m ()).length : Int)) (RL.int (t := fun _ => (((m ()).length : Nat) : Int)) (sW.2 (by omega))) (some d)
       · cases h
     · cases h
   · cases h
 · cases h
end
def cg (n sz : Nat) (S : Nat → Nat → Nat → Nat) (x : Nat) : Nat := bY n fun i => bY sz fun j => S i j x
def bH (h : Array Obj) (E : an) (xs : List E.α) (cs : Nat → Value) (S : Nat → Nat → Nat → Nat) : Prop :=
 ∀ i x, xs[i]? = some x → ∀ j l, (bQ E fun _ => x)[j]? = some l → bn h l (cs (i * E.sz + j)) (S i j)
def glue {α : Type} (n : Nat) (f g : Nat → α) : Nat → α := fun i => if i < n then f i else g (i - n)
theorem wH {n m : Nat} {f : Nat → Nat} : bY (n + m) f = bY n f + bY m fun i => f (n + i) := by
 induction m with
 | zero => simp [bY]
 | succ m ih => rw [← Nat.add_assoc]; simp only [bY, ih]; omega
theorem uC {n m sz : Nat} {S T : Nat → Nat → Nat → Nat} {x : Nat} : cg (n + m) sz (glue n S T) x = cg n sz S x + cg m sz T x := by
 unfold cg;rw [wH]
 congr 1
 · exact vX fun i hi => by simp [glue, hi]
 · exact vX fun i _ => by simp only [glue, if_neg (Nat.not_lt.2 (Nat.le_add_right n i)), Nat.add_sub_cancel_left]
theorem F8 {n sz : Nat} {S : Nat → Nat → Nat → Nat} {i j x : Nat} (hi : i < n) (hj : j < sz) : S i j x ≤ cg n sz S x :=
 Nat.le_trans (yp (f := fun j => S i j x) hj) (yp (f := fun i => bY sz fun j => S i j x) hi)
theorem nX {E : an} {x : E.α} {j : Nat} {l : Lf} (h : (bQ E fun _ => x)[j]? = some l) : j < E.sz := by
 have := bq h; rwa [iu] at this
theorem qM {i j n sz : Nat} (hi : i < n) (hj : j < sz) : i * sz + j < n * sz := by
 have : (i + 1) * sz ≤ n * sz := Nat.mul_le_mul_right _ hi;rw [Nat.add_mul] at this;omega
section
variable {h h' : Array Obj} {E : an} {xs ys : List E.α} {cs ds : Nat → Value} {S T : Nat → Nat → Nat → Nat}
theorem bH.mono (hs : bH h E xs cs S) (hk : ∀ x, 0 < cg xs.length E.sz S x → h'[x]? = h[x]?) : bH h' E xs cs S := fun i x hx j l hj =>
 (hs i x hx j l hj).mono fun b hb => hk b (Nat.lt_of_lt_of_le hb (F8 (bq hx) (nX hj)))
theorem bH.cells (hs : bH h E xs cs S) (hc : ∀ q, q < xs.length * E.sz → ds q = cs q) : bH h E xs ds S := fun i x hx j l hj => by
 rw [hc _ (qM (bq hx) (nX hj))];exact hs i x hx j l hj
theorem bH.glue (hs : bH h E xs cs S) (ht : bH h E ys ds T) : bH h E (xs ++ ys) (glue (xs.length * E.sz) cs ds) (glue xs.length S T) := fun i x hx j l hj => by
 rcases Nat.lt_or_ge i xs.length with hi | hi
 · rw [List.getElem?_append_left hi] at hx;simp only [Go.Proofs.YtehpbaiclfilaaaGreat.glue, hi, if_true, qM hi (nX hj)];exact hs i x hx j l hj
 · rw [List.getElem?_append_right hi] at hx;have h1 : ¬ i * E.sz + j < xs.length * E.sz := by have := Nat.mul_le_mul_right E.sz hi; omega
   simp only [Go.Proofs.YtehpbaiclfilaaaGreat.glue, if_neg (Nat.not_lt.2 hi), if_neg h1];have h2 : i * E.sz + j - xs.length * E.sz = (i - xs.length) * E.sz + j := by rw [Nat.sub_mul]; have := Nat.mul_le_mul_right E.sz hi; omega
   rw [h2];exact ht _ x hx j l hj
theorem bH.nil : bH h E [] cs S := fun i x hx => by simp at hx
theorem bH.own {b off c : Nat} {vs : Array Value} {e : TypeId} {fz : Nat × Nat} (hs : bH h E xs (fun q => vs.getD (off + q) Go.undef) S) (hb : h[b]? = some (.cells vs e fz)) (hf : NF vs fz)
  (hl : xs.length ≤ c) (hm : xs.length ≤ cG) (ho : off + c * E.sz ≤ vs.size) : bn h (.list E fun _ => xs) (.slice (some ⟨b, off, none⟩) xs.length c) (bT b xs.length E.sz S) :=
 .list (t := fun _ => xs) S hb hf hl hm ho fun i x hx j l hj => by have := hs i x hx j l hj; rwa [Nat.add_assoc]
theorem bn.fL {xs : Unit → List E.α} {v : Value} {p : Nat → Nat} (ho : bn h (.list E xs) v p) :
   (v = .slice none 0 0 ∧ xs () = [] ∧ p = fun _ => 0) ∨
   ∃ b off c vs e fz S, v = .slice (some ⟨b, off, none⟩) (xs ()).length c ∧ p = bT b (xs ()).length E.sz S ∧ h[b]? = some (.cells vs e fz) ∧ NF vs fz ∧ (xs ()).length ≤ c ∧ (xs ()).length ≤ cG ∧
    off + c * E.sz ≤ vs.size ∧ bH h E (xs ()) (fun q => vs.getD (off + q) Go.undef) S := by
 cases ho with
 | nil h0 => exact .inl ⟨rfl, h0, rfl⟩
 | list S hb hf hl hm eK hc =>
   exact .inr ⟨_, _, _, _, _, _, S, rfl, rfl, hb, hf, hl, hm, eK, fun i x hx j l hj => by have := hc i x hx j l hj; rwa [Nat.add_assoc] at this⟩
end
def fD : List (Nat × ak) → List Nat → List (Nat × ak)
 | bs, [] => bs
 | bs, k :: ks => fD (bO bs k .dead) ks
def iW : aG → List Nat → aG
 | ρ, [] => ρ
 | ρ, k :: ks => iW (cX ρ k ((ρ k).1, fun _ => 0)) ks
theorem nY : ∀ {ks : List Nat} {ρ : aG} {k : Nat}, (iW ρ ks k).1 = (ρ k).1
 | [], _, _ => rfl
 | j :: ks, ρ, k => by
   simp only [iW, nY (ks := ks)]
   by_cases h : k = j
   · subst h; rw [dG]
   · rw [dg h]
theorem F9 : ∀ {ks : List Nat} {ρ : aG} {k : Nat}, k ∉ ks → iW ρ ks k = ρ k
 | [], _, _, _ => rfl
 | j :: ks, ρ, k, h => by
   simp only [List.mem_cons, not_or] at h;simp only [iW, F9 (ks := ks) h.2, dg h.1]
theorem wI {k : Nat} : ∀ {ks : List Nat} {bs : List (Nat × ak)}, av (fD bs ks) k ↔ av bs k
 | [], _ => Iff.rfl
 | j :: ks, bs => by simp only [fD, wI (ks := ks), fc]
theorem F_ {bs : List (Nat × ak)} {k j : Nat} {B : ak} (h : aM bs k = none) : aM (bO bs j B) k = none := by
 cases hg : aM (bO bs j B) k with
 | none => rfl
 | some A => exact (jw h (fc.1 (fB hg))).elim
theorem BV {k : Nat} : ∀ {ks : List Nat} {bs : List (Nat × ak)}, aM bs k = none → aM (fD bs ks) k = none
 | [], _, h => h
 | _ :: ks, _, h => BV (ks := ks) (F_ h)
section
variable {Γ : Ctx} {H : Hp} {ρ : aG} {σ : SS} {a : Act} {w w' : World}
theorem aI.kill (r : aI Γ H ρ σ a w) {k : Nat} (hk : av σ.af k) : aI Γ H (cX ρ k ((ρ k).1, fun _ => 0)) { σ with af := bO σ.af k .dead } a w := by
 have e : av (bO σ.af k .dead) = av σ.af := by funext j; exact propext fc
 have hf : ∀ j, (cX ρ k ((ρ k).1, fun _ => 0) j).1 = (ρ j).1 := fun j => by
   by_cases h : j = k
   · subst h; rw [dG]
   · rw [dg h]
 have g : jO H H ρ (cX ρ k ((ρ k).1, fun _ => 0)) (av σ.af) (av (bO σ.af k .dead)) := ⟨fun _ _ h => h, fun j hj => ⟨fc.2 hj, hf j⟩⟩;refine ⟨⟨fun j hj => by rw [hf]; exact r.b.oc j (fc.1 hj), by rw [sS]; exact r.b.nd, r.b.h0, r.b.hh, fun j A hj => ?_, fun x => ?_, fun j A hj x hx => ?_, fun j A hj x hx => ?_⟩, r.e.grow g, r.d, r.n, fun p hp => ?_, fun p hp => ⟨fc.2 (r.hm p hp).1, by rw [hf]; exact (r.hm p hp).2⟩⟩
 · rcases ko r.b.nd hj with ⟨rfl, rfl⟩ | ⟨hne, hj⟩
   · rw [dG]; rfl
   · rw [dg hne]; exact (r.b.af j A hj).mono g fun _ _ => rfl
 · have h1 := sU (ρ := ρ) (ρ' := cX ρ k ((ρ k).1, fun _ => 0)) r.b.nd (B := .dead) hk (fun j hj => dg hj) x;rw [dG] at h1;have := r.b.sum x;show aS _ (bO σ.af k .dead) x ≤ 1;simp only [Nat.add_zero] at h1;omega
 · rcases ko r.b.nd hj with ⟨rfl, rfl⟩ | ⟨hne, hj⟩
   · rw [dG] at hx; simp at hx
   · rw [dg hne] at hx; exact r.b.fresh j A hj x hx
 · rcases ko r.b.nd hj with ⟨rfl, rfl⟩ | ⟨hne, hj⟩
   · cases hx
   · rw [dg hne] at hx; exact r.b.ia j A hj x hx
 · obtain ⟨h1, h2⟩ := r.hd p hp;refine ⟨fc.2 h1, by rw [hf]; exact h2.1, fun x => ?_⟩
   by_cases h : p.1 = k
   · rw [h, dG]; exact Nat.zero_le _
   · rw [dg h]; exact h2.2 x
theorem aI.fD : ∀ {ks : List Nat} {ρ : aG} {σ : SS}, aI Γ H ρ σ a w → (∀ k ∈ ks, av σ.af k) → aI Γ H (iW ρ ks) { σ with af := fD σ.af ks } a w
 | [], _, _, r, _ => r
 | k :: ks, _, _, r, hd => aI.fD (ks := ks) (r.kill (hd k List.mem_cons_self)) fun j hj => fc.2 (hd j (List.mem_cons_of_mem _ hj))
theorem wJ : ∀ {ks : List Nat} {ρ : aG} {bs : List (Nat × ak)} {x : Nat}, (bs.map (·.1)).Nodup → eQ ks = true → (∀ k ∈ ks, av bs k) → aS (iW ρ ks) (Go.Proofs.YtehpbaiclfilaaaGreat.fD bs ks) x + bN ρ ks x = aS ρ bs x
 | [], _, _, _, _, _, _ => by simp [iW, Go.Proofs.YtehpbaiclfilaaaGreat.fD, bN]
 | k :: ks, ρ, bs, x, hn, hd, hk => by
   obtain ⟨h1, h2⟩ := wx hd;have ih := wJ (ks := ks) (ρ := cX ρ k ((ρ k).1, fun _ => 0)) (bs := bO bs k .dead) (x := x) (by rw [sS]; exact hn) h2 fun j hj => fc.2 (hk j (List.mem_cons_of_mem _ hj));have h3 := sU (ρ := ρ) (ρ' := cX ρ k ((ρ k).1, fun _ => 0)) hn (B := .dead) (hk k List.mem_cons_self) (fun j hj => dg hj) x;rw [dG] at h3
   have h4 : bN (cX ρ k ((ρ k).1, fun _ => 0)) ks x = bN ρ ks x := by
    have : ∀ {ks : List Nat}, k ∉ ks → bN (cX ρ k ((ρ k).1, fun _ => 0)) ks x = bN ρ ks x := by
     intro ks
     induction ks with
     | nil => intro _; rfl
     | cons j ks ih =>
       intro h;simp only [List.mem_cons, not_or] at h;simp only [bN, ih h.2, dg (Ne.symm h.1)]
    exact this h1
   simp only [iW, Go.Proofs.YtehpbaiclfilaaaGreat.fD, bN];simp only [Nat.add_zero] at h3;omega
theorem yP {ρ : aG} {x : Nat} : ∀ {ks : List Nat}, 0 < bN ρ ks x → ∃ k ∈ ks, 0 < (ρ k).2 x
 | [], h => by simp [bN] at h
 | k :: ks, h => by
   rcases Nat.eq_zero_or_pos ((ρ k).2 x) with h0 | h0
   · have h : 0 < (ρ k).2 x + bN ρ ks x := h;rw [h0, Nat.zero_add] at h;obtain ⟨j, hj, h1⟩ := yP (ks := ks) h;exact ⟨j, List.mem_cons_of_mem _ hj, h1⟩
   · exact ⟨k, List.mem_cons_self, h0⟩
theorem nZ : ∀ {ks : List Nat} {bs : List (Nat × ak)}, gk bs ks = true → ∀ k ∈ ks, ∃ E xs, aM bs k = some (.own E xs false)
 | [], _, _, k, hk => by cases hk
 | j :: ks, bs, h, k, hk => by
   simp only [gk, Bool.and_eq_true] at h;cases hk with
   | head =>
     cases hg : aM bs j with
     | none => simp [hg] at h
     | some B =>
       cases B with
       | own E xs l => cases l with
         | false => exact ⟨E, xs, rfl⟩
         | true => simp [hg] at h
       | dead => simp [hg] at h
       | box cs => simp [hg] at h
       | view E xs => simp [hg] at h
       | b0 E xs i fs => simp [hg] at h
       | mp m => simp [hg] at h
   | tail _ hk => exact nZ h.2 k hk
theorem aI.qN (r : aI Γ H ρ σ a w) {ks : List Nat} (hn : eQ ks = true) (hu : gk σ.af ks = true) {k : Nat} (hk : aM σ.af k = none) {E : an} {xs : Unit → List E.α} {p : Value × (Nat → Nat)}
   (hh : ∀ x, x < w.heap.size → bN ρ ks x = 0 → w'.heap[x]? = w.heap[x]?) (bj : Ext w w') (cU : bn w'.heap (.list E xs) p.1 p.2) (ew : p.1.oneCell' = true)
   (hp : ∀ x, x < w.heap.size → p.2 x ≤ bN ρ ks x) (cN : ∀ x, w.heap.size ≤ x → p.2 x ≤ 1) :
   ∃ ρ', aI Γ H ρ' { σ with af := dx (Go.Proofs.YtehpbaiclfilaaaGreat.fD σ.af ks) k (.own E xs false) } a w' ∧ (ρ' k).1 = p.1 ∧ ∀ j, j ≠ k → (ρ' j).1 = (ρ j).1 := by
 have hd : ∀ j ∈ ks, av σ.af j := fun j hj => by obtain ⟨E, xs, hg⟩ := nZ hu j hj; exact fB hg
 have r1 := r.fD hd;have fM := fun x => wJ (ρ := ρ) (x := x) r.b.nd hn hd
 have mY : ∀ x, 0 < bN ρ ks x → H x = none := fun x hx => by
   obtain ⟨j, hj, h1⟩ := yP hx;obtain ⟨E, xs, hg⟩ := nZ hu j hj;exact r.b.ia j _ (de hg) x h1
 refine ⟨cX (iW ρ ks) k p, r1.s6 (BV hk) (fun b o hb => ?_) (fun b hb => ?_) bj ew (fun x hx => ?_) (fun x => ?_) cU (by simp), by rw [dG], fun j hj => by rw [dg hj, nY]⟩
 · refine hh b (ky (r.b.hh b o hb)) ?_;rcases Nat.eq_zero_or_pos (bN ρ ks b) with h | h
   · exact h
   · rw [mY b h] at hb; cases hb
 · have h1 := fM b;have h2 := r.b.sum b;have eY : 0 < aS (iW ρ ks) (Go.Proofs.YtehpbaiclfilaaaGreat.fD σ.af ks) b := hb;exact hh b (r.lt (by omega)) (by omega)
 · rcases Nat.lt_or_ge x w.heap.size with h | h
   · have h1 := hp x h;have h2 := fM x;have h3 := r.b.sum x;exact ⟨mY x (by omega), by simp only; omega⟩
   · have h1 := r.ur h;have h2 := fM x;exact ⟨h1.1, by simp only; omega⟩
 · rcases Nat.lt_or_ge x w.heap.size with h | h
   · have h1 := hp x h;have h2 := fM x;have h3 := r.b.sum x;omega
   · exact cN x h
end
def l6 : an → Bool
 | .cF => false
 | .cf => false
 | .rep => false
 | _ => true
def qO : (E E' : an) → (Unit → List E'.α) → Option (Unit → List E.α)
 | .int, .int, t => some t
 | .byte, .byte, t => some t
 | .str, .str, t => some t
 | .aF, .aF, t => some t
 | .aD, .aD, t => some t
 | .az, .az, t => some t
 | .cF, .cF, t => some t
 | .cf, .cf, t => some t
 | .h_, .h_, t => some t
 | .rep, .rep, t => some t
 | _, _, _ => none
theorem uD {E E' : an} {t : Unit → List E'.α} {u : Unit → List E.α} (h : qO E E' t = some u) : Lf.list E' t = Lf.list E u := by
 cases E <;> cases E' <;> simp only [qO, Option.some.injEq, reduceCtorEq] at h <;> subst h <;> rfl
def pP (bs : List (Nat × ak)) (E : an) : V → Option ((Unit → List E.α) × List Nat)
 | .c .nil => some (fun _ => [], [])
 | .c (.own k) => match aM bs k with
   | some (.own E' xs false) => (match qO E E' xs with | some ys => some (ys, [k]) | none => none)
   | _ => none
 | _ => none
def BW (bs : List (Nat × ak)) (E : an) : V → Option ((Unit → List E.α) × List Nat)
 | .c (.lf (.list E' t)) => if l6 E = true then (match qO E E' t with | some ys => some (ys, []) | none => none) else none
 | .c (.own k) => if l6 E = true then (match aM bs k with
  | some (.own E' xs _) => (match qO E E' xs with | some ys => some (ys, []) | none => none)
  | _ => none) else pP bs E (.c (.own k))
 | v => pP bs E v
def BX (tab : bf) (T : TypeId) (bs : List (Nat × ak)) (E : an) (v : V) : Option ((Unit → List E.α) × List Nat) :=
 match cS tab T with
 | some (.sl _ _ _) => BW bs E v
 | some .ss => (match E, v with
   | .byte, .c (.lf (.str t)) => some (t, [])
   | _, _ => none)
 | _ => none
theorem qP {E : an} (hf : l6 E = true) {x : E.α} {j : Nat} {l : Lf} (h : (bQ E fun _ => x)[j]? = some l) : l.sc = true := by
 have hm := List.mem_of_getElem? h;cases E <;> simp only [l6, Bool.false_eq_true] at hf <;> simp only [bQ, List.mem_cons, List.not_mem_nil, or_false] at hm
 case int => subst hm; rfl
 case byte => subst hm; rfl
 case str => subst hm; rfl
 case aF => rcases hm with rfl | rfl <;> rfl
 case aD => rcases hm with rfl | rfl | rfl | rfl <;> rfl
 case az => rcases hm with rfl | rfl | rfl | rfl | rfl | rfl | rfl | rfl | rfl | rfl <;> rfl
 case h_ => rcases hm with rfl | rfl | rfl | rfl | rfl | rfl <;> rfl
theorem RL.Ga {h : Array Obj} {H : Hp} {l : Lf} {v : Value} (hr : RL H l v) (hs : l.sc = true) : bn h l v fun _ => 0 := by
 cases hr with
 | int hr => exact .int hr
 | bool => exact .bool
 | str hm => exact .str hm
 | nil h0 => simp [Lf.sc] at hs
 | list hb hl hm ho hc => simp [Lf.sc] at hs
structure jf (w : World) (E : an) (xs : List E.α) (v : Value) (news : List Value) (S : Nat → Nat → Nat → Nat) : Prop where
 len : news.length = xs.length * E.sz
 one : ∀ u ∈ news, u.oneCell' = true
 fL : bH w.heap E xs (fun q => news.getD q Go.undef) S
 val : (∃ a c, v = .slice a 0 c ∧ xs = []) ∨ ∃ b off c, v = .slice (some ⟨b, off, none⟩) xs.length c ∧ ∀ j u, news[j]? = some u → w.cell? ⟨b, off + j, none⟩ = some u
theorem Gb {h : Array Obj} {E : an} {xs : List E.α} {cs : Nat → Value} {S : Nat → Nat → Nat → Nat} (hs : bH h E xs cs S) {q : Nat} (hq : q < xs.length * E.sz) : (cs q).oneCell' = true := by
 have hp := vW E;have hi : q / E.sz < xs.length := Nat.div_lt_of_lt_mul (by rw [Nat.mul_comm]; exact hq);have hj : q % E.sz < E.sz := Nat.mod_lt _ hp;have h1 := hs (q / E.sz) _ (List.getElem?_eq_getElem hi) (q % E.sz) _ (List.getElem?_eq_getElem (by rw [iu]; exact hj));rw [Nat.mul_comm, Nat.div_add_mod] at h1;exact h1.one
theorem jf.of {w : World} {E : an} {xs : List E.α} {b off c : Nat} {vs : Array Value} {e : TypeId} {fz : Nat × Nat} {S : Nat → Nat → Nat → Nat} (hb : w.heap[b]? = some (.cells vs e fz)) (ho : off + xs.length * E.sz ≤ vs.size)
   (hs : bH w.heap E xs (fun q => vs.getD (off + q) Go.undef) S) : ∃ news, jf w E xs (.slice (some ⟨b, off, none⟩) xs.length c) news S := by
 have hg : ∀ q, q < xs.length * E.sz → (vs.extract off (off + xs.length * E.sz)).toList[q]? = some (vs.getD (off + q) Go.undef) := fun q hq => by
   rw [Array.getElem?_toList, Array.getElem?_extract, if_pos (by omega)];exact getD_some (by omega)
 have hl : (vs.extract off (off + xs.length * E.sz)).toList.length = xs.length * E.sz := by simp; omega
 refine ⟨(vs.extract off (off + xs.length * E.sz)).toList, hl, fun u hu => ?_, hs.cells fun q hq => ?_, .inr ⟨b, off, c, rfl, fun j u hj => ?_⟩⟩
 · obtain ⟨q, hq, rfl⟩ := List.getElem_of_mem hu;rw [hl] at hq;have h1 := hg q hq;rw [List.getElem?_eq_getElem (by rw [hl]; exact hq)] at h1;rw [Option.some.inj h1];exact Gb hs hq
 · rw [List.getD_eq_getElem?_getD, hg q hq]; rfl
 · have hq : j < xs.length * E.sz := by rw [← hl]; exact bq hj
   rw [hg j hq] at hj;cases hj;exact cell_of hb (getD_some (by omega))
theorem RL.fL {H : Hp} {h : Array Obj} {E : an} {t : Unit → List E.α} {v : Value} (hr : RL H (.list E t) v) (hh : ∀ b o, H b = some o → h[b]? = some o) (hf : l6 E = true) :
  (∃ a c, v = .slice a 0 c ∧ t () = []) ∨ ∃ b off c vs e fz, v = .slice (some ⟨b, off, none⟩) (t ()).length c ∧ h[b]? = some (.cells vs e fz) ∧ off + (t ()).length * E.sz ≤ vs.size ∧
   (t ()).length ≤ cG ∧ bH h E (t ()) (fun q => vs.getD (off + q) Go.undef) fun _ _ _ => 0 := by
 cases hr with
 | nil h0 => exact .inl ⟨_, _, rfl, h0⟩
 | list hb hl hm ho hc => exact .inr ⟨_, _, _, _, _, _, rfl, hh _ _ hb, ho, hm, fun i x hx j l hj => by
   have := (hc i x hx j l hj).Ga (h := h) (qP hf hj)
   rwa [Nat.add_assoc] at this⟩
theorem bn.tc {h : Array Obj} {l : Lf} {v : Value} {S : Nat → Nat} (ho : bn h l v S) (hs : l.sc = true) : bn h l v fun _ => 0 := by
 cases ho with
 | int hr => exact .int hr
 | bool => exact .bool
 | str hm => exact .str hm
 | nil h0 => simp [Lf.sc] at hs
 | list => simp [Lf.sc] at hs
theorem bH.flat {h : Array Obj} {E : an} {xs : List E.α} {cs : Nat → Value} {S : Nat → Nat → Nat → Nat} (hs : bH h E xs cs S) (hf : l6 E = true) : bH h E xs cs fun _ _ _ => 0 := fun i x hx j l hj =>
 (hs i x hx j l hj).tc (qP hf hj)
theorem jf.nil {w : World} {E : an} (a : Option Addr) (c : Nat) : jf w E [] (.slice a 0 c) [] fun _ _ _ => 0 :=
 ⟨by simp, (fun _ h => by cases h), bH.nil, .inl ⟨a, c, rfl, rfl⟩⟩
theorem jf.src {P : Program} {w : World} {E : an} {xs : List E.α} {v : Value} {news : List Value} {S : Nat → Nat → Nat → Nat} (hn : jf w E xs v news S) {tx e : TypeId} (hk : P.underlying tx = some (.slice e)) :
   Src P E.sz tx v xs.length news w := by
 rcases hn.val with ⟨a, c, rfl, rfl⟩ | ⟨b, off, c, rfl, h⟩
 · have : news = [] := by have := hn.len; simpa using this
   subst this;cases a with
   | none => exact Src.ofNil w hk c
   | some a => exact Src.ofSlice w hk a 0 c [] (by simp) (fun j u hj => by simp at hj) fun u hu => by cases hu
 · exact Src.ofSlice w hk _ _ _ news hn.len (fun j u hj => by rw [fe]; exact h j u hj) hn.one
structure uE (P : Program) (w : World) (E : an) (xs : List E.α) (tx : TypeId) (v : Value) (news : List Value) (S : Nat → Nat → Nat → Nat) : Prop where
 len : news.length = xs.length * E.sz
 one : ∀ u ∈ news, u.oneCell' = true
 fL : bH w.heap E xs (fun q => news.getD q Go.undef) S
 src : Src P E.sz tx v xs.length news w
theorem jf.yQ {P : Program} {w : World} {E : an} {xs : List E.α} {v : Value} {news : List Value} {S : Nat → Nat → Nat → Nat} (hn : jf w E xs v news S) {tx e : TypeId} (hk : P.underlying tx = some (.slice e)) : uE P w E xs tx v news S :=
 ⟨hn.len, hn.one, hn.fL, hn.src hk⟩
theorem uE.str {P : Program} {w : World} {tx : TypeId} (hk : P.underlying tx = some .string) (s : List UInt8) : uE P w .byte s tx (.string ⟨s.toArray⟩) (byteCells ⟨s.toArray⟩) fun _ _ _ => 0 := by
 have hs := Src.ofString (P := P) w hk ⟨s.toArray⟩;have hb : byteCells ⟨s.toArray⟩ = s.map fun b => Value.int .u8 b.toNat := by simp [byteCells]
 have hz : (⟨s.toArray⟩ : ByteArray).size = s.length := by simp [ByteArray.size]
 rw [hz] at hs;refine ⟨by rw [hb]; simp [an.sz], hs.one, fun i x hx j l hj => ?_, hs⟩;simp only [bQ] at hj;cases j with
 | succ j => simp at hj
 | zero =>
   simp at hj;subst hj;rw [hb];simp only [an.sz, Nat.mul_one, Nat.add_zero]
   have : (s.map fun b => Value.int .u8 b.toNat).getD i Go.undef = .int .u8 ((x.toNat : Nat) : Int) := by
    rw [List.getD_eq_getElem?_getD, List.getElem?_map, hx]; rfl
   rw [this];refine bn.int (t := fun _ => ((x.toNat : Nat) : Int)) ?_;have := UInt8.toNat_lt x;simp [IntKind.has, IntKind.min, IntKind.max, IntKind.signed, IntKind.bits];omega
theorem jh : ∀ (us : List Value) (vs : Array Value) (o q : Nat), o + us.length ≤ vs.size → (dF vs o us).getD q Go.undef = if o ≤ q ∧ q < o + us.length then us.getD (q - o) Go.undef else vs.getD q Go.undef
 | [], vs, o, q, _ => by
   have : ¬ (o ≤ q ∧ q < o + ([] : List Value).length) := by simp only [List.length_nil]; omega
   rw [if_neg this]; rfl
 | u :: us, vs, o, q, h => by
   simp only [List.length_cons] at h;simp only [dF];rw [jh us _ (o + 1) q (by simp; omega)]
   by_cases h1 : o + 1 ≤ q ∧ q < o + 1 + us.length
   · rw [if_pos h1, if_pos (by simp only [List.length_cons]; omega), show q - o = (q - (o + 1)) + 1 by omega];simp
   · rw [if_neg h1]
     by_cases h2 : q = o
     · subst h2;rw [if_pos (by simp only [List.length_cons]; omega)];simp [Array.getD_eq_getD_getElem?, show q < vs.size by omega]
     · rw [if_neg (by simp only [List.length_cons]; omega)];simp [Array.getD_eq_getD_getElem?, Ne.symm h2]
theorem wK {P : Program} {w : World} {E : an} {xs ys : List E.α} {vx vy : Value} {px : Nat → Nat} {T T2 e ty : TypeId} {i : TypeInfo} {z : Value} {news : List Value} {S2 : Nat → Nat → Nat → Nat} {py : Nat → Nat}
   (hx : bn w.heap (.list E fun _ => xs) vx px) (hy : uE P w E ys T2 vy news S2) (uF : ∀ x, cg ys.length E.sz S2 x ≤ py x) (ew : ∀ x, px x + py x ≤ 1) (kO : ∀ x, 0 < px x + py x → x < w.heap.size)
   (ht : P.underlying T = some (.slice e)) (hi : P.info? e = some i) (hz : i.zero = some z) (bj : i.size = E.sz) (te : z.cells.size = E.sz) (pQ : 0 < i.bytes)
   (MV : (xs.length + ys.length) * i.bytes ≤ 140737488355328) :
   ∃ v p w', (Builtin.append_ #[T, T2] ty #[vx, vy]).run P w = .ok v w' ∧ bn w'.heap (.list E fun _ => xs ++ ys) v p ∧ Ext w w' ∧ (∀ x, x < w.heap.size → px x = 0 → w'.heap[x]? = w.heap[x]?) ∧
     (∀ x, x < w.heap.size → p x ≤ px x + py x) ∧ ∀ x, w.heap.size ≤ x → p x ≤ 1 := by
 have hs := hy.src
 have hlen : xs.length + ys.length ≤ cG := by
   have : xs.length + ys.length ≤ (xs.length + ys.length) * i.bytes := Nat.le_mul_of_pos_right _ pQ;unfold cG; omega
 have MW : ((xs.length + ys.length : Nat) : Int) ≤ 9223372036854775807 := by unfold cG at hlen; omega
 rw [← bj] at hs;have Gc := hy.fL
 have grow : ∀ (base : Option Addr) (n cap : Nat) (gl : List Value) (S : Nat → Nat → Nat → Nat), n = xs.length → vx = .slice base n cap → cap < n + ys.length → gl.length = xs.length * E.sz →
     (Builtin.firstCells i.size n (.slice base n cap)).run P w.drew = .ok gl.toArray w.drew → bH w.heap E xs (fun q => gl.getD q Go.undef) S → (∀ x, cg xs.length E.sz S x ≤ px x) →
     ∃ v p w', (Builtin.append_ #[T, T2] ty #[vx, vy]).run P w = .ok v w' ∧ bn w'.heap (.list E fun _ => xs ++ ys) v p ∧ Ext w w' ∧ (∀ x, x < w.heap.size → px x = 0 → w'.heap[x]? = w.heap[x]?) ∧
     (∀ x, x < w.heap.size → p x ≤ px x + py x) ∧ ∀ x, w.heap.size ≤ x → p x ≤ 1 := by
   intro base n cap gl S hn hv hg b0 hold cB BY;subst hn;have cM := run_append_grow_src (P := P) w T T2 ty e i z ht hi hz base xs.length cap gl hold vy ys.length news hs hg MW (growslice_fits hg MV);have n_ := grownCap_ge w (xs.length + ys.length) cap e;generalize grownCap w (xs.length + ys.length) cap e = C at cM n_;generalize mZ : (gl ++ news).toArray ++ Builtin.zeroCells z.cells (C - (xs.length + ys.length)) = cells at cM
   have dy : cells.size = C * E.sz := by
     rw [← mZ];simp only [Array.size_append, List.size_toArray, List.length_append, Builtin.zeroCells, Array.size_map, Array.size_range, te, b0, hy.len];rw [← Nat.add_mul, ← Nat.add_mul]
     congr 1; omega
   have cT : ∀ q, q < (xs ++ ys).length * E.sz → cells.getD (0 + q) Go.undef = glue (xs.length * E.sz) (fun q => gl.getD q Go.undef) (fun q => news.getD q Go.undef) q := by
     intro q hq;rw [List.length_append, Nat.add_mul] at hq;rw [Nat.zero_add, ← mZ, Array.getD_eq_getD_getElem?, Array.getElem?_append_left (by simp [b0, hy.len]; omega), List.getElem?_toArray];simp only [glue]
     split
     · rename_i h;rw [List.getElem?_append_left (by omega), List.getD_eq_getElem?_getD]
     · rename_i h;rw [List.getElem?_append_right (by omega), List.getD_eq_getElem?_getD, b0]
   have pR : bH (w.heap.push (.cells cells e)) E (xs ++ ys) (fun q => cells.getD (0 + q) Go.undef) (glue xs.length S S2) := by
     refine bH.cells ((cB.glue Gc).mono fun x hx => ?_) cT;rw [List.length_append, uC] at hx;have h1 := BY x;have h2 := uF x;have h3 := kO x (by omega);rw [Array.getElem?_push, if_neg (Nat.ne_of_lt h3)]
   refine ⟨_, bT w.heap.size (xs ++ ys).length E.sz (glue xs.length S S2), w.drew.alloc (.cells cells e), by rw [hv]; exact cM, ?_, (Ext.of (w := w) (w' := w.drew) (Nat.le_refl _) rfl rfl fun _ => rfl).trans (s7 w.drew _ _), fun x hx _ => ?_, fun x hx => ?_, fun x hx => ?_⟩
   · have := pR.own (b := w.heap.size) (off := 0) (c := C) (vs := cells) (e := e) (fz := (0, 0)) (by simp) (mX _) (by rw [List.length_append]; exact n_) (by rw [List.length_append]; exact hlen) (by omega);rw [← List.length_append];exact this
   · show (w.heap.push _)[x]? = _;rw [Array.getElem?_push, if_neg (Nat.ne_of_lt hx)]
   · have h1 := BY x;have h2 := uF x
     have : bT w.heap.size (xs ++ ys).length E.sz (glue xs.length S S2) x = 0 + cg (xs.length + ys.length) E.sz (glue xs.length S S2) x := by
       rw [← List.length_append]; simp only [bT, cg]; rw [if_neg (Nat.ne_of_lt hx)]
     rw [this, uC];omega
   · have h1 := BY x;have h2 := uF x
     have h3 : px x + py x = 0 := by
       rcases Nat.eq_zero_or_pos (px x + py x) with h | h
       · exact h
       · have := kO x h; omega
     have : bT w.heap.size (xs ++ ys).length E.sz (glue xs.length S S2) x ≤ 1 + cg (xs.length + ys.length) E.sz (glue xs.length S S2) x := by
       rw [← List.length_append]; simp only [bT, cg]; split <;> omega
     rw [uC] at this;omega
 rcases hx.fL with ⟨hv, h0, hp⟩ | ⟨b, off, c, vs, e', fz, S, hv, hp, hb, hf, hl, hm, ho, cB⟩
 · subst h0;rcases Nat.eq_zero_or_pos ys.length with Gd | Gd
   · have yD : ys = [] := List.length_eq_zero_iff.1 Gd;subst yD;have MX : news = [] := by have := hy.len; simpa using this
     subst MX;refine ⟨.slice none 0 0, fun _ => 0, w, ?_, bn.nil (t := fun _ => ([] : List E.α) ++ []) rfl, Ext.refl w, fun _ _ _ => rfl, fun _ _ => Nat.zero_le _, fun _ _ => Nat.zero_le _⟩;rw [hv];have hc : (Builtin.firstCells i.size 0 vy).run P w = .ok #[] w := hs.cells;rcases hs.kind with ⟨e', hk⟩ | hk <;> simp [Builtin.append_, run_underlying ht, run_underlying hk, sizeOf, typeInfo, hi, hs.len, hc]
   · exact grow none 0 0 [] (fun _ _ _ => 0) rfl hv (by omega) (by simp) (run_firstCells_none w.drew i.size 0 0 0) bH.nil fun x => by simp [cg, bY]
 · rcases Nat.lt_or_ge c (xs.length + ys.length) with hg | gm
   · obtain ⟨gl, hN⟩ := jf.of (c := c) hb (by have := Nat.mul_le_mul_right E.sz hl; omega) cB;refine grow (some ⟨b, off, none⟩) xs.length c gl S rfl hv hg hN.len ?_ hN.fL fun x => ?_
     · rcases hN.val with ⟨a, c', h1, h2⟩ | ⟨b', MQ, c', h1, h2⟩
       · have : gl = [] := by have := hN.len; rw [h2] at this; simpa using this
         subst this;rw [h2];exact run_firstCells_some w.drew i.size 0 _ _ _ [] (by simp) fun j v hj => by simp at hj
       · simp only [Value.slice.injEq, Option.some.injEq, Addr.mk.injEq, and_true, true_and] at h1;obtain ⟨⟨rfl, rfl⟩, rfl⟩ := h1;refine run_firstCells_some w.drew i.size _ _ _ _ gl (by rw [hN.len, bj]) fun j v hj => ?_;rw [fe];exact h2 j v hj
     · rw [hp]; simp only [bT, cg]; exact Nat.le_add_left _ _
   · -- in place
     have n_ := Nat.mul_le_mul_right E.sz gm;rw [Nat.add_mul] at n_;obtain ⟨w', g1, g2, g3, g4⟩ := qJ (P := P) news w b (off + xs.length * E.sz) 0 vs e' fz hb hf (by rw [hy.len]; omega) hy.one;rw [Nat.add_zero] at g2
     have jA : px b = 1 ∧ cg xs.length E.sz S b = 0 ∧ py b = 0 := by
       have h1 := ew b;have h2 : px b = 1 + cg xs.length E.sz S b := by rw [hp]; simp [bT, cg]
       omega
     have MY : bH w'.heap E xs (fun q => vs.getD (off + q) Go.undef) S := cB.mono fun x hx => g3 x fun he => by subst he; omega
     have MZ : bH w'.heap E ys (fun q => news.getD q Go.undef) S2 := Gc.mono fun x hx => g3 x fun he => by subst he; have := uF x; omega
     have pR : bH w'.heap E (xs ++ ys) (fun q => (dF vs (off + xs.length * E.sz) news).getD (off + q) Go.undef) (glue xs.length S S2) := by
       refine bH.cells (MY.glue MZ) fun q hq => ?_;rw [List.length_append, Nat.add_mul] at hq;rw [jh _ _ _ _ (by rw [hy.len]; omega)];simp only [glue]
       by_cases h : q < xs.length * E.sz
       · rw [if_pos h, if_neg (by omega)]
       · rw [if_neg h, if_pos (by rw [hy.len]; omega)]
         congr 1; omega
     refine ⟨.slice (some ⟨b, off, none⟩) (xs ++ ys).length c, bT b (xs ++ ys).length E.sz (glue xs.length S S2), w', ?_, ?_, g4, fun x _ hx => g3 x fun he => by subst he; omega, fun x _ => ?_, fun x hx => ?_⟩
     · rw [hv, List.length_append];have M0 : xs.length + ys.length ≤ c := gm;rw [← bj] at g1;rcases hs.kind with ⟨e', hk⟩ | hk <;> simp [Builtin.append_, run_underlying ht, run_underlying hk, sizeOf, typeInfo, hi, hs.len, M0, hs.cells, fe, g1]
     · refine pR.own g2 ?_ (by rw [List.length_append]; exact gm) (by rw [List.length_append]; exact hlen) (by rw [eB]; exact ho);rcases hf with h | h
       · exact .inl h
       · exact .inr (by rw [eB]; exact h)
     · have h2 := uF x
       have h3 : bT b (xs ++ ys).length E.sz (glue xs.length S S2) x = (if x = b then 1 else 0) + cg (xs.length + ys.length) E.sz (glue xs.length S S2) x := by
         rw [← List.length_append]; rfl
       have h4 : px x = (if x = b then 1 else 0) + cg xs.length E.sz S x := by rw [hp]; rfl
       rw [h3, uC];omega
     · have h2 := uF x;have h5 := ew x
       have h3 : bT b (xs ++ ys).length E.sz (glue xs.length S S2) x = (if x = b then 1 else 0) + cg (xs.length + ys.length) E.sz (glue xs.length S S2) x := by
         rw [← List.length_append]; rfl
       have h4 : px x = (if x = b then 1 else 0) + cg xs.length E.sz S x := by rw [hp]; rfl
       rw [h3, uC];omega
def BZ (bs : List (Nat × ak)) (z : Z) : C → Option (Lf × List Nat)
 | .lf (.list _ _) => none
 | .lf l => some (l, [])
 | .bl b => some (.bool fun _ => b, [])
 | .nil => match z with | .nl E => some (.list E fun _ => [], []) | _ => none
 | .own k => match aM bs k with | some (.own E xs false) => some (.list E xs, [k]) | _ => none
 | _ => none
def pS (bs : List (Nat × ak)) : List Z → List C → Option (List Lf × List Nat)
 | [], [] => some ([], [])
 | z :: zs, c :: cs => match BZ bs z c, pS bs zs cs with
   | some (l, k), some (ls, ks) => some (l :: ls, k ++ ks)
   | _, _ => none
 | _, _ => none
def wL : (E : an) → List Lf → Option (Unit → E.α)
 | .int, [.int .i64 t] => some t
 | .byte, [.int .u8 t] => some fun _ => UInt8.ofNat (t ()).toNat
 | .str, [.str t] => some t
 | .aF, [.int .i64 a, .int .i64 b] => some fun _ => ⟨a (), b ()⟩
 | .aD, [.int .i64 a, .int .i64 b, .int .i64 c, .int .i64 d] => some fun _ => ⟨a (), b (), c (), d ()⟩
 | .az, [.int .i64 a, .int .i64 b, .int .i64 c, .int .i64 d, .int .i64 e, .int .i64 f, .int .i64 g, .int .i64 h, .int .i64 i, .int .i64 j] =>
   some fun _ => ⟨a (), b (), c (), d (), e (), f (), g (), h (), i (), j ()⟩
 | .cF, [.list .aF t] => some t
 | .cf, [.int .i64 a, .int .i64 b, .int .i64 c, .int .i64 d, .int .i64 e, .list .aD r, .list .cF s] => some fun _ => ⟨⟨a (), b (), c (), d (), e ()⟩, r (), s ()⟩
 | .h_, [.int .i64 a, .int .i64 b, .int .i64 c, .int .i64 d, .int .i64 e, .int .i64 f] => some fun _ => ⟨a (), b (), c (), d (), e (), f ()⟩
 | .rep, [.int .i64 a, .list .int l] => some fun _ => ⟨a (), l ()⟩
 | _, _ => none
theorem Ge {t : Int} (h : IntKind.u8.has t) : ((UInt8.ofNat t.toNat).toNat : Int) = t := by
 have : 0 ≤ t ∧ t ≤ 255 := by simpa [IntKind.has, IntKind.min, IntKind.max, IntKind.signed, IntKind.bits] using h
 have h2 : t.toNat < 256 := by omega
 rw [UInt8.toNat_ofNat', Nat.mod_eq_of_lt (by simpa using h2)];omega
theorem B0 {E : an} {ls : List Lf} {x : Unit → E.α} (h : wL E ls = some x) (hb : ∀ t, ls = [.int .u8 t] → IntKind.u8.has (t ())) : bQ E x = ls := by
 unfold wL at h
 split at h
 · cases h; rfl
 · rename_i t;cases h;simp only [bQ]
   congr 2
   funext u
   exact Ge (hb t rfl)
 all_goals first
   | (cases h; rfl)
   | cases h
def wM : List (Nat → Nat) → Nat → Nat
 | [], _ => 0
 | f :: fs, x => f x + wM fs x
theorem wN {n : Nat} {f : Nat → Nat} : bY (n + 1) f = f 0 + bY n fun i => f (i + 1) := by
 induction n with
 | zero => simp [bY]
 | succ n ih =>
   have h : bY (n + 1 + 1) f = bY (n + 1) f + f (n + 1) := rfl;have h2 : (bY (n + 1) fun i => f (i + 1)) = (bY n fun i => f (i + 1)) + f (n + 1) := rfl;rw [h, ih, h2]; omega
theorem B3 : ∀ (fs : List (Nat → Nat)) (x : Nat), bY fs.length (fun j => fs.getD j (fun _ => 0) x) = wM fs x
 | [], _ => rfl
 | f :: fs, x => by
   simp only [List.length_cons, wM];rw [wN, ← B3 fs x];rfl
theorem pT {ρ : aG} {x : Nat} : ∀ {ks js : List Nat}, bN ρ (ks ++ js) x = bN ρ ks x + bN ρ js x
 | [], js => by simp [bN]
 | k :: ks, js => by simp only [List.cons_append, bN, pT (ks := ks)]; omega
theorem tf {bs : List (Nat × ak)} : ∀ {ks js : List Nat}, gk bs ks = true → gk bs js = true → gk bs (ks ++ js) = true
 | [], _, _, h => h
 | k :: ks, js, h1, h2 => by
   simp only [gk, Bool.and_eq_true, List.cons_append] at h1 ⊢;exact ⟨h1.1, tf h1.2 h2⟩
section
variable {Γ : Ctx} {H : Hp} {ρ : aG} {σ : SS} {a : Act} {w : World} (r : aI Γ H ρ σ a w)
include r
theorem M1 {z : Z} {c : C} {l : Lf} {ks : List Nat} {v : Value} (h : BZ σ.af z c = some (l, ks)) (hv : RC H ρ (av σ.af) c v) :
   ∃ S : Nat → Nat, bn w.heap l v S ∧ gk σ.af ks = true ∧ ∀ x, S x = bN ρ ks x := by
 unfold BZ at h
 split at h
 · cases h
 · rename_i l' hl;cases h;refine ⟨fun _ => 0, RL.Ga hv ?_, rfl, fun _ => rfl⟩;cases l <;> first | rfl | exact (hl _ _ rfl).elim
 · rename_i b;cases h;simp only [RC] at hv;subst hv;exact ⟨fun _ => 0, bn.bool (t := fun _ => b), rfl, fun _ => rfl⟩
 · split at h
   · cases h;simp only [RC] at hv;subst hv;exact ⟨fun _ => 0, bn.nil rfl, rfl, fun _ => rfl⟩
   · cases h
 · rename_i k
   split at h
   · rename_i E xs hg;cases h;obtain ⟨_, rfl⟩ := hv;exact ⟨(ρ k).2, um r hg, by simp [gk, hg], fun x => by simp [bN]⟩
   · cases h
 · cases h
theorem B4 : ∀ {zs : List Z} {cs : List C} {ls : List Lf} {ks : List Nat} {f : Nat → Value}, pS σ.af zs cs = some (ls, ks) → (∀ (j : Nat) c, cs[j]? = some c → RC H ρ (av σ.af) c (f j)) →
   ∃ S : List (Nat → Nat), S.length = ls.length ∧ ls.length = cs.length ∧ gk σ.af ks = true ∧ (∀ x, wM S x = bN ρ ks x) ∧ ∀ (j : Nat) l, ls[j]? = some l → bn w.heap l (f j) (S.getD j fun _ => 0)
 | [], [], ls, ks, f, h, _ => by
   simp only [pS, Option.some.injEq, Prod.mk.injEq] at h;obtain ⟨rfl, rfl⟩ := h;exact ⟨[], rfl, rfl, rfl, fun _ => rfl, fun j l hj => by simp at hj⟩
 | [], _ :: _, _, _, _, h, _ => by simp [pS] at h
 | _ :: _, [], _, _, _, h, _ => by simp [pS] at h
 | z :: zs, c :: cs, ls, ks, f, h, hc => by
   unfold pS at h
   split at h
   · rename_i l k pU yR h1 h2;cases h;obtain ⟨S0, g1, g2, g3⟩ := M1 r h1 (hc 0 c rfl);obtain ⟨S, g4, g5, g6, g7, g8⟩ := B4 h2 (f := fun j => f (j + 1)) fun j c hj => hc (j + 1) c (by simpa using hj);refine ⟨S0 :: S, by simp [g4], by simp [g5], tf g2 g6, fun x => by simp only [wM, g3, g7, pT], fun j l hj => ?_⟩;cases j with
     | zero => simp at hj; subst hj; exact g1
     | succ j => simp at hj; simpa using g8 j l hj
   · cases h
end
def B5 (bs : List (Nat × ak)) (E : an) (v : V) : Option ((Unit → E.α) × List Nat) :=
 match nS v with
 | some cs => (match pS bs (nO E) cs with
   | some (ls, ks) => (match wL E ls with | some x => some (x, ks) | none => none)
   | none => none)
 | none => none
def wO (bs : List (Nat × ak)) (E : an) : List V → Option ((Unit → List E.α) × List Nat)
 | [] => some (fun _ => [], [])
 | v :: vs => match B5 bs E v, wO bs E vs with
   | some (x, k), some (xs, ks) => some (fun _ => x () :: xs (), k ++ ks)
   | _, _ => none
def yS : Nat → List (Nat × Operand) → Bool
 | _, [] => true
 | i, p :: ps => decide (p.1 = i) && yS (i + 1) ps
theorem Gf {f : Operand → Value} : ∀ {ps : List (Nat × Operand)} {i : Nat}, yS i ps = true → (ps.map fun p => (p.1, f p.2)) = ((ps.map fun p => f p.2).zipIdx i).map fun x => (x.2, x.1)
 | [], _, _ => rfl
 | p :: ps, i, h => by
   simp only [yS, Bool.and_eq_true, decide_eq_true_eq] at h;simp only [List.map_cons, List.zipIdx_cons, Gf h.2, h.1]
section
variable {Γ : Ctx} {H : Hp} {ρ : aG} {σ : SS} {a : Act} {w : World} (r : aI Γ H ρ σ a w)
include r
theorem M3 {E : an} {v : V} {x : Unit → E.α} {ks : List Nat} {u : Value} (h : B5 σ.af E v = some (x, ks)) (hv : RV H ρ (av σ.af) v u) :
   u.cells.size = E.sz ∧ gk σ.af ks = true ∧ ∃ S, bH w.heap E [x ()] (fun q => u.cells.getD q Go.undef) S ∧ ∀ y, cg 1 E.sz S y = bN ρ ks y := by
 unfold B5 at h
 split at h
 · rename_i cs dy
   split at h
   · rename_i ls yR hm
     split at h
     · rename_i x' hx;cases h
       have hc := hv.cells dy fun k hk => by
         rw [hk] at hv;exact wh r hv
       obtain ⟨S, g1, g2, g3, g4, g5⟩ := B4 r hm (f := fun j => u.cells.getD j Go.undef) hc.2
       have he := B0 hx fun t ht => by
         have := g5 0 _ (by rw [ht]; rfl);generalize u.cells.getD 0 Go.undef = y, S.getD 0 (fun _ => 0) = T at this;cases this with
         | int hr => exact hr
       have hlen : ls.length = E.sz := by rw [← he, iu]
       refine ⟨by rw [hc.1, ← g2, hlen], g3, fun _ j => S.getD j fun _ => 0, fun i y hy j l hj => ?_, fun y => ?_⟩
       · cases i with
         | zero =>
           simp only [List.getElem?_cons_zero, Option.some.injEq] at hy;subst hy;have cL : (bQ E x)[j]? = some l := hj;rw [he] at cL;rw [Nat.zero_mul, Nat.zero_add];exact g5 j l cL
         | succ i => simp at hy
       · rw [← g4 y, ← B3, g1, hlen];show 0 + bY E.sz _ = _;rw [Nat.zero_add]
     · cases h
   · cases h
 · cases h
theorem Gg {E : an} : ∀ {vs : List V} {us : List Value} {xs : Unit → List E.α} {ks : List Nat}, wO σ.af E vs = some (xs, ks) → vs.length = us.length → (∀ (j : Nat) v u, vs[j]? = some v → us[j]? = some u → RV H ρ (av σ.af) v u) →
   (xs ()).length = us.length ∧ (∀ u ∈ us, u.cells.size = E.sz) ∧ (us.flatMap fun u => u.cells.toList).length = us.length * E.sz ∧ gk σ.af ks = true ∧
     ∃ S, bH w.heap E (xs ()) (fun q => (us.flatMap fun u => u.cells.toList).getD q Go.undef) S ∧ ∀ y, cg us.length E.sz S y = bN ρ ks y
 | [], us, xs, ks, h, hl, _ => by
   have : us = [] := List.length_eq_zero_iff.1 hl.symm;subst this;simp only [wO, Option.some.injEq, Prod.mk.injEq] at h;obtain ⟨rfl, rfl⟩ := h;exact ⟨rfl, fun u hu => by (cases hu), by simp, rfl, fun _ _ _ => 0, bH.nil, fun y => rfl⟩
 | v :: vs, [], _, _, _, hl, _ => by simp at hl
 | v :: vs, u :: us, xs, ks, h, hl, hv => by
   unfold wO at h
   split at h
   · rename_i x k qQ yR h1 h2;cases h;obtain ⟨g1, g2, S0, g3, g4⟩ := M3 r h1 (hv 0 v u rfl rfl);obtain ⟨g5, g6, g7, g8, S, g9, M4⟩ := Gg h2 (by simpa using hl) fun j v u hj cL => hv (j + 1) v u (by simpa using hj) (by simpa using cL);refine ⟨by simp [g5], fun y hy => ?_, by simp only [List.flatMap_cons, List.length_append, List.length_cons, g7, Array.length_toList, g1, Nat.add_mul]; omega, tf g2 g8, glue 1 S0 S, ?_, fun y => ?_⟩
     · cases hy with
       | head => exact g1
       | tail _ hy => exact g6 y hy
     · have := (g3.glue g9);refine bH.cells this fun q hq => ?_;simp only [List.length_cons, List.length_nil, Nat.zero_add, Nat.one_mul, glue, List.flatMap_cons]
       by_cases h : q < E.sz
       · rw [if_pos h, List.getD_eq_getElem?_getD, List.getElem?_append_left (by simp [g1, h]), Array.getD_eq_getD_getElem?, Array.getElem?_toList]
       · rw [if_neg h, List.getD_eq_getElem?_getD, List.getElem?_append_right (by simp [g1]; omega), List.getD_eq_getElem?_getD];simp [g1]
     · rw [List.length_cons, Nat.add_comm, uC, g4, M4, pT]
   · cases h
end
def Gh : Z → Lf
 | .i k => .int k fun _ => 0
 | .bo => .bool fun _ => false
 | .st => .str fun _ => []
 | .nl E => .list E fun _ => []
 | .un => .bool fun _ => false
theorem M5 (E : an) : (bQ E fun _ => E.lx) = (nO E).map Gh := by cases E <;> rfl
theorem Z.own {h : Array Obj} {z : Z} {v : Value} (hz : z.ok v = true) (hu : z ≠ .un) : bn h (Gh z) v fun _ => 0 := by
 cases z with
 | i k =>
   cases v <;> simp [Z.ok] at hz
   obtain ⟨rfl, rfl⟩ := hz;exact bn.int (t := fun _ => 0) (IntKind.yt _)
 | bo => cases v <;> simp [Z.ok] at hz; subst hz; exact bn.bool (t := fun _ => false)
 | st =>
   cases v <;> simp [Z.ok] at hz
   subst hz;exact bn.str (t := fun _ => []) (by simp [cG])
 | nl E =>
   cases v with
   | slice a n c =>
     cases a with
     | none => cases n <;> cases c <;> first | exact bn.nil rfl | simp [Z.ok] at hz
     | some a => simp [Z.ok] at hz
   | _ => simp [Z.ok] at hz
 | un => exact (hu rfl).elim
theorem Z.B6 : ∀ {zs : List Z} {vs : List Value} {j : Nat} {z : Z}, Z.gV zs vs = true → zs[j]? = some z → ∃ v, vs[j]? = some v ∧ z.ok v = true
 | [], _, j, z, _, h => by simp at h
 | z0 :: zs, [], j, z, h, _ => by simp [Z.gV] at h
 | z0 :: zs, v :: vs, j, z, h, hz => by
   simp only [Z.gV, Bool.and_eq_true] at h;cases j with
   | zero => simp at hz; subst hz; exact ⟨v, rfl, h.1⟩
   | succ j => simp at hz; obtain ⟨u, h1, h2⟩ := Z.B6 h.2 hz; exact ⟨u, by simpa using h1, h2⟩
theorem Z.yU : ∀ {zs : List Z} {vs : List Value}, Z.gV zs vs = true → vs.length = zs.length
 | [], [], _ => rfl
 | [], _ :: _, h => by simp [Z.gV] at h
 | _ :: _, [], h => by simp [Z.gV] at h
 | _ :: _, _ :: _, h => by
   simp only [Z.gV, Bool.and_eq_true] at h;simp [Z.yU h.2]
theorem Gi (E : an) : (nO E).length = E.sz := by cases E <;> rfl
theorem M6 (E : an) : ∀ z ∈ nO E, z ≠ .un := by cases E <;> decide
theorem M7 {h : Array Obj} {E : an} {z : Value} (hz : Z.gV (nO E) z.cells.toList = true) (n : Nat) :
  bH h E (List.replicate n E.lx) (fun q => (madeCells z.cells (n * E.sz)).getD (0 + q) Go.undef) fun _ _ _ => 0 := fun i x hx j l hj => by
 have hlen : z.cells.size = E.sz := by have := Z.yU hz; rw [Gi] at this; simpa using this
 have hi : i < n := by have := bq hx; simpa using this
 have gA := nX hj;rw [List.getElem?_replicate, if_pos hi] at hx;cases hx;have hd : (bQ E fun _ => E.lx)[j]? = some l := hj;rw [M5, List.getElem?_map, Option.map_eq_some_iff] at hd;obtain ⟨zj, h1, rfl⟩ := hd;obtain ⟨v, h2, h3⟩ := Z.B6 hz h1;have hq : i * E.sz + j < n * E.sz := qM hi gA;have M8 : (i * E.sz + j) % z.cells.size = j := by rw [hlen, Nat.mul_comm, Nat.mul_add_mod, Nat.mod_eq_of_lt gA]
 have : (madeCells z.cells (n * E.sz)).getD (0 + (i * E.sz + j)) Go.undef = v := by
  rw [Nat.zero_add, Array.getD_eq_getD_getElem?];unfold madeCells;rw [Array.getElem?_map, Array.getElem?_range, if_pos hq];simp only [Option.map_some, Option.getD_some, M8];rw [Array.getElem?_toList] at h2;rw [getElem!_def, h2]
 show bn h _ ((madeCells z.cells (n * E.sz)).getD (0 + (i * E.sz + j)) Go.undef) _;rw [this];exact Z.own h3 (M6 E zj (List.mem_of_getElem? h1))
section
variable {Γ : Ctx} {H : Hp} {ρ : aG} {σ : SS} {a : Act} {w w' : World}
theorem B7 {bs : List (Nat × ak)} {k : Nat} {B : ak} (h : av bs k) : aM (bO bs k B) k = some B := by
 induction bs with
 | nil => simp [av] at h
 | cons p r ih =>
   simp only [bO]
   split
   · simp [aM]
   · rename_i hp;simp only [aM, if_neg hp];refine ih ?_;simp only [av, List.map_cons, List.mem_cons] at h;exact h.resolve_left (Ne.symm hp)
theorem aI.B8 (r : aI Γ H ρ σ a w) {k : Nat} (hne : ∀ p ∈ Γ.hd, p.1 ≠ k) (hk : av σ.af k) (h0 : ∀ x, (ρ k).2 x = 0) {B : ak} {p : Nat → Nat}
   (hh : ∀ x, x < w.heap.size → 0 < aS ρ σ.af x ∨ H x ≠ none → w'.heap[x]? = w.heap[x]?) (bj : Ext w w')
   (hB : cK w'.heap H (cX ρ k ((ρ k).1, p)) (av (bO σ.af k B)) B ((ρ k).1, p)) (ta : ∀ x, fV B ((ρ k).1, p) x → 0 < p x)
   (hp : ∀ x, 0 < p x → H x = none ∧ aS ρ σ.af x = 0) (hle : ∀ x, p x ≤ 1) :
   aI Γ H (cX ρ k ((ρ k).1, p)) { σ with af := bO σ.af k B } a w' := by
 have hf : ∀ j, (cX ρ k ((ρ k).1, p) j).1 = (ρ j).1 := fun j => by
   by_cases h : j = k
   · subst h; rw [dG]
   · rw [dg h]
 have g : jO H H ρ (cX ρ k ((ρ k).1, p)) (av σ.af) (av (bO σ.af k B)) := ⟨fun _ _ h => h, fun j hj => ⟨fc.2 hj, hf j⟩⟩;refine ⟨⟨fun j hj => by rw [hf]; exact r.b.oc j (fc.1 hj), by rw [sS]; exact r.b.nd, r.b.h0, fun b o hb => ?_, fun j A hj => ?_, fun x => ?_, fun j A hj x hx => ?_, fun j A hj x hx => ?_⟩, r.e.grow g, r.d, r.n.trans bj, (fun p hp => by have := r.hd p hp; rw [dg (hne p hp)]; exact ⟨fc.2 this.1, this.2⟩), fun p hp => ⟨fc.2 (r.hm p hp).1, by rw [hf]; exact (r.hm p hp).2⟩⟩
 · have := r.b.hh b o hb;rw [hh b (ky this) (.inr (by rw [hb]; simp))];exact this
 · rcases ko r.b.nd hj with ⟨rfl, rfl⟩ | ⟨hne, hj⟩
   · rw [dG]; exact hB
   · rw [dg hne];exact (r.b.af j A hj).mono g fun b hb => hh b (r.lt (Nat.lt_of_lt_of_le hb (mO hj b))) (.inl (Nat.lt_of_lt_of_le hb (mO hj b)))
 · have h1 := sU (ρ := ρ) (ρ' := cX ρ k ((ρ k).1, p)) r.b.nd (B := B) hk (fun j hj => dg hj) x;rw [dG, h0 x] at h1;show aS _ (bO σ.af k B) x ≤ 1;have h2 := r.b.sum x;have h3 := hle x;rcases Nat.eq_zero_or_pos (p x) with h4 | h4
   · simp only [h4] at h1; omega
   · have := (hp x h4).2;simp only at h1;omega
 · rcases ko r.b.nd hj with ⟨rfl, rfl⟩ | ⟨hne, hj⟩
   · rw [dG] at hx;have := (hp x hx).1;cases h0 : Γ.H0 x with
     | none => rfl
     | some o => rw [r.b.h0 x o h0] at this; cases this
   · rw [dg hne] at hx; exact r.b.fresh j A hj x hx
 · rcases ko r.b.nd hj with ⟨rfl, rfl⟩ | ⟨hne, hj⟩
   · rw [dG] at hx; exact (hp x (ta x hx)).1
   · rw [dg hne] at hx; exact r.b.ia j A hj x hx
theorem Gj : ∀ {ks : List Nat} {ρ : aG} {k x : Nat}, (k ∈ ks ∨ (ρ k).2 x = 0) → (iW ρ ks k).2 x = 0
 | [], ρ, k, x, h => h.resolve_left (by simp)
 | j :: ks, ρ, k, x, h => by
   simp only [iW];refine Gj ?_
   by_cases gW : k = j
   · right; subst gW; rw [dG]
   · rcases h with h | h
     · rcases List.mem_cons.1 h with h | h
       · exact (gW h).elim
       · exact .inl h
     · right; rw [dg gW]; exact h
theorem Gk {n sz i : Nat} (hi : i < n) {S : Nat → Nat → Nat → Nat} {T : Nat → Nat → Nat} {x : Nat} :
  cg n sz (fun q => if q = i then T else S q) x + bY sz (fun j => S i j x) = cg n sz S x + bY sz fun j => T j x := by
 unfold cg;have := A4 (f := fun q => bY sz fun j => (if q = i then T else S q) j x) (g := fun q => bY sz fun j => S q j x) hi fun j hj => by simp only [if_neg hj]
 simp only [if_pos] at this;omega
theorem bH.set {h : Array Obj} {E : an} {xs : List E.α} {cs ds : Nat → Value} {S T : Nat → Nat → Nat → Nat} {x : E.α} {i : Nat} (hs : bH h E xs cs S) (ht : bH h E [x] ds T) :
   bH h E (xs.set i x) (fun q => if i * E.sz ≤ q ∧ q < i * E.sz + E.sz then ds (q - i * E.sz) else cs q) (fun q => if q = i then T 0 else S q) := fun q y hy j l hj => by
 have gA := nX hj;rw [List.getElem?_set] at hy
 by_cases hq : i = q
 · subst hq;rw [if_pos rfl] at hy
   split at hy
   · cases hy;simp only [if_pos];rw [if_pos (by omega), Nat.add_sub_cancel_left];have := ht 0 x rfl j l hj
     rwa [Nat.zero_mul, Nat.zero_add] at this
   · cases hy
 · rw [if_neg hq] at hy;simp only [if_neg (Ne.symm hq)];rw [if_neg]
   · exact hs q y hy j l hj
   · intro hc;rcases Nat.lt_or_gt_of_ne hq with h1 | h1
     · have := Nat.mul_le_mul_right E.sz (show i + 1 ≤ q from h1);rw [Nat.add_mul] at this;omega
     · have := Nat.mul_le_mul_right E.sz (show q + 1 ≤ i from h1);rw [Nat.add_mul] at this;omega
end
theorem B9 {fs : List (Option Nat)} (h : fs.all Option.isNone = true) (i q j : Nat) : filled fs i q j = none := by
 unfold filled
 split
 · split
   · rename_i k hk;have := List.all_eq_true.1 h _ (List.mem_of_getElem? hk);cases this
   · rfl
 · rfl
theorem M9 {fs : List (Option Nat)} {i q j m : Nat} {o : Option Nat} (hj : j < fs.length) : filled (fs.set j o) i q m = if q = i ∧ m = j then o else filled fs i q m := by
 unfold filled
 by_cases hq : q = i
 · simp only [hq, if_true, true_and];rw [List.getElem?_set]
   by_cases hm : m = j
   · subst hm;simp only [if_true, hj];cases o <;> rfl
   · rw [if_neg (Ne.symm hm), if_neg hm]
 · simp only [hq, if_false, false_and]
section
variable {h : Array Obj} {ρ : aG} {D : Nat → Prop} {E : an} {xs : List E.α} {i : Nat} {fs : List (Option Nat)} {cs : Nat → Value} {S : Nat → Nat → Nat → Nat}
theorem yq.fL (hs : yq h ρ D E xs i fs cs S) (hf : fs.all Option.isNone = true) : bH h E xs cs S := fun q x hx j l hj => by
 have := hs q x hx j l hj;rw [B9 hf] at this;exact this
theorem bH.cB (hs : bH h E xs cs S) (hf : fs.all Option.isNone = true) : yq h ρ D E xs i fs cs S := fun q x hx j l hj => by
 rw [B9 hf];exact hs q x hx j l hj
end
theorem M_ {h : Array Obj} {H : Hp} {ρ : aG} {D : Nat → Prop} {E : an} {xs : Unit → List E.α} {l : Bool} {p : Value × (Nat → Nat)} (ho : cK h H ρ D (.own E xs l) p) {i : Unit → Nat} (hi : i () < (xs ()).length)
  {fs : List (Option Nat)} (hf : fs.all Option.isNone = true) : cK h H ρ D (.b0 E xs i fs) p := by
 have ho : bn h (.list E xs) p.1 p.2 := ho;rcases ho.fL with ⟨_, h0, _⟩ | ⟨b, off, c, vs, e, fz, S, h1, h2, h3, h4, h5, h6, h7, h8⟩
 · rw [h0] at hi; simp at hi
 · exact ⟨b, off, c, vs, e, fz, S, h1, h2, h3, h4, h5, h6, h7, hi, h8.cB hf⟩
theorem Na {h : Array Obj} {H : Hp} {ρ : aG} {D : Nat → Prop} {E : an} {xs : Unit → List E.α} {p : Value × (Nat → Nat)} {i : Unit → Nat} {fs : List (Option Nat)} (ho : cK h H ρ D (.b0 E xs i fs) p)
  (hf : fs.all Option.isNone = true) (l : Bool) : cK h H ρ D (.own E xs l) p := by
 obtain ⟨b, o, c, cs, e, fz, S, h1, h2, h3, h4, h5, h6, h7, h8, h9⟩ := ho;have := (h9.fL hf).own h3 h4 h5 h6 h7;show bn h (.list E xs) p.1 p.2;rw [h1, h2];exact this
theorem Nb {n sz i j : Nat} (hi : i < n) (hj : j < sz) {S : Nat → Nat → Nat → Nat} {T : Nat → Nat} {x : Nat} :
  cg n sz (fun q m => if q = i ∧ m = j then T else S q m) x + S i j x = cg n sz S x + T x := by
 unfold cg;have h1 := A4 (f := fun q => bY sz fun m => (if q = i ∧ m = j then T else S q m) x) (g := fun q => bY sz fun m => S q m x) hi fun q hq => by simp only [hq, false_and, if_false]
 have h2 := A4 (f := fun m => (if m = j then T else S i m) x) (g := fun m => S i m x) hj fun m hm => by simp only [if_neg hm]
 simp only [true_and, if_true] at h1 h2;show (bY n fun q => bY sz fun m => (if q = i ∧ m = j then T else S q m) x) + _ = _ + _;omega
def uG (bs : List (Nat × ak)) : List (Option Nat) → List Lf → Option (List Lf × List Nat)
 | _, [] => some ([], [])
 | [], l :: ls => some (l :: ls, [])
 | o :: fs, l :: ls =>
   match uG bs fs ls with
   | some (r, ks) =>
     match o with
     | none => some (l :: r, ks)
     | some k => (match aM bs k with | some (.own E xs false) => some (.list E xs :: r, k :: ks) | _ => none)
   | none => none
theorem Gl {bs : List (Nat × ak)} {ρ : aG} : ∀ {fs : List (Option Nat)} {ls pU : List Lf} {ks : List Nat}, uG bs fs ls = some (pU, ks) →
   pU.length = ls.length ∧ gk bs ks = true ∧ (∀ (j : Nat) l', pU[j]? = some l' → (∃ k E xs, fs[j]? = some (some k) ∧ aM bs k = some (.own E xs false) ∧ k ∈ ks ∧ l' = .list E xs) ∨ ((∀ k, fs[j]? ≠ some (some k)) ∧ ls[j]? = some l')) ∧
   ∀ (T : Nat → Nat → Nat), (∀ (j : Nat) k, fs[j]? = some (some k) → j < ls.length → T j = fun _ => 0) →
     ∀ x, bY ls.length (fun j => (match fs[j]? with | some (some k) => (ρ k).2 | _ => T j) x) = bY ls.length (fun j => T j x) + bN ρ ks x
 | fs, [], pU, ks, h => by
   have : pU = [] ∧ ks = [] := by cases fs <;> simp_all [uG]
   obtain ⟨rfl, rfl⟩ := this;exact ⟨rfl, rfl, fun j l' hj => by simp at hj, fun T _ x => rfl⟩
 | [], l :: ls, pU, ks, h => by
   simp only [uG, Option.some.injEq, Prod.mk.injEq] at h;obtain ⟨rfl, rfl⟩ := h;exact ⟨rfl, rfl, fun j l' hj => .inr ⟨fun k => by simp, hj⟩, fun T _ x => by simp [bN]⟩
 | o :: fs, l :: ls, pU, ks, h => by
   simp only [uG] at h
   split at h
   · rename_i r yR hr;obtain ⟨g1, g2, g3, g4⟩ := Gl (ρ := ρ) hr;cases o with
     | none =>
       simp only [Option.some.injEq, Prod.mk.injEq] at h;obtain ⟨rfl, rfl⟩ := h;refine ⟨by simp [g1], g2, fun j l' hj => ?_, fun T hT x => ?_⟩
       · cases j with
         | zero => exact .inr ⟨fun k => by simp, by simpa using hj⟩
         | succ j => simpa using g3 j l' (by simpa using hj)
       · have := g4 (fun j => T (j + 1)) (fun j k hj hl => hT (j + 1) k (by simpa using hj) (by simpa using hl)) x;simp only [List.length_cons];rw [wN, wN];simp only [List.getElem?_cons_succ, List.getElem?_cons_zero] at this ⊢;omega
     | some k =>
       simp only at h
       split at h
       · rename_i E xs hk;simp only [Option.some.injEq, Prod.mk.injEq] at h;obtain ⟨rfl, rfl⟩ := h;refine ⟨by simp [g1], by simp only [gk, hk, g2, Bool.and_self], fun j l' hj => ?_, fun T hT x => ?_⟩
         · cases j with
           | zero => exact .inl ⟨k, E, xs, rfl, hk, List.mem_cons_self, by simpa using hj.symm⟩
           | succ j =>
             rcases g3 j l' (by simpa using hj) with ⟨k', E', qQ, q1, q2, q3, q4⟩ | q
             · exact .inl ⟨k', E', qQ, by simpa using q1, q2, List.mem_cons_of_mem _ q3, q4⟩
             · exact .inr (by simpa using q)
         · have := g4 (fun j => T (j + 1)) (fun j k hj hl => hT (j + 1) k (by simpa using hj) (by simpa using hl)) x;have h0 := hT 0 k rfl (by simp);simp only [List.length_cons, bN];rw [wN, wN, h0];simp only [List.getElem?_cons_succ, List.getElem?_cons_zero] at this ⊢;omega
       · cases h
   · cases h
def uH (bs : List (Nat × ak)) (k : Nat) : Option (List (Nat × ak)) :=
 match aM bs k with
 | some (.b0 E xs i fs) =>
   match uG bs fs (bQ E (aO E xs i)) with
   | some (ls, ks) =>
     match wL E ls with
     | some x => if eQ (k :: ks) = true then some (bO (fD bs (k :: ks)) k (.own E (fun _ => (xs ()).set (i ()) (x ())) false)) else none
     | none => none
   | none => none
 | some _ => some bs
 | none => none
section
variable {Γ : Ctx} {H : Hp} {ρ : aG} {σ : SS} {a : Act} {w w' : World}
theorem cK.ia {h : Array Obj} {D : Nat → Prop} {E : an} {xs : Unit → List E.α} {i : Unit → Nat} {fs : List (Option Nat)} {p : Value × (Nat → Nat)} (_ : cK h H ρ D (.b0 E xs i fs) p) (x : Nat) (hx : fV (.b0 E xs i fs) p x) : 0 < p.2 x := hx
theorem aI.Gm (r : aI Γ H ρ σ a w) {k : Nat} (hne : ∀ p ∈ Γ.hd, p.1 ≠ k) {ks : List Nat} (hn : eQ (k :: ks) = true) (hd : ∀ j ∈ k :: ks, av σ.af j) (hH : ∀ j ∈ k :: ks, ∀ x, 0 < (ρ j).2 x → H x = none) {B : ak} {p : Nat → Nat}
   (hh : ∀ x, x < w.heap.size → bN ρ (k :: ks) x = 0 → w'.heap[x]? = w.heap[x]?) (bj : Ext w w')
   (hB : ∀ ρ' : aG, (∀ j, (ρ' j).1 = (ρ j).1) → (∀ j, j ∉ k :: ks → ρ' j = ρ j) → cK w'.heap H ρ' (av σ.af) B ((ρ k).1, p)) (ta : ∀ x, fV B ((ρ k).1, p) x → 0 < p x)
   (hp : ∀ x, p x ≤ bN ρ (k :: ks) x) :
   ∃ ρ', aI Γ H ρ' { σ with af := bO (Go.Proofs.YtehpbaiclfilaaaGreat.fD σ.af (k :: ks)) k B } a w' ∧ ∀ j, (ρ' j).1 = (ρ j).1 := by
 have r1 := r.fD hd;have fM := fun y => wJ (ρ := ρ) (x := y) r.b.nd hn hd
 have mY : ∀ y, 0 < bN ρ (k :: ks) y → H y = none := fun y hy => by
   obtain ⟨j, hj, h1⟩ := yP hy;exact hH j hj y h1
 have yV : ∀ j, (cX (iW ρ (k :: ks)) k ((iW ρ (k :: ks) k).1, p) j).1 = (ρ j).1 := fun j => by
   by_cases h : j = k
   · subst h; rw [dG]; exact nY
   · rw [dg h, nY]
 have Nc : av (bO (Go.Proofs.YtehpbaiclfilaaaGreat.fD σ.af (k :: ks)) k B) = av σ.af := by
   funext j; rw [fc, wI]
 refine ⟨_, r1.B8 (w' := w') (k := k) (B := B) (p := p) hne (wI.2 (hd k List.mem_cons_self)) (fun y => Gj (.inl List.mem_cons_self))
     (fun y aL hy => hh y aL ?_) bj ?_ (by rw [nY]; exact ta) (fun y hy => ?_) (fun y => ?_), yV⟩
 · have h2 := fM y;have h3 := r.b.sum y;rcases Nat.eq_zero_or_pos (bN ρ (k :: ks) y) with h | h
   · exact h
   · rcases hy with hy | hy
     · simp only at hy; omega
     · exact (hy (mY y h)).elim
 · rw [Nc, nY];refine hB _ (by rw [← nY (ks := k :: ks) (ρ := ρ) (k := k)]; exact yV) fun j hj => ?_;rw [dg (by rintro rfl; exact hj List.mem_cons_self), F9 hj]
 · have h1 := hp y;have h2 := fM y;have h3 := r.b.sum y;exact ⟨mY y (by omega), by simp only; omega⟩
 · have h1 := hp y;have h2 := fM y;have h3 := r.b.sum y;omega
theorem Gn (r : aI Γ H ρ σ a w) {ks : List Nat} (hu : gk σ.af ks = true) : (∀ j ∈ ks, av σ.af j) ∧ ∀ j ∈ ks, ∀ x, 0 < (ρ j).2 x → H x = none :=
 ⟨fun j hj => by obtain ⟨E, xs, hg⟩ := nZ hu j hj; exact fB hg, fun j hj x hx => by obtain ⟨E, xs, hg⟩ := nZ hu j hj; exact r.b.ia j _ (de hg) x hx⟩
theorem B_ (ρ : aG) (k : Nat) (ks : List Nat) (x : Nat) : bN ρ (k :: ks) x = (ρ k).2 x + bN ρ ks x := rfl
theorem aI.close (bK : Γ.hd = []) (r : aI Γ H ρ σ a w) {k : Nat} {bs : List (Nat × ak)} (h : uH σ.af k = some bs) : ∃ ρ', aI Γ H ρ' { σ with af := bs } a w ∧ ∀ j, (ρ' j).1 = (ρ j).1 := by
 unfold uH at h
 split at h
 · rename_i E xs i fs hk
   split at h
   · rename_i ls ks gK
     split at h
     · rename_i x hx
       split at h
       · rename_i hn;cases h;obtain ⟨g1, g2, g3, g4⟩ := Gl (ρ := ρ) gK;rw [iu] at g4;obtain ⟨iv, qR⟩ := Gn r g2;have pV := r.b.af k _ (de hk);obtain ⟨b, o, c, cs, e, fz, S, h1, h2, h3, h4, h5, h6, h7, h8, h9⟩ := pV
         have oe : (xs ())[i ()]? = some (aO E xs i ()) := by
           simp only [aO, List.getD_eq_getElem?_getD, List.getElem?_eq_getElem h8, Option.getD_some]
         have oh : bQ E x = ls := B0 hx fun t ht => by
           have bw : ls[0]? = some (.int .u8 t) := by rw [ht]; rfl
           rcases g3 0 _ bw with ⟨_, _, _, _, _, _, q⟩ | ⟨q1, q2⟩
           · cases q
           · have iS := h9 (i ()) _ oe 0 _ q2
             have : filled fs (i ()) (i ()) 0 = none := by
               unfold filled; rw [if_pos rfl]; split
               · rename_i k' bD; exact (q1 k' bD).elim
               · rfl
             rw [this] at iS
             have hint : ∀ (v : Value) (T : Nat → Nat), bn w.heap (.int .u8 t) v T → IntKind.u8.has (t ()) := fun v T h => by
               cases h with
               | int hr => exact hr
             exact hint _ _ iS
         have Gp : ∀ (j : Nat) k', fs[j]? = some (some k') → j < E.sz → cs.getD (o + (i () * E.sz + j)) Go.undef = (ρ k').1 ∧ S (i ()) j = fun _ => 0 := fun j k' hj hl => by
           obtain ⟨l, jR⟩ : ∃ l, (bQ E fun _ => aO E xs i ())[j]? = some l := ⟨_, List.getElem?_eq_getElem (by rw [iu]; exact hl)⟩;have := h9 (i ()) _ oe j l jR;have hf : filled fs (i ()) (i ()) j = some k' := by unfold filled; rw [if_pos rfl, hj]
           rw [hf] at this;exact this.2
         let S' : Nat → Nat → Nat → Nat := fun q j => if q = i () then (match fs[j]? with | some (some k) => (ρ k).2 | _ => S q j) else S q j
         have fM : ∀ y, cg (xs ()).length E.sz S' y = cg (xs ()).length E.sz S y + bN ρ ks y := fun y => by
           have q1 := Gk (sz := E.sz) (S := S) (T := fun j => match fs[j]? with | some (some k) => (ρ k).2 | _ => S (i ()) j) (x := y) h8;have q2 := g4 (S (i ())) (fun j k' hj hl => (Gp j k' hj hl).2) y
           have q3 : S' = fun q => if q = i () then (fun j => match fs[j]? with | some (some k) => (ρ k).2 | _ => S (i ()) j) else S q := by
             funext q j
             simp only [S']
             by_cases hq : q = i ()
             · subst hq; simp only [if_true]
             · simp only [if_neg hq]
           rw [q3];omega
         have cB : bH w.heap E ((xs ()).set (i ()) (x ())) (fun q => cs.getD (o + q) Go.undef) S' := fun q y hy j l hj => by
           rw [List.getElem?_set] at hy
           by_cases hq : i () = q
           · rw [if_pos hq, if_pos (by omega)] at hy;cases hy;have cL : (bQ E x)[j]? = some l := hj;rw [oh] at cL;subst hq;simp only [S', if_true];rcases g3 j l cL with ⟨k', E', qQ, q1, q2, q3, rfl⟩ | ⟨q1, q2⟩
             · have gA : j < E.sz := nX hj;rw [q1, (Gp j k' q1 gA).1];exact r.b.af k' _ (de q2)
             · have iS := h9 (i ()) _ oe j l q2
               have hf : filled fs (i ()) (i ()) j = none := by
                unfold filled; rw [if_pos rfl]; split
                · rename_i k' bD; exact (q1 k' bD).elim
                · rfl
               rw [hf] at iS
               split
               · rename_i k' bD; exact (q1 k' bD).elim
               · exact iS
           · rw [if_neg hq] at hy;have iS := h9 q y hy j l hj;have hf : filled fs (i ()) q j = none := by unfold filled; rw [if_neg (Ne.symm hq)]
             rw [hf] at iS;simp only [S', if_neg (Ne.symm hq)];exact iS
         have cU := cB.own (b := b) (off := o) (c := c) h3 h4 (by rw [List.length_set]; exact h5) (by rw [List.length_set]; exact h6) h7;rw [List.length_set] at cU;refine r.Gm (fun p hp => by rw [bK] at hp; cases hp) (p := bT b (xs ()).length E.sz S') hn (fun j hj => ?_) (fun j hj y hy => ?_) (fun _ _ _ => rfl) (Ext.refl _) (fun ρ' jx _ => ?_) (fun y hy => hy) fun y => ?_
         · rcases List.mem_cons.1 hj with rfl | hj
           · exact fB hk
           · exact iv j hj
         · rcases List.mem_cons.1 hj with rfl | hj
           · exact r.b.ia _ _ (de hk) y hy
           · exact qR j hj y hy
         · show bn w.heap _ (ρ k).1 _;rw [h1]; exact cU
         · have := fM y;rw [B_, h2];simp only [bT];simp only [cg] at this;omega
       · cases h
     · cases h
   · cases h
 · cases h;exact ⟨ρ, r, fun _ => rfl⟩
 · cases h
theorem aI.Nd (bK : Γ.hd = []) (r : aI Γ H ρ σ a w) {k kk : Nat} {E E' : an} {xs : Unit → List E.α} {ys : Unit → List E'.α} {i : Unit → Nat} {fs : List (Option Nat)} (hk : aM σ.af k = some (.b0 E xs i fs)) (jS : aM σ.af kk = none) {j : Nat}
   (hj : (bQ E (aO E xs i))[j]? = some (.list E' ys)) (hf : fs[j]? = some none) :
   ∃ ρ', aI Γ H ρ' { σ with af := bO (dx (bO σ.af k .dead) kk (.own E' ys false)) k (.b0 E xs i (fs.set j (some kk))) } a w ∧ (∀ q, av σ.af q → (ρ' q).1 = (ρ q).1) ∧
    ∃ b o n c cs e fz, (ρ k).1 = .slice (some ⟨b, o, none⟩) n c ∧ w.heap[b]? = some (.cells cs e fz) ∧ (ρ' kk).1 = cs.getD (o + (i () * E.sz + j)) Go.undef := by
 have gA : j < E.sz := by have := bq hj; rwa [iu] at this
 have Nf : j < fs.length := bq hf;have pV := r.b.af k _ (de hk);obtain ⟨b, o, c, cs, e, fz, S, h1, h2, h3, h4, h5, h6, h7, h8, h9⟩ := pV
 have oe : (xs ())[i ()]? = some (aO E xs i ()) := by
   simp only [aO, List.getD_eq_getElem?_getD, List.getElem?_eq_getElem h8, Option.getD_some]
 have cU := h9 (i ()) _ oe j _ hj;have Ca : filled fs (i ()) (i ()) j = none := by unfold filled; rw [if_pos rfl, hf]
 rw [Ca] at cU;simp only at cU
 let S' : Nat → Nat → Nat → Nat := fun q m => if q = i () ∧ m = j then (fun _ => 0) else S q m
 have hS : ∀ y, bT b (xs ()).length E.sz S y = bT b (xs ()).length E.sz S' y + S (i ()) j y := fun y => by
   have := Nb (S := S) (T := fun _ => 0) (x := y) h8 gA;simp only [cg] at this;simp only [bT, S'];omega
 have gL : av σ.af k := fB hk;have hne : kk ≠ k := fun he => jw jS (he ▸ gL);have iO : ∀ y, bN ρ [k] y = bT b (xs ()).length E.sz S y := fun y => by simp [bN, h2]
 have mY : ∀ y, 0 < bT b (xs ()).length E.sz S y → H y = none := fun y hy => r.b.ia k _ (de hk) y (by show 0 < (ρ k).2 y; rw [h2]; exact hy);have gB := fun y => wJ (ρ := ρ) (ks := [k]) (x := y) r.b.nd rfl (fun j hj => by simp at hj; subst hj; exact gL);have r1 := r.kill gL
 let ρ1 : aG := cX ρ k ((ρ k).1, fun _ => 0)
 have Cb : ∀ y, aS ρ1 (bO σ.af k .dead) y + bT b (xs ()).length E.sz S y = aS ρ σ.af y := fun y => by have := gB y; rw [iO y] at this; exact this
 have ew : (cs.getD (o + (i () * E.sz + j)) Go.undef).oneCell' = true := cU.one
 have r2 := r1.s6 (w' := w) (k := kk) (B := .own E' ys false) (p := (cs.getD (o + (i () * E.sz + j)) Go.undef, S (i ()) j)) (F_ jS) (fun _ _ _ => rfl) (fun _ _ => rfl) (Ext.refl _) ew
   (fun y hy => by
    have q1 := hS y;have q2 := Cb y;have q3 := r.b.sum y;exact ⟨mY y (by simp only at hy; omega), by show aS ρ1 (bO σ.af k .dead) y = 0; simp only at hy; omega⟩)
   (fun y => by
    have q1 := hS y;have q2 := Cb y;have q3 := r.b.sum y;simp only; omega) cU (by simp)
 let ρ2 : aG := cX ρ1 kk (cs.getD (o + (i () * E.sz + j)) Go.undef, S (i ()) j)
 have e2 : ∀ q, q ≠ kk → ρ2 q = ρ1 q := fun q hq => dg hq
 have e1 : ∀ q, (ρ1 q).1 = (ρ q).1 := fun q => by
   by_cases h : q = k
   · subst h; simp only [ρ1]; rw [dG]
   · simp only [ρ1]; rw [dg h]
 have tg : (ρ2 k) = ((ρ k).1, fun _ => 0) := by rw [e2 k (Ne.symm hne)]; exact dG _ _ _
 have Gq : ∀ y, aS ρ2 (dx (bO σ.af k .dead) kk (.own E' ys false)) y + bT b (xs ()).length E.sz S' y = aS ρ σ.af y := fun y => by
   have q1 := hS y;have q2 := Cb y;rw [yr, v7 (ρ := ρ1) (ρ' := ρ2) fun q hq => e2 q fun he => jw jS (by rw [← he]; exact fc.1 hq)];have : (ρ2 kk).2 y = S (i ()) j y := by simp only [ρ2]; rw [dG]
   omega
 have uI : av (dx (bO σ.af k .dead) kk (.own E' ys false)) k := gh.2 (.inr (fc.2 gL))
 have e3 : ∀ q, (cX ρ2 k ((ρ2 k).1, bT b (xs ()).length E.sz S') q).1 = (ρ2 q).1 := fun q => by
   by_cases h : q = k
   · subst h; rw [dG]
   · rw [dg h]
 have r3 := aI.B8 (w' := w) r2 (k := k) (hne := fun p hp => by rw [bK] at hp; cases hp) (B := .b0 E xs i (fs.set j (some kk))) (p := bT b (xs ()).length E.sz S') uI (fun y => by
    show (ρ2 k).2 y = 0;rw [tg]) (fun _ _ _ => rfl) (Ext.refl _)
   (by
    refine ⟨b, o, c, cs, e, fz, S', ?_, rfl, h3, h4, h5, h6, h7, h8, fun q x hx m l hm => ?_⟩
    · show (ρ2 k).1 = _;rw [tg]; exact h1
    · rw [M9 Nf]
      by_cases hq : q = i () ∧ m = j
      · rw [if_pos hq];obtain ⟨rfl, rfl⟩ := hq;refine ⟨fc.2 (gh.2 (.inl rfl)), ?_, by simp [S']⟩;show _ = (cX ρ2 k ((ρ2 k).1, bT b (xs ()).length E.sz S') kk).1;rw [e3];simp only [ρ2]; rw [dG]
      · rw [if_neg hq];have bw := h9 q x hx m l hm;have Ng : S' q m = S q m := by simp only [S', if_neg hq]
        rw [Ng]
        split at bw
        · obtain ⟨g1, g2, g3⟩ := bw;have Nh : ∀ k', k' = kk → ¬ av σ.af k' := fun k' he hd => jw jS (he ▸ hd);refine ⟨fc.2 (gh.2 (.inr (fc.2 g1))), ?_, g3⟩;show _ = (cX ρ2 k ((ρ2 k).1, bT b (xs ()).length E.sz S') _).1;rw [e3, e2 _ fun he => Nh _ he g1, e1]; exact g2
        · exact bw)
   (fun y hy => hy)
   (fun y hy => by
    have q1 := Gq y;have q2 := r.b.sum y;have q3 := hS y;refine ⟨mY y (by omega), ?_⟩;show aS ρ2 (dx (bO σ.af k .dead) kk (.own E' ys false)) y = 0;omega)
   (fun y => by
    have q1 := Gq y;have q2 := r.b.sum y;omega)
 refine ⟨_, r3, fun q hq => ?_, b, o, _, c, cs, e, fz, h1, h3, ?_⟩
 · show (cX ρ2 k ((ρ2 k).1, bT b (xs ()).length E.sz S') q).1 = _;rw [e3, e2 q fun he => jw jS (he ▸ hq), e1]
 · show (cX ρ2 k ((ρ2 k).1, bT b (xs ()).length E.sz S') kk).1 = _;rw [e3];simp only [ρ2]; rw [dG]
end
def qS (ls : List Lf) (off : Nat) (new : List Lf) : List Lf := ls.take off ++ (new ++ ls.drop (off + new.length))
theorem Gr {ls new : List Lf} {off j : Nat} (h : off + new.length ≤ ls.length) : (qS ls off new)[j]? = if off ≤ j ∧ j < off + new.length then new[j - off]? else ls[j]? := by
 unfold qS;rcases Nat.lt_or_ge j off with h1 | h1
 · rw [List.getElem?_append_left (by rw [List.length_take]; omega), List.getElem?_take, if_pos h1, if_neg (by omega)]
 · rw [List.getElem?_append_right (by rw [List.length_take]; omega), List.length_take, Nat.min_eq_left (by omega)];rcases Nat.lt_or_ge j (off + new.length) with h2 | h2
   · rw [List.getElem?_append_left (by omega), if_pos ⟨h1, h2⟩]
   · rw [List.getElem?_append_right (by omega), if_neg (by omega), List.getElem?_drop]
     congr 1; omega
def l7 : List (Option Nat) → Nat → Nat → List (Option Nat)
 | [], _, _ => []
 | o :: fs, 0, 0 => o :: fs
 | _ :: fs, 0, n + 1 => none :: l7 fs 0 n
 | o :: fs, off + 1, n => o :: l7 fs off n
theorem Cc : ∀ {fs : List (Option Nat)} {off n j : Nat}, (l7 fs off n)[j]? = if off ≤ j ∧ j < off + n then (fs[j]?).map fun _ => none else fs[j]?
 | [], off, n, j => by simp [l7]
 | o :: fs, 0, 0, j => by
   have : ¬ (0 ≤ j ∧ j < 0 + 0) := by omega
   simp only [l7, if_neg this]
 | o :: fs, 0, n + 1, 0 => by simp [l7]
 | o :: fs, 0, n + 1, j + 1 => by
   simp only [l7, List.getElem?_cons_succ];rw [Cc];have : (0 ≤ j ∧ j < 0 + n) ↔ (0 ≤ j + 1 ∧ j + 1 < 0 + (n + 1)) := by omega
   simp only [this]
 | o :: fs, off + 1, n, 0 => by
   simp [l7]
 | o :: fs, off + 1, n, j + 1 => by
   simp only [l7, List.getElem?_cons_succ];rw [Cc];have : (off ≤ j ∧ j < off + n) ↔ (off + 1 ≤ j + 1 ∧ j + 1 < off + 1 + n) := by omega
   simp only [this]
theorem Ni {fs : List (Option Nat)} {off n i q j : Nat} : filled (l7 fs off n) i q j = if off ≤ j ∧ j < off + n then none else filled fs i q j := by
 unfold filled;rw [Cc]
 by_cases h : off ≤ j ∧ j < off + n
 · simp only [if_pos h]
   split
   · cases fs[j]? <;> rfl
   · rfl
 · simp only [if_neg h]
theorem Nj {n : Nat} {f g : Nat → Nat} : bY n (fun j => f j + g j) = bY n f + bY n g := by
 induction n with
 | zero => rfl
 | succ n ih => simp only [bY, ih]; omega
theorem Nk {off n sz : Nat} {f g : Nat → Nat} (h : off + n ≤ sz) : bY sz (fun j => if off ≤ j ∧ j < off + n then f (j - off) else g j) ≤ bY sz g + bY n f := by
 have h1 : bY sz (fun j => if off ≤ j ∧ j < off + n then f (j - off) else g j) ≤ bY sz fun j => g j + (if off ≤ j ∧ j < off + n then f (j - off) else 0) :=
  L7 fun j hj => by split <;> omega
 have h2 : bY sz (fun j => if off ≤ j ∧ j < off + n then f (j - off) else 0) = bY n f := by
  obtain ⟨m, rfl⟩ : ∃ m, sz = off + (n + m) := ⟨sz - off - n, by omega⟩;rw [wH, l3 (n := off) (fun i hi => by rw [if_neg (by omega)]), wH, l3 (n := m) (fun i hi => by rw [if_neg (by omega)]), Nat.zero_add, Nat.add_zero];exact vX fun i hi => by rw [if_pos (by omega), Nat.add_sub_cancel_left]
 rw [Nj, h2] at h1;exact h1
def uJ (E : an) (xs : Unit → List E.α) (i : Unit → Nat) (fs : List (Option Nat)) : ak := if fs.all Option.isNone = true then .own E xs false else .b0 E xs i fs
theorem Nl {h : Array Obj} {H : Hp} {ρ : aG} {D : Nat → Prop} {E : an} {xs : Unit → List E.α} {i : Unit → Nat} {fs : List (Option Nat)} {p : Value × (Nat → Nat)} (hr : cK h H ρ D (.b0 E xs i fs) p) : cK h H ρ D (uJ E xs i fs) p := by
 unfold uJ
 split
 · rename_i hf; exact Na hr hf false
 · exact hr
theorem Nm {E : an} {xs : Unit → List E.α} {i : Unit → Nat} {fs : List (Option Nat)} {p : Value × (Nat → Nat)} {x : Nat} (h : fV (uJ E xs i fs) p x) : 0 < p.2 x := by
 unfold uJ at h
 split at h <;> exact h
section
variable {Γ : Ctx} {H : Hp} {ρ : aG} {σ : SS} {a : Act} {w w' : World}
theorem aI.Nn {P : Program} (r : aI Γ H ρ σ a w) {k : Nat} (hne : ∀ p ∈ Γ.hd, p.1 ≠ k) {ks : List Nat} (hn : eQ (k :: ks) = true) {E : an} {xs : Unit → List E.α} {i : Unit → Nat} {fs : List (Option Nat)} (iv : av σ.af k)
   (hB : cK w.heap H ρ (av σ.af) (.b0 E xs i fs) (ρ k)) (qR : ∀ x, 0 < (ρ k).2 x → H x = none) (hu : gk σ.af ks = true) {b o n c : Nat} (hv : (ρ k).1 = .slice (some ⟨b, o, none⟩) n c) {off : Nat} {us : List Value} {new : List Lf}
   (BK : us.length = new.length) (eK : off + new.length ≤ E.sz) {T : Nat → Nat → Nat} (cU : ∀ (j : Nat) l, new[j]? = some l → bn w.heap l (us.getD j Go.undef) (T j)) (hT : ∀ y, bY new.length (fun j => T j y) = bN ρ ks y)
   {x : Unit → E.α} (hx : bQ E x = qS (bQ E (aO E xs i)) off new) :
   ∃ w', (storeCells ⟨b, o + i () * E.sz + off, none⟩ us).run P w = .ok () w' ∧ (∀ y, (ρ k).2 y = 0 → w'.heap[y]? = w.heap[y]?) ∧
     ∃ ρ', aI Γ H ρ' { σ with af := bO (Go.Proofs.YtehpbaiclfilaaaGreat.fD σ.af (k :: ks)) k (uJ E (fun _ => (xs ()).set (i ()) (x ())) i (l7 fs off new.length)) } a w' := by
 obtain ⟨b', o', c', vs, e, fz, S, h1, h2, h3, h4, h5, h6, h7, h8, h9⟩ := hB;rw [hv] at h1;simp only [Value.slice.injEq, Option.some.injEq, Addr.mk.injEq, and_true] at h1;obtain ⟨⟨rfl, rfl⟩, rfl, rfl⟩ := h1;obtain ⟨No, Np⟩ := Gn r hu;have hd : ∀ j ∈ k :: ks, av σ.af j := fun j hj => by rcases List.mem_cons.1 hj with rfl | hj; exact iv; exact No j hj
 have hle : ∀ y, (ρ k).2 y + bN ρ ks y ≤ 1 := fun y => by
   have h1 := l5 (ρ := ρ) (k :: ks) hn hd y;have h2 := r.b.sum y;simp only [bN] at h1;omega
 have oe : (xs ())[i ()]? = some (aO E xs i ()) := by
   simp only [aO, List.getD_eq_getElem?_getD, List.getElem?_eq_getElem h8, Option.getD_some]
 have dU : i () * E.sz + E.sz ≤ (xs ()).length * E.sz := by
   have := Nat.mul_le_mul_right E.sz (show i () + 1 ≤ (xs ()).length from h8)
   rwa [Nat.add_mul, Nat.one_mul] at this
 have n_ := Nat.mul_le_mul_right E.sz h5
 have ew : ∀ u ∈ us, u.oneCell' = true := fun u Cd => by
   obtain ⟨q, hq, rfl⟩ := List.getElem_of_mem Cd;obtain ⟨l, hl⟩ : ∃ l, new[q]? = some l := ⟨_, List.getElem?_eq_getElem (by omega)⟩;have := (cU q l hl).one
   rwa [List.getD_eq_getElem?_getD, List.getElem?_eq_getElem hq] at this
 obtain ⟨w', g1, g2, g3, g4⟩ := qJ (P := P) us w b (o + i () * E.sz + off) 0 vs e fz h3 h4 (by omega) ew;rw [Nat.add_zero] at g2
 let S' : Nat → Nat → Nat → Nat := fun q j => if q = i () then (if off ≤ j ∧ j < off + new.length then T (j - off) else S q j) else S q j
 have Gs : ∀ y, cg (xs ()).length E.sz S' y ≤ cg (xs ()).length E.sz S y + bN ρ ks y := fun y => by
   have q1 := Gk (sz := E.sz) (S := S) (T := fun j => if off ≤ j ∧ j < off + new.length then T (j - off) else S (i ()) j) (x := y) h8;have q2 := Nk (f := fun j => T j y) (g := fun j => S (i ()) j y) eK
   have q3 : S' = fun q => if q = i () then (fun j => if off ≤ j ∧ j < off + new.length then T (j - off) else S (i ()) j) else S q := by
     funext q j
     simp only [S']
     by_cases hq : q = i ()
     · subst hq; simp only [if_true]
     · simp only [if_neg hq]
   have q4 : (bY E.sz fun j => (fun j => if off ≤ j ∧ j < off + new.length then T (j - off) else S (i ()) j) j y) = bY E.sz fun j => if off ≤ j ∧ j < off + new.length then T (j - off) y else S (i ()) j y :=
     vX fun j _ => by show (if _ then _ else _ : Nat → Nat) y = _; split <;> rfl
   rw [← q3, q4] at q1;rw [hT y] at q2;omega
 have jA : ∀ y, (ρ k).2 y = (if y = b then 1 else 0) + cg (xs ()).length E.sz S y := fun y => by rw [h2]; rfl
 have U6 : cg (xs ()).length E.sz S b = 0 ∧ bN ρ ks b = 0 := by
   have h1 := hle b;have h2 := jA b;rw [if_pos rfl] at h2;omega
 have Ce : ∀ q y, (xs ())[q]? = some y ∨ q = i () → ∀ j, j < E.sz → ∀ z, 0 < S' q j z → z ≠ b := fun q y hy j hj z hz Nq => by
   subst Nq;have hq : q < (xs ()).length := by rcases hy with hy | rfl; exact bq hy; exact h8
   have := F8 (S := S') (x := z) hq hj;have := Gs z;omega
 have cT : ∀ q, o + q < vs.size → ¬ (i () * E.sz + off ≤ q ∧ q < i () * E.sz + off + new.length) → (dF vs (o + i () * E.sz + off) us).getD (o + q) Go.undef = vs.getD (o + q) Go.undef := fun q hq hc => by
   rw [jh _ _ _ _ (by omega), if_neg (by omega)]
 have Nr : ∀ j, j < new.length → (dF vs (o + i () * E.sz + off) us).getD (o + (i () * E.sz + (off + j))) Go.undef = us.getD j Go.undef := fun j hj => by
   rw [jh _ _ _ _ (by omega), if_pos (by omega)]
   congr 1; omega
 refine ⟨w', g1, (fun y hy => g3 y fun he => by have := jA y; rw [if_pos he] at this; omega), Exists.imp (fun _ h => And.left h) (r.Gm hne (p := bT b (xs ()).length E.sz S') hn hd (fun j hj y hy => by rcases List.mem_cons.1 hj with rfl | hj; exact qR y hy; exact Np j hj y hy) (fun y _ hy => g3 y fun he => ?_) g4 (fun ρ' jx U7 => Nl ?_) (fun y hy => Nm hy) fun y => ?_)⟩
 · subst he;have := jA y;rw [if_pos rfl] at this;rw [B_] at hy;omega
 · refine ⟨b, o, c, dF vs (o + i () * E.sz + off) us, e, fz, S', by rw [List.length_set]; exact hv, by rw [List.length_set], g2, by rcases h4 with h | h; exact .inl h; exact .inr (by rw [eB]; exact h), by rw [List.length_set]; exact h5,
     by rw [List.length_set]; exact h6, by rw [eB]; exact h7, by rw [List.length_set]; exact h8, fun q y hy j l hj => ?_⟩
   have gA := nX hj;rw [List.getElem?_set] at hy
   by_cases hq : i () = q
   · rw [if_pos hq, if_pos h8] at hy;cases hy;subst hq;have cL : (bQ E x)[j]? = some l := hj;rw [hx, Gr (by rw [iu]; exact eK)] at cL;rw [Ni];simp only [S', if_true]
     by_cases hr : off ≤ j ∧ j < off + new.length
     · rw [if_pos hr] at cL ⊢;rw [if_pos hr];have q1 := Nr (j - off) (by omega);rw [show off + (j - off) = j by omega] at q1;show bn w'.heap l ((dF vs (o + i () * E.sz + off) us).getD (o + (i () * E.sz + j)) Go.undef) (T (j - off));rw [q1];refine (cU _ _ cL).mono fun z hz => g3 z ?_;exact Ce (i ()) (aO E xs i ()) (.inr rfl) j gA z (by simp only [S', if_true, if_pos hr]; exact hz)
     · rw [if_neg hr] at cL ⊢;rw [if_neg hr];have bw := h9 (i ()) _ oe j l cL;have q1 := cT (i () * E.sz + j) (by omega) (by omega);simp only [q1]
       split at bw
       · obtain ⟨f1, f2, f3⟩ := bw;exact ⟨f1, by rw [jx]; exact f2, f3⟩
       · refine bw.mono fun z hz => g3 z (Ce (i ()) (aO E xs i ()) (.inr rfl) j gA z (by simp only [S', if_true, if_neg hr]; exact hz))
   · rw [if_neg hq] at hy;have bw := h9 q y hy j l hj;have hf : ∀ qT : List (Option Nat), filled qT (i ()) q j = none := fun qT => by unfold filled; rw [if_neg (Ne.symm hq)]
     rw [hf] at bw ⊢;simp only [S', if_neg (Ne.symm hq)];have U8 : q * E.sz + j < (xs ()).length * E.sz := qM (bq hy) gA
     have q1 := cT (q * E.sz + j) (by omega) (fun hc => by
       rcases Nat.lt_or_gt_of_ne hq with h1 | h1
       · have := Nat.mul_le_mul_right E.sz (show i () + 1 ≤ q from h1);rw [Nat.add_mul] at this;omega
       · have := Nat.mul_le_mul_right E.sz (show q + 1 ≤ i () from h1);rw [Nat.add_mul] at this;omega)
     show bn w'.heap l ((dF vs (o + i () * E.sz + off) us).getD (o + (q * E.sz + j)) Go.undef) (S q j);rw [q1];exact bw.mono fun z hz => g3 z (Ce q y (.inl hy) j gA z (by simp only [S', if_neg (Ne.symm hq)]; exact hz))
 · have := Gs y;have := jA y;rw [B_];simp only [bT];simp only [cg] at *;omega
end
def wP (E : an) (xs : Unit → List E.α) (i : Unit → Nat) (k : Nat) : List (Nat × Nat) → List (Option Nat) → List (Nat × ak) → Option (List (Nat × ak))
 | [], _, bs => some bs
 | (j, kk) :: r, fs, bs =>
   match (bQ E (aO E xs i))[j]?, fs[j]?, aM bs kk with
   | some (.list E' ys), some none, none => wP E xs i k r (fs.set j (some kk)) (bO (dx (bO bs k .dead) kk (.own E' ys false)) k (.b0 E xs i (fs.set j (some kk))))
   | _, _, _ => none
def uK : List Lf → Nat → Nat → List (Nat × Nat)
 | [], _, _ => []
 | .list _ _ :: ls, j, kk => (j, kk) :: uK ls (j + 1) (kk + 1)
 | _ :: ls, j, kk => uK ls (j + 1) kk
def m0 : List Lf → Nat → List C
 | [], _ => []
 | .list _ _ :: ls, kk => .own kk :: m0 ls (kk + 1)
 | l :: ls, kk => .lf l :: m0 ls kk
theorem Cf : ∀ {ls : List Lf} {kk : Nat}, (m0 ls kk).length = ls.length
 | [], _ => rfl
 | l :: ls, kk => by cases l <;> simp [m0, Cf (ls := ls)]
theorem Gt : ∀ {ls : List Lf} {j kk m : Nat} {c : C}, (m0 ls kk)[m]? = some c → ∃ l, ls[m]? = some l ∧ ((l.sc = true ∧ c = .lf l) ∨ ∃ q, c = .own q ∧ (j + m, q) ∈ uK ls j kk)
 | [], j, kk, m, c, h => by simp [m0] at h
 | l :: ls, j, kk, 0, c, h => by
   cases l <;> simp [m0] at h <;> subst h <;> refine ⟨_, rfl, ?_⟩
   · exact .inl ⟨rfl, rfl⟩
   · exact .inl ⟨rfl, rfl⟩
   · exact .inl ⟨rfl, rfl⟩
   · exact .inr ⟨kk, rfl, by simp [uK]⟩
 | l :: ls, j, kk, m + 1, c, h => by
   cases l
   all_goals
    simp only [m0, List.getElem?_cons_succ] at h;obtain ⟨l', h1, h2⟩ := Gt (j := j + 1) h;refine ⟨l', by simpa using h1, ?_⟩;rcases h2 with h2 | ⟨q, h2, h3⟩
    · exact .inl h2
    · refine .inr ⟨q, h2, ?_⟩;simp only [uK];rw [show j + (m + 1) = j + 1 + m by omega]
      first | exact List.mem_cons_of_mem _ h3 | exact h3
def yW (bs : List (Nat × ak)) (k : Nat) (E : an) : Option ((Unit → List E.α) × Option (Unit → Nat) × List (Option Nat)) :=
 match aM bs k with
 | some (.own E' xs false) => (match qO E E' xs with | some ys => some (ys, none, List.replicate E.sz none) | none => none)
 | some (.b0 E' xs i fs) => (match qO E E' xs with | some ys => some (ys, some i, fs) | none => none)
 | _ => none
def Gu (tab : bf) (T : TypeId) (cs : List C) : V :=
 match cS tab T with
 | some (.st _ _ _ _) => .agg cs
 | some _ => (match cs with | [c] => .c c | _ => .c .undef)
 | none => .c .undef
def Cg (tab : bf) (σ : SS) (K : SS → Prop) (T : TypeId) (d k : Nat) (E : an) (i : Unit → Nat) (off : Nat) : Prop :=
 match uH σ.af k with
 | some bs =>
   match yW bs k E, pM tab T with
   | some (xs, none, _), some n =>
     if off + n ≤ E.sz then
      match wP E xs i k (uK (((bQ E (aO E xs i)).drop off).take n) off (8 * d)) (List.replicate E.sz none) (bO bs k (.b0 E xs i (List.replicate E.sz none))) with
      | some cd => K (({ σ with af := cd } : SS).put (some d) (Gu tab T (m0 (((bQ E (aO E xs i)).drop off).take n) (8 * d))))
      | none => False
     else False
   | _, _ => False
 | none => False
inductive Sv (E : an) (t : Unit → List E.α) (K : (Unit → List E.α) → Prop) : Prop where
 | mk (u : Unit → List E.α) (h : t () = u ()) (hk : K u)
theorem Sv.fj {E : an} {t : Unit → List E.α} {K : (Unit → List E.α) → Prop} (hk : K t) : Sv E t K := ⟨t, rfl, hk⟩
def yX (σ : SS) (K : SS → Prop) (k : Nat) (E : an) (xs : Unit → List E.α) (i : Unit → Nat) (fs : List (Option Nat)) (off n : Nat) (ls : List Lf) (ks : List Nat) : Prop :=
 match wL E (qS (bQ E (aO E xs i)) off ls) with
 | some x => if ls.length = n ∧ off + n ≤ E.sz ∧ eQ (k :: ks) = true then Sv E (fun _ => (xs ()).set (i ()) (x ())) fun ys => K { σ with af := bO (fD σ.af (k :: ks)) k (uJ E ys i (l7 fs off ls.length)) } else False
 | none => False
def Ch (tab : bf) (σ : SS) (K : SS → Prop) (T : TypeId) (k : Nat) (E : an) (i : Unit → Nat) (off : Nat) (v : V) : Prop :=
 match yW σ.af k E, pM tab T, nS v with
 | some (xs, oi, fs), some n, some cs =>
   match pS σ.af (((nO E).drop off).take n) cs with
   | some (ls, ks) =>
     match oi with
     | none => yX σ K k E xs i fs off n ls ks
     | some i' => Ob (fun _ => i () = i' ()) fun _ => yX σ K k E xs i' fs off n ls ks
   | none => False
 | _, _, _ => False
section
variable {P : Program} {tab : bf} (hT : fw P tab = true) {Γ : Ctx} {H : Hp}
theorem Ci {E E' : an} {t : Unit → List E'.α} {u : Unit → List E.α} (h : Lf.list E' t = Lf.list E u) {B : (E : an) → (Unit → List E.α) → Prop} (hB : B E' t) : B E u := by
 injection h with h1 h2
 subst h1;have := eq_of_heq h2;subst this;exact hB
theorem Gv {w : World} {bs : List (Nat × ak)} {ρ : aG} {D : Nat → Prop} {k : Nat} {E : an} {xs : Unit → List E.α} {oi : Option (Unit → Nat)} {fs : List (Option Nat)} (h : yW bs k E = some (xs, oi, fs))
   (hb : ∀ B, aM bs k = some B → cK w.heap H ρ D B (ρ k)) {i : Unit → Nat} {b o n c : Nat} (hv : (ρ k).1 = .slice (some ⟨b, o, none⟩) n c) (hi : i () < n) :
   cK w.heap H ρ D (.b0 E xs (oi.getD i) fs) (ρ k) ∧ n = (xs ()).length ∧ (∃ B, aM bs k = some B ∧ ∀ x, 0 < (ρ k).2 x → fV B (ρ k) x) ∧ (oi = none → fs = List.replicate E.sz none ∧ aM bs k = some (.own E xs false)) := by
 unfold yW at h
 split at h
 · rename_i E' qQ hg
   split at h
   · rename_i ys hc;simp only [Option.some.injEq, Prod.mk.injEq] at h;obtain ⟨rfl, rfl, rfl⟩ := h;have h0 := hb _ hg;have Gw := uD hc
     have hn : n = (ys ()).length ∧ cK w.heap H ρ D (.own E ys false) (ρ k) := by
      have h1 : cK w.heap H ρ D (.own E ys false) (ρ k) := Ci Gw (B := fun E u => cK w.heap H ρ D (.own E u false) (ρ k)) h0;have h2 : bn w.heap (.list E ys) (ρ k).1 (ρ k).2 := h1;obtain ⟨b', c', h3, _⟩ := bn.slice h2;rw [hv] at h3;simp only [Value.slice.injEq] at h3;exact ⟨h3.2.1, h1⟩
     obtain ⟨rfl, h1⟩ := hn
     have yY : aM bs k = some (.own E ys false) := by
      rw [hg];exact Ci Gw (B := fun E u => some (ak.own E' qQ false) = some (ak.own E u false)) rfl
     exact ⟨M_ h1 hi (by simp), rfl, ⟨_, hg, fun x hx => hx⟩, fun _ => ⟨rfl, yY⟩⟩
   · cases h
 · rename_i E' qQ i' qT hg
   split at h
   · rename_i ys hc;simp only [Option.some.injEq, Prod.mk.injEq] at h;obtain ⟨rfl, rfl, rfl⟩ := h;have h0 := hb _ hg;have h1 : cK w.heap H ρ D (.b0 E ys i' qT) (ρ k) := Ci (uD hc) (B := fun E u => cK w.heap H ρ D (.b0 E u i' qT) (ρ k)) h0
     have hn : n = (ys ()).length := by
      obtain ⟨b', o', c', _, _, _, _, h3, _⟩ := h1;rw [hv] at h3;simp only [Value.slice.injEq] at h3;exact h3.2.1
     exact ⟨h1, hn, ⟨_, hg, fun x hx => hx⟩, fun h => by cases h⟩
   · cases h
 · cases h
theorem Gx (bK : Γ.hd = []) {E : an} {xs : Unit → List E.α} {i : Unit → Nat} {k : Nat} {env : List V} {a : Act} {w : World} : ∀ {l : List (Nat × Nat)} {fs : List (Option Nat)} {bs cd : List (Nat × ak)} {ρ : aG},
   wP E xs i k l fs bs = some cd → aI Γ H ρ { env := env, af := bs } a w → aM bs k = some (.b0 E xs i fs) →
   ∃ ρ', aI Γ H ρ' { env := env, af := cd } a w ∧ (∀ q, av bs q → av cd q ∧ (ρ' q).1 = (ρ q).1) ∧
     ∀ p ∈ l, av cd p.2 ∧ ∃ b o n c cs e fz, (ρ k).1 = .slice (some ⟨b, o, none⟩) n c ∧ w.heap[b]? = some (.cells cs e fz) ∧ (ρ' p.2).1 = cs.getD (o + (i () * E.sz + p.1)) Go.undef
 | [], fs, bs, cd, ρ, h, r, hk => by
   simp only [wP, Option.some.injEq] at h;subst h;exact ⟨ρ, r, fun q hq => ⟨hq, rfl⟩, fun p hp => by cases hp⟩
 | (j, kk) :: l, fs, bs, cd, ρ, h, r, hk => by
   simp only [wP] at h
   split at h
   · rename_i E' ys hj hf jS;obtain ⟨ρ1, r1, g1, g2⟩ := aI.Nd bK r hk jS hj hf;have gL : av bs k := fB hk;have qU : aM (bO (dx (bO bs k .dead) kk (.own E' ys false)) k (.b0 E xs i (fs.set j (some kk)))) k = some (.b0 E xs i (fs.set j (some kk))) := B7 (gh.2 (.inr (fc.2 gL)));obtain ⟨ρ2, r2, g3, g4⟩ := Gx bK h r1 qU;have Gy : ∀ q, av bs q → av (bO (dx (bO bs k .dead) kk (.own E' ys false)) k (.b0 E xs i (fs.set j (some kk)))) q := fun q hq => fc.2 (gh.2 (.inr (fc.2 hq)));refine ⟨ρ2, r2, fun q hq => ⟨(g3 q (Gy q hq)).1, by rw [(g3 q (Gy q hq)).2, g1 q hq]⟩, fun p hp => ?_⟩;rcases List.mem_cons.1 hp with rfl | hp
     · have hq := g3 kk (fc.2 (gh.2 (.inl rfl)));obtain ⟨b, o, n, c, cs, e, fz, q1, q2, q3⟩ := g2;exact ⟨hq.1, b, o, n, c, cs, e, fz, q1, q2, by rw [hq.2]; exact q3⟩
     · obtain ⟨q0, b, o, n, c, cs, e, fz, q1, q2, q3⟩ := g4 p hp;exact ⟨q0, b, o, n, c, cs, e, fz, by rw [← g1 k gL]; exact q1, q2, q3⟩
   · cases h
include hT in
theorem Ns {T : TypeId} {n : Nat} (bj : pM tab T = some n) : ∃ i, P.info? T = some i ∧ i.size = n := by
 unfold pM at bj
 split at bj
 · rename_i ba; cases bj;obtain ⟨fields, _, _, i, cs, h1, h2, _⟩ := pD (cD hT ba);exact ⟨i, h1, h2⟩
 · rename_i ti hne ba; cases bj
   have sc : ∀ {t : TypeId} {z : Z}, eJ P t (.sc z) = true → ∃ i, P.info? t = some i ∧ i.size = 1 := fun {t z} h => by
    obtain ⟨_, i, v, h1, h2, _⟩ := pE h; exact ⟨i, h1, h2⟩
   have ht := cD hT ba;cases ti with
   | st n fs z q => exact (hne _ _ _ _ rfl).elim
   | sl E elem bytes => exact sc (yv ht)
   | sc z => exact sc ht
   | it k => exact sc (pF ht).2
   | bt => exact sc (sV ht).2
   | ss => exact sc (mQ ht).2
   | mp kt et => exact sc (qx ht).2.2.2
 · cases bj
section
variable {ρ : aG} {σ : SS} {a : Act} {w : World} (r : aI Γ H ρ σ a w)
include hT r
theorem Nt (bK : Γ.hd = []) {K : SS → Prop} {T : TypeId} {d k : Nat} {E : an} {i : Unit → Nat} {off : Nat} {p : Value} (h : Cg tab σ K T d k E i off) (hp : RV H ρ (av σ.af) (.c (.fq k E i off)) p) :
   ∃ ax y ρ', K ax ∧ aI Γ H ρ' ax (a.put (some d) y) w ∧ (Instr.loadAt T p).run P w = .ok y w := by
 unfold Cg at h
 split at h
 · rename_i bs fh
   split at h
   · rename_i xs fs n uL bj
     split at h
     · rename_i eK
       split at h
       · rename_i cd aX;obtain ⟨ρ1, r1, f1⟩ := aI.close bK r fh;obtain ⟨_, b, o, n', c, hv, hi, rfl⟩ := hp;have th : (ρ1 k).1 = .slice (some ⟨b, o, none⟩) n' c := by rw [f1]; exact hv
         obtain ⟨hB, rfl, ⟨B, yZ, Gz⟩, cU⟩ := Gv (i := i) uL (fun B hB => r1.b.af k B (de hB)) th hi;obtain ⟨rfl, yY⟩ := cU rfl;have hB : cK w.heap H ρ1 (av bs) (.b0 E xs i (List.replicate E.sz none)) (ρ1 k) := hB;have gL : av bs k := fB yY
         have r2 : aI Γ H ρ1 { env := σ.env, af := bO bs k (.b0 E xs i (List.replicate E.sz none)) } a w :=
           aI.wD (σ := { env := σ.env, af := bs }) r1 yY (fun _ _ => rfl) (Ext.refl _) hB (fun x hx => hx) (fun x hx => hx)
         obtain ⟨Cj, r3, g3, g4⟩ := Gx bK aX r2 (B7 gL);obtain ⟨b', o', c', cs, e, fz, S, h1, h2, h3, h4, h5, h6, h7, h8, h9⟩ := hB;rw [th] at h1;simp only [Value.slice.injEq, Option.some.injEq, Addr.mk.injEq, and_true] at h1;obtain ⟨⟨rfl, rfl⟩, _, rfl⟩ := h1
         have oe : (xs ())[i ()]? = some (aO E xs i ()) := by
           simp only [aO, List.getD_eq_getElem?_getD, List.getElem?_eq_getElem h8, Option.getD_some]
         have dU : i () * E.sz + E.sz ≤ (xs ()).length * E.sz := by
           have := Nat.mul_le_mul_right E.sz (show i () + 1 ≤ (xs ()).length from h8)
           rwa [Nat.add_mul, Nat.one_mul] at this
         have n_ := Nat.mul_le_mul_right E.sz h5
         have bS : ∀ (m : Nat) cv, (m0 (((bQ E (aO E xs i)).drop off).take n) (8 * d))[m]? = some cv → RC H Cj (av cd) cv (cs.getD (o + i () * E.sz + off + m) Go.undef) := fun m cv hm => by
           obtain ⟨l, q1, q2⟩ := Gt (j := off) hm;rw [List.getElem?_take, List.getElem?_drop] at q1
           split at q1
           · rename_i y0;rcases q2 with ⟨q2, rfl⟩ | ⟨q, rfl, q3⟩
             · have q4 := h9 (i ()) _ oe (off + m) l q1;rw [B9 (by simp)] at q4;have q5 : bn w.heap l (cs.getD (o + (i () * E.sz + (off + m))) Go.undef) (S (i ()) (off + m)) := q4;rw [show o + i () * E.sz + off + m = o + (i () * E.sz + (off + m)) by omega];exact q5.A9 q2
             · obtain ⟨q4, b2, o2, n2, c2, GA, e2, U9, q5, q6, q7⟩ := g4 _ q3;rw [th] at q5;simp only [Value.slice.injEq, Option.some.injEq, Addr.mk.injEq, and_true] at q5;obtain ⟨⟨rfl, rfl⟩, _, _⟩ := q5;rw [h3] at q6;cases q6;refine ⟨q4, ?_⟩;rw [q7, show o + i () * E.sz + off + m = o + (i () * E.sz + (off + m)) by omega]
           · cases q1
         have hlen : (((bQ E (aO E xs i)).drop off).take n).length = n := by
           rw [List.length_take, List.length_drop, iu]; omega
         unfold pM at bj;unfold Gu at h
         split at bj
         · rename_i m qT z q ba;have bj : m = n := by simpa using bj
           subst bj;rw [ba] at h;obtain ⟨dd, ii, bw, iS, BC, GB⟩ := nQ (cD hT ba);refine ⟨_, .agg ((List.range ii.size).map fun j => cs.getD (o + i () * E.sz + off + j) Go.undef).toArray, Cj, h, aI.put (v := .agg (m0 (((bQ E (aO E xs i)).drop off).take m) (8 * d))) r3 (x := .agg ((List.range ii.size).map fun j => cs.getD (o + i () * E.sz + off + j) Go.undef).toArray) ⟨_, rfl, ?_⟩ (some d), wb bw iS BC h3 (by rw [GB]; omega)⟩;refine ⟨by simp [Cf, hlen, GB], fun m cv hm => ?_⟩;have y0 : m < ii.size := by have := bq hm; rw [Cf, hlen] at this; omega
           rw [Array.getD_eq_getD_getElem?];simp only [List.getElem?_toArray, List.getElem?_map, List.getElem?_range y0, Option.map_some, Option.getD_some];exact bS m cv hm
         · rename_i ti hne ba;simp only [Option.some.injEq] at bj;subst bj;rw [ba] at h;obtain ⟨dd, ii, bw, iS⟩ := nQ (cD hT ba)
           have iS : jP dd = false := by
             split at iS
             · exact (hne _ _ _ _ rfl).elim
             · exact iS
           have aL : o + i () * E.sz + off < cs.size := by omega
           refine ⟨_, cs.getD (o + i () * E.sz + off) Go.undef, Cj, h, aI.put r3 ?_ (some d), wa bw iS h3 (getD_some aL)⟩
           split
           · rename_i heq;cases heq;exact (hne _ _ _ _ rfl).elim
           · split
             · rename_i cv lC;exact bS 0 cv (by rw [lC]; rfl)
             · trivial
           · rename_i hh; cases hh
         · cases bj
       · cases h
     · cases h
   · cases h
 · cases h
theorem GC {K : SS → Prop} {T : TypeId} {k : Nat} (hne : ∀ p ∈ Γ.hd, p.1 ≠ k) {E : an} {i : Unit → Nat} {off : Nat} {v : V} {p u : Value} (h : Ch tab σ K T k E i off v) (hp : RV H ρ (av σ.af) (.c (.fq k E i off)) p) (hv : RV H ρ (av σ.af) v u) :
   ∃ ax w' ρ', K ax ∧ aI Γ H ρ' ax a w' ∧ (∀ y, (ρ k).2 y = 0 → w'.heap[y]? = w.heap[y]?) ∧ (Instr.storeAt T p u).run P w = .ok () w' := by
 have key : ∀ {xs : Unit → List E.α} {i' : Unit → Nat} {fs : List (Option Nat)} {n : Nat} {ls : List Lf} {ks : List Nat} {cs : List C} {b o n' c : Nat}, (ρ k).1 = .slice (some ⟨b, o, none⟩) n' c → i () = i' () → p = .pointer (some ⟨b, o + i () * E.sz + off, none⟩) → av σ.af k →
     cK w.heap H ρ (av σ.af) (.b0 E xs i' fs) (ρ k) → (∀ x, 0 < (ρ k).2 x → H x = none) → pM tab T = some n → nS v = some cs → pS σ.af (((nO E).drop off).take n) cs = some (ls, ks) → yX σ K k E xs i' fs off n ls ks →
     ∃ ax w' ρ', K ax ∧ aI Γ H ρ' ax a w' ∧ (∀ y, (ρ k).2 y = 0 → w'.heap[y]? = w.heap[y]?) ∧ (Instr.storeAt T p u).run P w = .ok () w' := by
   intro xs i' fs n ls ks cs b o n' c eS wc kx gL hB qR bj dy pW lE;unfold yX at lE
   split at lE
   · rename_i x hx
     split at lE
     · rename_i sY;obtain ⟨Nu, eK, hn⟩ := sY
       have hc := hv.cells dy fun k hk => by
        rw [hk] at hv;exact wh r hv
       obtain ⟨S, g1, g2, g3, g4, g5⟩ := B4 r pW (f := fun j => u.cells.getD j Go.undef) hc.2;have hu : u.cells.toList.length = ls.length := by rw [Array.length_toList, hc.1, g2]
       have oh : bQ E x = qS (bQ E (aO E xs i')) off ls := B0 hx fun t ht => by
        have Nv : (qS (bQ E (aO E xs i')) off ls).length = E.sz := by
          simp only [qS, List.length_append, List.length_take, List.length_drop, iu]; omega
        have h1 : E.sz = 1 := by rw [← Nv, ht]; rfl
        have hint : ∀ (v : Value) (T : Nat → Nat), bn w.heap (.int .u8 t) v T → IntKind.u8.has (t ()) := fun v T h => by
          cases h with
          | int hr => exact hr
        have h0 : (qS (bQ E (aO E xs i')) off ls)[0]? = some (.int .u8 t) := by rw [ht]; rfl
        rw [Gr (by rw [iu]; omega)] at h0
        split at h0
        · exact hint _ _ (g5 _ _ h0)
        · obtain ⟨b', o', c', kP, e, fz, S', qz, h2, h3, h4, h5, h6, h7, h8, h9⟩ := hB
          have oe : (xs ())[i' ()]? = some (aO E xs i' ()) := by
           simp only [aO, List.getD_eq_getElem?_getD, List.getElem?_eq_getElem h8, Option.getD_some]
          have Nw : IntKind.u8.has (t ()) := by
           cases E <;> first | (exfalso; simp only [an.sz] at h1; omega) | skip
           · simp [bQ] at h0
           · simp only [bQ, List.getElem?_cons_zero, Option.some.injEq, Lf.int.injEq, true_and] at h0;subst h0;refine v_.2 ⟨?_, ?_⟩
             · show (0 : Int) ≤ ((aO .byte xs i' ()).toNat : Int);omega
             · show ((aO .byte xs i' ()).toNat : Int) ≤ 255;have := (aO .byte xs i' ()).toNat_lt;omega
           · simp [bQ] at h0
           · simp [bQ] at h0
          exact Nw
       obtain ⟨w', g6, g8, ρ', g7⟩ := r.Nn (P := P) hne hn gL hB qR g3 eS hu (by omega) (T := fun j => S.getD j fun _ => 0) (fun j l hj => by
          have := g5 j l hj;rw [List.getD_eq_getElem?_getD, Array.getElem?_toList, ← Array.getD_eq_getD_getElem?];exact this) (fun y => by rw [← g4 y, ← B3, g1]) oh
       obtain ⟨ii, Nx, BS⟩ := Ns hT bj;obtain ⟨u', Cd, lE⟩ := lE;have he : (fun _ => (xs ()).set (i' ()) (x ())) = u' := funext fun _ => Cd;rw [he] at g7;refine ⟨_, w', ρ', lE, g7, g8, ?_⟩;have Ny : ¬ (u.cells.size ≠ ii.size) := by rw [hc.1, ← g2, Nu, BS]; simp
       rw [← wc] at g6;simp only [kx, Instr.storeAt, Instr.sureAddr, storeVar, Sem.run_bind, Sem.run_pure, Result.andThen_ok, l4 w Nx];rw [if_neg Ny];exact g6
     · cases lE
   · cases lE
 unfold Ch at h;obtain ⟨_, b, o, n', c, eS, hi, kx⟩ := hp
 split at h
 · rename_i xs oi fs n cs uL bj dy;obtain ⟨hB, rfl, ⟨B, yZ, Gz⟩, cU⟩ := Gv (i := i) uL (fun B hB => r.b.af k B (de hB)) eS hi;have qR : ∀ x, 0 < (ρ k).2 x → H x = none := fun x hx => r.b.ia k B (de yZ) x (Gz x hx)
   split at h
   · rename_i ls ks pW
     split at h
     · exact key eS rfl kx (fB yZ) hB qR bj dy pW h
     · rename_i i';obtain ⟨wc, h⟩ := h;exact key eS wc kx (fB yZ) hB qR bj dy pW h
   · cases h
 · cases h
end
end
end Go.Proofs.YtehpbaiclfilaaaGreat

