/- Parts of a proof. No conditions. -/

import Derived.Test.YtehpbaiclfilaaaGreatG02
import Derived.Laws.BytesArg
import Derived.OrdersHeld
set_option linter.unusedSimpArgs false
set_option linter.unusedVariables false
namespace Go.Proofs.YtehpbaiclfilaaaGreat
open Go
def SS.qN (σ : SS) (ks : List Nat) (k : Nat) (B : ak) : SS := { σ with af := dx (fD σ.af ks) k B }
def tj (tab : bf) (o : Oper) (σ : SS) (K : SS → Prop) : Prop :=
 match o.op, o.dst with
 | .buildSlice T n parts, some d =>
   match cS tab T, aM σ.af (8 * d) with
   | some (.sl E _ _), none =>
     match wO σ.af E (parts.toList.map fun p => σ.ev p.2) with
     | some (xs, ks) => if yS 0 parts.toList = true ∧ parts.toList.length = n ∧ n * E.sz ≤ 16777216 ∧ eQ ks = true then K ((σ.qN ks (8 * d) (.own E xs false)).put (some d) (.c (.own (8 * d)))) else False
     | none => False
   | _, _ => False
 | .call c, some d =>
   match c.callee, c.args.toList, c.argTypes.toList with
   | .builtin .len, _, _ => qL tab o σ K
   | .builtin .append, [x, y], [T, T2] =>
     match cS tab T, aM σ.af (8 * d) with
     | some (.sl E _ bytes), none =>
       match pP σ.af E (σ.ev x), BX tab T2 σ.af E (σ.ev y) with
       | some (xs, k1), some (ys, k2) =>
         if eQ (k1 ++ k2) = true ∧ 0 < bytes then
          Ob (fun _ => ((xs ()).length + (ys ()).length) * bytes ≤ 140737488355328) fun _ => K ((σ.qN (k1 ++ k2) (8 * d) (.own E (fun _ => xs () ++ ys ()) false)).put (some d) (.c (.own (8 * d))))
         else False
       | _, _ => False
     | _, _ => False
   | _, _, _ => False
 | .makeSlice T l c, some d =>
   match cS tab T, aM σ.af (8 * d), σ.ev l, σ.ev c with
   | some (.sl E _ bytes), none, .c (.lf (.int _ i)), .c (.lf (.int _ j)) =>
     if 0 < bytes then
       Ob (fun _ => 0 ≤ i () ∧ i () ≤ j () ∧ j () * (bytes : Int) ≤ 140737488355328) fun _ => K ((σ.qN [] (8 * d) (.own E (fun _ => List.replicate (i ()).toNat E.lx) false)).put (some d) (.c (.own (8 * d))))
     else False
   | _, _, _, _ => False
 | .slice T x lo hi none, some d =>
   match cS tab T, aM σ.af (8 * d), σ.ev x with
   | some (.sl E _ _), none, .c (.own k) =>
     match pP σ.af E (.c (.own k)) with
     | some (xs, ks) =>
       match pJ (lo.map σ.ev) fun _ => 0, pJ (hi.map σ.ev) fun _ => ((xs ()).length : Int) with
       | some l, some h => Ob (fun _ => 0 ≤ l () ∧ l () ≤ h () ∧ h () ≤ (xs ()).length) fun _ =>
          K ((σ.qN ks (8 * d) (.own E (fun _ => ((xs ()).take (h ()).toNat).drop (l ()).toNat) false)).put (some d) (.c (.own (8 * d))))
       | _, _ => False
     | none => False
   | _, _, _ => False
 | .convert S D x, some d =>
   match cS tab S, cS tab D, σ.ev x with
   | some (.sl .byte e _), some .ss, .c (.own k) =>
     match aM σ.af k, cS tab e with
     | some (.own E xs _), some (.it .u8) => (match qO .byte E xs with | some ys => K (σ.put (some d) (.c (.lf (.str ys)))) | none => False)
     | _, _ => False
   | _, _, _ => False
 | .store T p v, none =>
   match σ.ev p with
   | .c (.fq k E i off) => Ch tab σ K T k E i off (σ.ev v)
   | _ => qL tab o σ K
 | .load T x, some d =>
   match σ.ev x with
   | .c (.fq k E i off) => if wE tab T = true then Cg tab σ K T d k E i off else False
   | _ => False
 | _, _ => qL tab o σ K
section
variable {P : Program} {tab : bf} (hT : fw P tab = true) {Γ : Ctx} {H : Hp} {ρ : aG} {σ : SS} {a : Act} {w : World} (r : aI Γ H ρ σ a w)
include hT r
omit hT in
theorem uM {ks : List Nat} (hn : eQ ks = true) (hu : gk σ.af ks = true) {d : Nat} (hk : aM σ.af (8 * d) = none) {E : an} {xs : Unit → List E.α} {v : Value} {p : Nat → Nat} {w' : World}
  (hh : ∀ x, x < w.heap.size → bN ρ ks x = 0 → w'.heap[x]? = w.heap[x]?) (bj : Ext w w') (cU : bn w'.heap (.list E xs) v p)
  (hp : ∀ x, x < w.heap.size → p x ≤ bN ρ ks x) (cN : ∀ x, w.heap.size ≤ x → p x ≤ 1) :
  ∃ ρ, aI Γ H ρ ((σ.qN ks (8 * d) (.own E xs false)).put (some d) (.c (.own (8 * d)))) (a.put (some d) v) w' := by
 obtain ⟨ρ', r1, h1, _⟩ := r.qN hn hu hk (p := (v, p)) hh bj cU cU.one hp cN;exact ⟨ρ', aI.put r1 (v := .c (.own (8 * d))) ⟨gh.2 (.inl rfl), h1.symm⟩ (some d)⟩
omit hT in
theorem wQ {E : an} {v : V} {xs : Unit → List E.α} {ks : List Nat} {u : Value} (h : pP σ.af E v = some (xs, ks)) (hv : RV H ρ (av σ.af) v u) :
   gk σ.af ks = true ∧ bn w.heap (.list E xs) u (bN ρ ks) := by
 unfold pP at h
 split at h
 · cases h;simp only [RV, RC] at hv;subst hv;exact ⟨rfl, bn.nil rfl⟩
 · rename_i k
   split at h
   · rename_i E' qQ hg
     split at h
     · rename_i ys hc;cases h;obtain ⟨_, rfl⟩ := hv;have := um r hg;rw [uD hc] at this;refine ⟨by simp [gk, hg], ?_⟩;have e : bN ρ [k] = (ρ k).2 := by funext x; simp [bN]
       rw [e]; exact this
     · cases h
   · cases h
 · cases h
omit hT r in
theorem Ck {E : an} {xs : Unit → List E.α} {u : Value} {p : Nat → Nat} (ho : bn w.heap (.list E xs) u p) : ∃ news S, jf w E (xs ()) u news S ∧ ∀ x, cg (xs ()).length E.sz S x ≤ p x := by
 rcases ho.fL with ⟨rfl, h0, rfl⟩ | ⟨b, off, c, vs, e, fz, S, rfl, rfl, hb, hf, hl, hm, eK, hs⟩
 · rw [h0]; exact ⟨[], _, jf.nil none 0, fun x => by simp [cg, bY]⟩
 · obtain ⟨news, hN⟩ := jf.of (c := c) hb (by have := Nat.mul_le_mul_right E.sz hl; omega) hs;exact ⟨news, S, hN, fun x => by simp only [bT, cg]; exact Nat.le_add_left _ _⟩
omit hT in
theorem Nz {E : an} {v : V} {xs : Unit → List E.α} {ks : List Nat} {u : Value} (h : BW σ.af E v = some (xs, ks)) (hv : RV H ρ (av σ.af) v u) :
   gk σ.af ks = true ∧ ∃ news S, jf w E (xs ()) u news S ∧ ∀ x, cg (xs ()).length E.sz S x ≤ bN ρ ks x := by
 unfold BW at h
 split at h
 · rename_i E' t
   split at h
   · rename_i hf
     split at h
     · rename_i ys hc;cases h;have hr : RL H (.list E' t) u := hv;rw [uD hc] at hr;refine ⟨rfl, ?_⟩;rcases hr.fL (h := w.heap) r.b.hh hf with ⟨a, c, rfl, h0⟩ | ⟨b, off, c, vs, e, fz, rfl, hb, ho, hm, hs⟩
       · rw [h0]; exact ⟨[], _, jf.nil a c, fun x => by simp [cg, bY]⟩
       · obtain ⟨news, hN⟩ := jf.of (c := c) hb ho hs;refine ⟨news, _, hN, fun x => ?_⟩;have : cg (xs ()).length E.sz (fun _ _ _ => 0) x = 0 := l3 fun i _ => l3 fun j _ => rfl;omega
     · cases h
   · cases h
 · rename_i k
   split at h
   · rename_i hf
     split at h
     · rename_i E' qQ l hg
       split at h
       · rename_i ys hc;cases h;obtain ⟨_, rfl⟩ := hv;have ho := um r hg;rw [uD hc] at ho;obtain ⟨news, S, hN, _⟩ := Ck ho;refine ⟨rfl, news, fun _ _ _ => 0, ⟨hN.len, hN.one, hN.fL.flat hf, hN.val⟩, fun x => ?_⟩;have : cg (xs ()).length E.sz (fun _ _ _ => 0) x = 0 := l3 fun i _ => l3 fun j _ => rfl;omega
       · cases h
     · cases h
   · obtain ⟨h1, h2⟩ := wQ r h hv;exact ⟨h1, Ck h2⟩
 · obtain ⟨h1, h2⟩ := wQ r h hv;exact ⟨h1, Ck h2⟩
omit r in
theorem kQ {T : TypeId} {E : an} {elem bytes : Nat} (h : cS tab T = some (.sl E elem bytes)) :
  P.underlying T = some (.slice elem) ∧ ∃ i z, P.info? elem = some i ∧ i.size = E.sz ∧ i.bytes = bytes ∧ i.zero = some z ∧ Z.gV (nO E) z.cells.toList = true ∧ z.cells.size = E.sz := by
 obtain ⟨h1, i, z, h2, h3, h4, h5, h6⟩ := mP (cD hT h);refine ⟨h1, i, z, h2, h3, h4, h5, h6, ?_⟩;have := Z.yU h6;rw [Gi] at this;simpa using this
theorem GD {T : TypeId} {E : an} {v : V} {xs : Unit → List E.α} {ks : List Nat} {u : Value} (h : BX tab T σ.af E v = some (xs, ks)) (hv : RV H ρ (av σ.af) v u) :
   gk σ.af ks = true ∧ ∃ news S, uE P w E (xs ()) T u news S ∧ ∀ x, cg (xs ()).length E.sz S x ≤ bN ρ ks x := by
 unfold BX at h
 split at h
 · rename_i ba;obtain ⟨hU, _⟩ := kQ hT ba;obtain ⟨h1, news, S, h2, h3⟩ := Nz r h hv;exact ⟨h1, news, S, h2.yQ hU, h3⟩
 · rename_i ba;have hU := (mQ (cD hT ba)).1
   split at h
   · rename_i t;cases h;have hr : RL H (.str t) u := hv;obtain ⟨rfl, _⟩ := RL.lz hr;refine ⟨rfl, _, _, uE.str hU _, fun x => ?_⟩;have : cg (t ()).length (an.byte).sz (fun _ _ _ => 0) x = 0 := l3 fun i _ => l3 fun j _ => rfl;rw [this]; exact Nat.zero_le _
   · cases h
 · cases h
theorem NA {o : Oper} {K : SS → Prop} {Q : Exit → Act → World → Prop} (hw : gM tab o = true → Γ.hd = []) (h : tj tab o σ K) :
   o.wp P a w (fun a' w' => ∃ ax, K ax ∧ qK Γ H (gM tab o) w ax a' w') Q := by
 have ev := jQ r.e;unfold tj at h
 split at h
 · -- a literal
   rename_i T n parts d aX hd
   split at h
   · rename_i E elem bytes ba hg
     split at h
     · rename_i xs ks hm
       split at h
       · rename_i hc;obtain ⟨gy, lB, yO, y4⟩ := hc;obtain ⟨hU, i, z, hi, bj, ie, hz, qB, te⟩ := kQ hT ba
         obtain ⟨g1, g2, g3, g4, S, g5, g6⟩ := Gg r hm (us := parts.toList.map fun p => a.eval p.2) (by simp) fun j v u hj cL => by
           rw [List.getElem?_map, Option.map_eq_some_iff] at hj cL;obtain ⟨p, h1, rfl⟩ := hj;obtain ⟨p', h2, rfl⟩ := cL;rw [h1] at h2;cases h2;exact ev _
         have hlen : (parts.toList.map fun p => a.eval p.2).length = n := by simpa using lB
         generalize oo : (parts.toList.map fun p => a.eval p.2) = us at g1 g2 g3 g5 g6 hlen;generalize fh : (us.flatMap fun u => u.cells.toList) = cl at g3 g5
         have cM : (Instr.buildSlice T n (parts.map fun p => (p.1, a.eval p.2))).run P w = .ok (.slice (some ⟨w.heap.size, 0, none⟩) n n) (w.alloc (.cells cl.toArray elem)) := by
           have mT : (parts.map fun p => (p.1, a.eval p.2)).toList = (us.zipIdx 0).map fun x => (x.2, x.1) := by
             rw [Array.toList_map, Gf (f := a.eval) gy, oo]
           rcases Nat.eq_zero_or_pos n with h0 | h0
           · subst h0;have : us = [] := List.length_eq_zero_iff.1 hlen;subst this;simp only [List.flatMap_nil] at fh;subst fh;have NB : parts = #[] := Array.toList_inj.1 (List.length_eq_zero_iff.1 lB);subst NB;simp [Instr.buildSlice, run_underlying hU, sizeOf, typeInfo, hi, Instr.fill, newRow];have NC : Array.map (fun _ : Nat => (default : Value)) (Array.range 0) = #[] := by simp [Array.range]
             rw [NC]
           · refine run_buildSlice w T elem n _ _ i z hU hi hz (by rw [bj]; omega) (by rw [bj]; have := Nat.mul_pos h0 (vW E); omega) ?_;rw [mT, bj, ← fh];refine Great.fill_whole (vW E) us _ g2 ?_;simp [hlen]
         refine kC (v := .slice (some ⟨w.heap.size, 0, none⟩) n n) (w' := w.alloc (.cells cl.toArray elem)) ?_ ⟨_, h, ?_, fun _ => ib.alloc w _⟩
         · simp only [execOp, aX, Sem.run_bind, cM, Result.andThen_ok]; rfl
         · rw [hd]
           have cU := (bH.mono (h' := (w.alloc (.cells cl.toArray elem)).heap) (g5.cells (ds := fun q => cl.toArray.getD (0 + q) Go.undef) fun q hq => by
               rw [Nat.zero_add, Array.getD_eq_getD_getElem?, List.getElem?_toArray, List.getD_eq_getElem?_getD]) fun x hx => by
               rw [g1, g6] at hx;have := l5 (ρ := ρ) ks y4 (fun k hk => by obtain ⟨E, xs, hg⟩ := nZ g4 k hk; exact fB hg) x;exact alloc_old w _ x (r.lt (by omega))).own (b := w.heap.size) (c := n) (fz := (0, 0)) (uu w _) (mX _) (by omega) (by unfold cG; have := Nat.le_mul_of_pos_right n (vW E); omega)
               (by rw [Nat.zero_add, List.size_toArray, g3, hlen]; exact Nat.le_refl _)
           rw [g1, hlen] at cU;refine uM r y4 g4 hg (fun x hx _ => alloc_old w _ x hx) (s7 w _ _) cU (fun x hx => ?_) fun x hx => ?_
           · simp only [bT];rw [if_neg (Nat.ne_of_lt hx)];have := g6 x;rw [hlen] at this;simp only [cg] at this;omega
           · have h1 := g6 x;have h2 := l5 (ρ := ρ) ks y4 (fun k hk => by obtain ⟨E, xs, hg⟩ := nZ g4 k hk; exact fB hg) x;have h3 := (r.ur hx).2;rw [hlen] at h1;simp only [cg] at h1;simp only [bT]
             split <;> omega
       · cases h
     · cases h
   · cases h
 · -- append
   rename_i c d aX hd
   split at h
   · exact BT hT r h
   · rename_i x y T T2 ff di Cl
     split at h
     · rename_i E elem bytes ba hg
       split at h
       · rename_i xs k1 ys k2 hx hy
         split at h
         · rename_i hc;obtain ⟨gy, lB⟩ := hc;obtain ⟨Cm, hk⟩ := h;obtain ⟨hU, i, z, hi, bj, ie, hz, qB, te⟩ := kQ hT ba;obtain ⟨u1, ox⟩ := wQ r hx (ev x);obtain ⟨u2, news, S2, hN, Cn⟩ := GD hT r hy (ev y);have l8 : ∀ k ∈ k1 ++ k2, av σ.af k := fun k hk => by obtain ⟨E, xs, hg⟩ := nZ (tf u1 u2) k hk; exact fB hg
           have hle : ∀ x, bN ρ k1 x + bN ρ k2 x ≤ aS ρ σ.af x := fun x => by rw [← pT]; exact l5 (ρ := ρ) _ gy l8 x
           obtain ⟨v, p, w', r1, r2, r3, r4, r5, r6⟩ := wK (P := P) (T := T) (T2 := T2) (ty := o.type) (E := E) (xs := xs ()) (ys := ys ()) ox hN Cn (fun x => Nat.le_trans (hle x) (r.b.sum x)) (fun x hx => r.lt (Nat.lt_of_lt_of_le hx (hle x)))
             hU hi hz bj te (by omega) (by rw [ie]; exact Cm)
           refine kC (v := v) (w' := w') ?_ ⟨_, hk, ?_, fun hw => by simp [gM, aX, ff] at hw⟩
           · have e1 : c.args = #[x, y] := by rw [← Array.toArray_toList (xs := c.args), di]
             have e2 : c.argTypes = #[T, T2] := by rw [← Array.toArray_toList (xs := c.argTypes), Cl]
             obtain ⟨callee, args, argTypes⟩ := c;simp only at ff e1 e2;subst ff e1 e2;simp [execOp, aX, resolve, invoke, builtin, r1, Result.andThen]
           · rw [hd];refine uM r gy (tf u1 u2) hg (fun x hx h0 => ?_) r3 r2 (fun x hx => ?_) r6
             · rw [pT] at h0;exact r4 x hx (by omega)
             · rw [pT]; exact r5 x hx
         · cases h
       · cases h
     · cases h
   · cases h
 · -- make
   rename_i T l c d aX hd
   split at h
   · rename_i E elem bytes kl i kc j ba hg hl n_
     split at h
     · rename_i hb;obtain ⟨⟨o1, o2, o3⟩, hk⟩ := h;obtain ⟨hU, ii, z, hi, bj, ie, hz, qB, te⟩ := kQ hT ba;have el := ev l;have ec := ev c;rw [hl] at el;rw [n_] at ec;obtain ⟨el, _⟩ := RL.of_int el;obtain ⟨ec, _⟩ := RL.of_int ec
       have U_ : j () ≤ 140737488355328 := by
         have : j () * 1 ≤ j () * (bytes : Int) := Int.mul_le_mul_of_nonneg_left (by omega) (by omega);omega
       have cM := run_make (P := P) w T elem ii z hU hi hz kl kc (i ()) (j ()) o1 o2 (by rw [ie, Int.mul_comm]; omega) (by omega);refine kC (v := _) (w' := _) (by simp only [execOp, aX, el, ec, Sem.run_bind, cM, Result.andThen_ok]; rfl) ⟨_, hk, ?_, fun _ => ib.alloc w _⟩;rw [hd];have hlen : (List.replicate (i ()).toNat E.lx).length = (i ()).toNat := by simp
       have cB : bH (w.alloc (.cells (madeCells z.cells ((j ()).toNat * ii.size)) elem)).heap E (List.replicate (i ()).toNat E.lx) (fun q => (madeCells z.cells ((j ()).toNat * ii.size)).getD (0 + q) Go.undef) fun _ _ _ => 0 := by
         rw [bj];intro q x hx jj ll hj;refine M7 qB (j ()).toNat q x ?_ jj ll hj;have := bq hx;rw [hlen] at this;rw [List.getElem?_replicate, if_pos this] at hx;rw [List.getElem?_replicate, if_pos (by omega)];exact hx
       have cU := cB.own (b := w.heap.size) (c := (j ()).toNat) (fz := (0, 0)) (uu w _) (mX _) (by rw [hlen]; omega) (by rw [hlen]; unfold cG; omega) (by rw [size_madeCells, bj]; omega);rw [hlen] at cU
       have wR : ∀ x, bT w.heap.size (i ()).toNat E.sz (fun _ _ _ => 0) x = if x = w.heap.size then 1 else 0 := fun x => by
         simp only [bT];rw [l3 fun i _ => l3 fun j _ => rfl];rfl
       refine uM r (ks := []) rfl rfl hg (fun x hx _ => alloc_old w _ x hx) (s7 w _ _) cU (fun x hx => ?_) fun x hx => ?_
       · rw [wR, if_neg (Nat.ne_of_lt hx)]; exact Nat.zero_le _
       · rw [wR]; split <;> omega
     · cases h
   · cases h
 · -- a part of a list
   rename_i T x lo hi d aX hd
   split at h
   · rename_i E elem bytes k ba hg pO
     split at h
     · rename_i xs ks hm
       split at h
       · rename_i l hh hl mU;obtain ⟨⟨o1, o2, o3⟩, hk⟩ := h;obtain ⟨hU, ii, z, dU, bj, _⟩ := kQ hT ba;have wS := ev x;rw [pO] at wS;obtain ⟨hu, ho⟩ := wQ r hm wS
         have iO : ks = [k] := by
           simp only [pP] at hm
           split at hm
           · split at hm
             · cases hm; rfl
             · cases hm
           · cases hm
         subst iO;obtain ⟨L, hL⟩ := Int.eq_ofNat_of_zero_le o1;obtain ⟨U, mW⟩ := Int.eq_ofNat_of_zero_le (show 0 ≤ hh () by omega)
         have e1 : (lo.map a.eval = none ∧ L = 0) ∨ ∃ k, lo.map a.eval = some (.int k (L : Int)) := by
           rcases uo hl ev with ⟨h1, h2⟩ | ⟨k, h1⟩
           · refine .inl ⟨h1, ?_⟩; rw [h2] at hL; simp at hL; omega
           · exact .inr ⟨k, by rw [h1, hL]⟩
         have e2 : (hi.map a.eval = none ∧ U = (xs ()).length) ∨ ∃ k, hi.map a.eval = some (.int k (U : Int)) := by
           rcases uo mU ev with ⟨h1, h2⟩ | ⟨k, h1⟩
           · refine .inl ⟨h1, ?_⟩; rw [h2] at mW; simp at mW; omega
           · exact .inr ⟨k, by rw [h1, mW]⟩
         have Bz : L ≤ U := by omega
         have MB : U ≤ (xs ()).length := by omega
         have eL : (l ()).toNat = L := by omega
         have eU : (hh ()).toNat = U := by omega
         have hlen : (((xs ()).take U).drop L).length = U - L := by simp; omega
         have cM : ∀ (bb : Option Addr) (cc : Nat), (xs ()).length ≤ cc → a.eval x = .slice bb (xs ()).length cc → (execOp a.eval o).run P w =
             .ok (.value (.slice (if cc = L then bb else bb.map (·.add (L * E.sz))) (U - L) (cc - L))) w := fun bb cc yI hv => by
           simp only [execOp, aX, Option.map_none, hv, Instr.sliceAt, Sem.run_bind, iP w hU, Result.andThen_ok, Instr.slice];rw [Bx true w e1 e2 Bz (by omega)];simp only [Result.andThen_ok, l4 w dU, bj, Sem.run_pure]
         rcases ho.fL with ⟨hv, h0, hp⟩ | ⟨b, off, c, vs, e, fz, S, hv, hp, hb, hf, Co, uq, eK, hs⟩
         · have uN : (xs ()).length = 0 := by rw [h0]; rfl
           refine kC (cM none 0 (by omega) (by rw [hv, uN])) ⟨_, hk, ?_, fun _ => ib.refl w⟩;rw [hd];have : (if 0 = L then none else Option.map (fun x : Addr => x.add (L * E.sz)) none) = none := by split <;> rfl
           rw [this, show U - L = 0 by omega, Nat.zero_sub];exact uM r rfl hu hg (fun _ _ _ => rfl) (Ext.refl _) (bn.nil (by rw [eL, eU, h0]; simp)) (fun _ _ => Nat.zero_le _) fun _ _ => Nat.zero_le _
         · refine kC (cM _ c Co hv) ⟨_, hk, ?_, fun _ => ib.refl w⟩;rw [hd]
           have gN : ∀ x, cg (U - L) E.sz (fun i => S (L + i)) x ≤ cg (xs ()).length E.sz S x := fun x => by
             have h1 : cg (xs ()).length E.sz S x = cg L E.sz S x + cg ((xs ()).length - L) E.sz (fun i => S (L + i)) x := by
               have : (xs ()).length = L + ((xs ()).length - L) := by omega
               rw [this];unfold cg;rw [wH];simp
             have h2 : cg ((xs ()).length - L) E.sz (fun i => S (L + i)) x = cg (U - L) E.sz (fun i => S (L + i)) x + cg ((xs ()).length - U) E.sz (fun i => S (L + (U - L + i))) x := by
               have : (xs ()).length - L = (U - L) + ((xs ()).length - U) := by omega
               rw [this];unfold cg;rw [wH]
             omega
           have cB : ∀ o', o' = off + L * E.sz → bH w.heap E (((xs ()).take (hh ()).toNat).drop (l ()).toNat) (fun q => vs.getD (o' + q) Go.undef) fun i => S (L + i) := by
             intro o' pX i y hy j l' hj;subst pX;rw [eL, eU, List.getElem?_drop, List.getElem?_take] at hy
             split at hy
             · have := hs (L + i) y hy j l' hj;simp only [Nat.add_mul] at this;simp only;rw [show off + L * E.sz + (i * E.sz + j) = off + (L * E.sz + i * E.sz + j) by omega];exact this
             · cases hy
           have yI : L * E.sz ≤ c * E.sz := Nat.mul_le_mul_right _ (by omega)
           have fin : ∀ (o' : Nat) (p' : Nat → Nat), bn w.heap (.list E fun _ => ((xs ()).take (hh ()).toNat).drop (l ()).toNat) (.slice (some ⟨b, o', none⟩) (U - L) (c - L)) p' → (∀ x, p' x ≤ bT b (xs ()).length E.sz S x) →
               ∃ ρ, aI Γ H ρ ((σ.qN [k] (8 * d) (.own E (fun _ => ((xs ()).take (hh ()).toNat).drop (l ()).toNat) false)).put (some d) (.c (.own (8 * d)))) (a.put (some d) (.slice (some ⟨b, o', none⟩) (U - L) (c - L))) w := fun o' p' h1 h2 => by
             have hq : ∀ x, p' x ≤ bN ρ [k] x := fun x => by rw [hp]; exact h2 x
             refine uM r rfl hu hg (fun _ _ _ => rfl) (Ext.refl _) h1 (fun x _ => hq x) fun x _ => ?_;have h3 := l5 (ρ := ρ) [k] rfl (fun k' bD => by obtain ⟨E, xs, hg⟩ := nZ hu k' bD; exact fB hg) x;have h4 := r.b.sum x;have h5 := hq x;omega
           have wR : ∀ x, bT b (U - L) E.sz (fun i => S (L + i)) x ≤ bT b (xs ()).length E.sz S x := fun x => by
             have := gN x;simp only [cg] at this;simp only [bT]; omega
           by_cases fh : c = L
           · rw [if_pos fh];have Bl : ((xs ()).take (hh ()).toNat).drop (l ()).toNat = [] := List.length_eq_zero_iff.1 (by rw [eL, eU, hlen]; omega);have yJ : U - L = 0 := by omega
             refine fin off (bT b 0 E.sz fun i => S (L + i)) ?_ fun x => ?_
             · have h7 := bH.own (h := w.heap) (E := E) (xs := []) (S := fun i => S (L + i)) (b := b) (off := off) (c := c - L) (vs := vs) (e := e) (fz := fz) bH.nil hb hf (by simp) (by simp) (by
                have : (c - L) * E.sz ≤ c * E.sz := Nat.mul_le_mul_right _ (Nat.sub_le _ _);omega)
               rw [yJ, Bl];exact h7
             · have := wR x;rw [yJ] at this;exact this
           · rw [if_neg fh];simp only [Option.map_some, fe];refine fin (off + L * E.sz) (bT b (U - L) E.sz fun i => S (L + i)) ?_ wR
             have h7 := (cB _ rfl).own (b := b) (c := c - L) (e := e) (fz := fz) hb hf (by rw [eL, eU, hlen]; omega) (by rw [eL, eU, hlen]; omega) (by
               have : L * E.sz + (c - L) * E.sz = c * E.sz := by rw [← Nat.add_mul]; congr 1; omega
               omega)
             rw [eL, eU, hlen] at h7;rw [eL, eU];exact h7
       · cases h
     · cases h
   · cases h
 · -- bytes to a string
   rename_i S D x d aX hd
   split at h
   · rename_i e bytes k ba hD pO
     split at h
     · rename_i E xs sQ hg ND
       split at h
       · rename_i ys hc;obtain ⟨hU, _⟩ := kQ hT ba;have GF := (pF (cD hT ND)).1;have GG := (mQ (cD hT hD)).1;have wS := ev x;rw [pO] at wS;obtain ⟨_, kx⟩ := wS;have ho := um r hg;rw [uD hc] at ho
         have cM : (convert S D (a.eval x)).run P w = .ok (.string ⟨(ys ()).toArray⟩) w ∧ (ys ()).length ≤ cG := by
           rw [kx];rcases ho.fL with ⟨hv, h0, hp⟩ | ⟨b, off, c, vs, e', fz, SS, hv, hp, hb, hf, Co, uq, eK, hs⟩
           · rw [hv, h0];exact ⟨run_convert_bytes_nil w S e hU GF 0 0 D GG, by simp⟩
           · rw [hv]
             have := run_convert_bytes_arg w S e hU GF b off (ys ()).length c ((ys ()).map fun y => (y.toNat : Int)) (by simp) (fun i hi => by
               have h1 := hs i _ (List.getElem?_eq_getElem hi) 0 _ rfl;simp only [an.sz, Nat.mul_one, Nat.add_zero] at h1;have h2 : (⟨b, off + i, none⟩ : Addr) = ⟨b, off + i, none⟩ := rfl;rw [cell_of hb (getD_some (show off + i < vs.size by simp only [an.sz, Nat.mul_one] at eK; omega))];generalize vs.getD (off + i) Go.undef = u, SS i 0 = T at h1;cases h1 with
               | int hr => simp [List.getD_eq_getElem?_getD, hi]) D GG
             rw [this];refine ⟨?_, uq⟩
             congr 2
             unfold strOfNums;rw [List.map_map];refine congrArg (fun l : List UInt8 => (⟨l.toArray⟩ : ByteArray)) ?_;refine Eq.trans (List.map_congr_left fun y _ => ?_) (List.map_id _);simp
         refine kC (v := .string ⟨(ys ()).toArray⟩) (w' := w) (by simp only [execOp, aX, Sem.run_bind, cM.1, Result.andThen_ok]; rfl) ⟨_, h, ⟨ρ, ?_⟩, fun _ => ib.refl w⟩;rw [hd];exact aI.put r (v := .c (.lf (.str ys))) (RL.str cM.2) (some d)
       · cases h
     · cases h
   · cases h
 · -- an element is stored
   rename_i T p v aX hd
   split at h
   · rename_i k E i off hp;have ep := ev p;rw [hp] at ep;obtain ⟨ax, w', ρ', h1, h2, _, h3⟩ := GC hT r (fun p hp => by rw [hw (by simp [gM, aX])] at hp; cases hp) h ep (ev v);refine wF (w' := w') ?_ hd ⟨_, h1, ⟨ρ', h2⟩, fun hw => by simp [gM, aX] at hw⟩;simp only [execOp, aX, Sem.run_bind, h3, Result.andThen_ok];rfl
   · exact BT hT r h
 · -- an element is loaded
   rename_i T x d aX hd
   split at h
   · rename_i k E i off hp
     split at h
     · rename_i NG;have ep := ev x;rw [hp] at ep;obtain ⟨ax, y, ρ', h1, h2, h3⟩ := Nt hT r (hw (by simp [gM, aX, NG])) h ep;refine kC (v := y) (w' := w) ?_ ⟨_, h1, ⟨ρ', by rw [hd]; exact h2⟩, fun _ => ib.refl w⟩;simp only [execOp, aX, Sem.run_bind, h3, Result.andThen_ok];rfl
     · cases h
   · cases h
 · exact BT hT r h
omit hT r in
theorem NH {bs : List (Nat × ak)} {E : an} {v : V} {xs : Unit → List E.α} {ks : List Nat} (h : pP bs E v = some (xs, ks)) : ks = [] ∨ ∃ k, v = .c (.own k) ∧ ks = [k] := by
 unfold pP at h
 split at h
 · cases h; exact .inl rfl
 · split at h
   · split at h
     · cases h; exact .inr ⟨_, rfl, rfl⟩
     · cases h
   · cases h
 · cases h
theorem NI {o : Oper} {K : SS → Prop} {Q : Exit → Act → World → Prop} {c : Call} {x y : Operand} (aX : o.op = .call c) (ff : c.callee = .builtin .append) (di : c.args.toList = [x, y]) (h : tj tab o σ K) :
   o.wp P a w (fun a' w' => ∃ ax, K ax ∧ (∃ ρ', aI Γ H ρ' ax a' w') ∧ ∀ b, b < w.heap.size → (∀ k, σ.ev x = .c (.own k) → (ρ k).2 b = 0) → w'.heap[b]? = w.heap[b]?) Q := by
 have ev := jQ r.e;unfold tj at h;rw [aX] at h;cases hd : o.dst with
 | none => rw [hd] at h; simp only [qL, aX, hd] at h
 | some d =>
   rw [hd] at h;simp only [ff, di] at h
   split at h
   · rename_i _ _ heq; cases heq
   · rename_i x' y' T T2 _ NJ Cl;cases NJ
     split at h
     · rename_i E elem bytes ba hg
       split at h
       · rename_i xs k1 ys k2 hx hy
         split at h
         · rename_i hc;obtain ⟨gy, lB⟩ := hc;obtain ⟨Cm, hk⟩ := h;obtain ⟨hU, i, z, hi, bj, ie, hz, qB, te⟩ := kQ hT ba;obtain ⟨u1, ox⟩ := wQ r hx (ev x);obtain ⟨u2, news, S2, hN, Cn⟩ := GD hT r hy (ev y);have l8 : ∀ k ∈ k1 ++ k2, av σ.af k := fun k hk => by obtain ⟨E, xs, hg⟩ := nZ (tf u1 u2) k hk; exact fB hg
           have hle : ∀ x, bN ρ k1 x + bN ρ k2 x ≤ aS ρ σ.af x := fun x => by rw [← pT]; exact l5 (ρ := ρ) _ gy l8 x
           obtain ⟨v, p, w', r1, r2, r3, r4, r5, r6⟩ := wK (P := P) (T := T) (T2 := T2) (ty := o.type) (E := E) (xs := xs ()) (ys := ys ()) ox hN Cn (fun x => Nat.le_trans (hle x) (r.b.sum x)) (fun x hx => r.lt (Nat.lt_of_lt_of_le hx (hle x)))
             hU hi hz bj te (by omega) (by rw [ie]; exact Cm)
           refine kC (v := v) (w' := w') ?_ ⟨_, hk, ?_, fun b hb hz => ?_⟩
           · have e1 : c.args = #[x, y] := by rw [← Array.toArray_toList (xs := c.args), di]
             have e2 : c.argTypes = #[T, T2] := by rw [← Array.toArray_toList (xs := c.argTypes), Cl]
             obtain ⟨callee, args, argTypes⟩ := c;simp only at ff e1 e2;subst ff e1 e2;simp [execOp, aX, resolve, invoke, builtin, r1, Result.andThen]
           · rw [hd];refine uM r gy (tf u1 u2) hg (fun x hx h0 => ?_) r3 r2 (fun x hx => ?_) r6
             · rw [pT] at h0;exact r4 x hx (by omega)
             · rw [pT]; exact r5 x hx
           · refine r4 b hb ?_;rcases NH hx with e | ⟨k, e1, e2⟩
             · rw [e]; rfl
             · rw [e2];have := hz k e1;simp only [bN];omega
         · cases h
       · cases h
     · cases h
   · cases h
end
def y5 (bs : List (Nat × ak)) : C → Option Lf
 | .lf l => some l
 | .bl b => some (.bool fun _ => b)
 | .own k => match aM bs k with | some (.own E xs _) => some (.list E xs) | some (.view E xs) => some (.list E xs) | _ => none
 | _ => none
def wT (bs : List (Nat × ak)) : List C → Option (List Lf)
 | [] => some []
 | c :: cs => match y5 bs c, wT bs cs with | some l, some ls => some (l :: ls) | _, _ => none
def wU (bs : List (Nat × ak)) (k : Nat) : Option (List Lf) :=
 match aM bs k with
 | some (.box cs) => wT bs cs
 | _ => none
def qV (bs : List (Nat × ak)) : Cp → Cp
 | .ptr k off => match wU bs k with | some ls => .bZ ls off | none => .ptr k off
 | c => c
def qW (bs : List (Nat × ak)) (z : Z) : C → C
 | .nil => match z with | .nl E => .lf (.list E fun _ => []) | _ => .undef
 | .own k => match y5 bs (.own k) with | some l => .lf l | none => .undef
 | .ptr k off => match wU bs k with | some ls => .bZ ls off | none => .undef
 | .fq _ _ _ _ => .undef
 | .fn f l => .fn f (l.map (qV bs))
 | c => c
def l9 (bs : List (Nat × ak)) : List Z → List C → List C
 | _, [] => []
 | [], c :: cs => qW bs .un c :: l9 bs [] cs
 | z :: zs, c :: cs => qW bs z c :: l9 bs zs cs
def y6 (tab : bf) (bs : List (Nat × ak)) (T : TypeId) : V → V
 | .c x => .c (qW bs (match cS tab T with | some (.sl E _ _) => .nl E | _ => .un) x)
 | .agg cs => .agg (l9 bs (match cS tab T with | some (.st _ _ z _) => z | _ => []) cs)
 | .bc _ => .c .undef
def lF (tab : bf) (bs : List (Nat × ak)) : List TypeId → List V → List V
 | _, [] => []
 | [], _ :: vs => .c .undef :: lF tab bs [] vs
 | T :: Ts, v :: vs => y6 tab bs T v :: lF tab bs Ts vs
def uO (bs : List (Nat × ak)) (c : Cp) : V :=
 match qV bs c with
 | .el E x off => .c (.el E x off)
 | .bZ ls off => .c (.bZ ls off)
 | .ptr _ _ => .c .undef
def Cq (bs : List (Nat × ak)) (l : List Cp) : Bool := l.all fun c => match qV bs c with | .ptr _ _ => false | _ => true
def C.pY (bs : List (Nat × ak)) : C → Bool
 | .fn _ l => Cq bs l
 | _ => true
def V.pY (bs : List (Nat × ak)) : V → Bool
 | .c x => x.pY bs
 | .agg cs => cs.all (C.pY bs)
 | .bc _ => true
structure y7 (w : World) (H H1 : Hp) (ρ : aG) (D : Nat → Prop) (bs : List (Nat × ak)) : Prop where
 hH : ∀ b o, H b = some o → H1 b = some o
 af : ∀ k B, aM bs k = some B → cK w.heap H ρ D B (ρ k) ∧ ∀ x, 0 < (ρ k).2 x → H1 x = w.heap[x]?
theorem aI.GH {Γ : Ctx} {H : Hp} {ρ : aG} {σ : SS} {a : Act} {w : World} (r : aI Γ H ρ σ a w) : y7 w H (fun b => w.heap[b]?) ρ (av σ.af) σ.af :=
 ⟨r.b.hh, fun k B hk => ⟨r.b.af k B (de hk), fun _ _ => rfl⟩⟩
section
variable {w : World} {H H1 : Hp} {ρ ρ1 : aG} {D D1 : Nat → Prop} {bs : List (Nat × ak)} (L : y7 w H H1 ρ D bs)
include L
theorem GI {c : C} {l : Lf} {v : Value} (h : y5 bs c = some l) (hv : RC H ρ D c v) : RL H1 l v := by
 unfold y5 at h
 split at h
 · cases h; exact RL.mono hv L.hH
 · cases h; simp only [RC] at hv; subst hv; exact RL.bool (t := fun _ => _)
 · rename_i k
   split at h
   · rename_i E xs l hg;cases h;obtain ⟨_, rfl⟩ := hv;obtain ⟨h1, h2⟩ := L.af k _ hg;exact bn.rl h1 h2
   · rename_i E xs hg;cases h;obtain ⟨_, rfl⟩ := hv;obtain ⟨h1, h2⟩ := L.af k _ hg;exact h1.1.mono L.hH
   · cases h
 · cases h
theorem GJ : ∀ {cs : List C} {ls : List Lf} {f : Nat → Value}, wT bs cs = some ls → (∀ (j : Nat) c, cs[j]? = some c → RC H ρ D c (f j)) → ls.length = cs.length ∧ ∀ (j : Nat) l, ls[j]? = some l → RL H1 l (f j)
 | [], ls, f, h, _ => by simp only [wT, Option.some.injEq] at h; subst h; exact ⟨rfl, fun j l hj => by simp at hj⟩
 | c :: cs, ls, f, h, hc => by
   simp only [wT] at h
   split at h
   · rename_i l pU h1 h2;cases h;obtain ⟨g1, g2⟩ := GJ (f := fun j => f (j + 1)) h2 fun j c hj => hc (j + 1) c (by simpa using hj);refine ⟨by simp [g1], fun j l' hj => ?_⟩;cases j with
     | zero => simp at hj; subst hj; exact GI L h1 (hc 0 c rfl)
     | succ j => exact g2 j l' (by simpa using hj)
   · cases h
theorem GK {k off : Nat} {ls : List Lf} {v : Value} (h : wU bs k = some ls) (hv : dX H ρ D (.ptr k off) v) :
   dX H1 ρ1 D1 (.bZ ls off) v := by
 unfold wU at h
 split at h
 · rename_i cs hg;obtain ⟨_, b, h1, rfl⟩ := hv;obtain ⟨⟨b', vs, e, fz, h2, h3, h4, h5, h6⟩, h0⟩ := L.af k _ hg;rw [h1] at h2;simp only [Value.pointer.injEq, Option.some.injEq, Addr.mk.injEq, and_true] at h2;subst h2;obtain ⟨g1, g2⟩ := GJ (f := fun j => vs.getD j Go.undef) L h h6.2;refine ⟨b, off, vs, e, fz, by rw [h0 b (by simp [h3, one])]; exact h4, rfl, fun j l hj => ⟨?_, g2 _ _ hj⟩⟩;have := bq hj;rw [h6.1, ← g1]; exact this
 · cases h
theorem dX.GL {E : an} {x : Unit → E.α} {off : Nat} {v : Value} (hv : dX H ρ D (.el E x off) v) : dX H1 ρ1 D1 (.el E x off) v := by
 obtain ⟨b, o, cs, e, fz, h1, h2, h3⟩ := hv;exact ⟨b, o, cs, e, fz, L.hH _ _ h1, h2, fun j l hj => ⟨(h3 j l hj).1, (h3 j l hj).2.mono L.hH⟩⟩
theorem dX.GM {ls : List Lf} {off : Nat} {v : Value} (hv : dX H ρ D (.bZ ls off) v) : dX H1 ρ1 D1 (.bZ ls off) v := by
 obtain ⟨b, o, cs, e, fz, h1, h2, h3⟩ := hv;exact ⟨b, o, cs, e, fz, L.hH _ _ h1, h2, fun j l hj => ⟨(h3 j l hj).1, (h3 j l hj).2.mono L.hH⟩⟩
theorem GN {c : Cp} {v : Value} (hv : dX H ρ D c v) (ho : (match qV bs c with | .ptr _ _ => false | _ => true) = true) :
   dX H1 ρ1 D1 (qV bs c) v := by
 cases c with
 | ptr k off =>
   cases ht : wU bs k with
   | some t => simp only [qV, ht]; exact GK L ht hv
   | none => simp [qV, ht] at ho
 | el E x off => exact dX.GL (ρ1 := ρ1) (D1 := D1) L hv
 | bZ ls off => exact dX.GM (ρ1 := ρ1) (D1 := D1) L hv
theorem GO {c : C} {v : Value} (z : Z) (hv : RC H ρ D c v) (ho : c.pY bs = true) : RC H1 ρ1 D1 (qW bs z c) v := by
 cases c with
 | lf l => exact RL.mono hv L.hH
 | bl b => exact hv
 | nil =>
   simp only [qW]
   split
   · simp only [RC] at hv; subst hv; exact RL.nil rfl
   · trivial
 | own k =>
   simp only [qW]
   split
   · rename_i l hl; exact GI L hl hv
   · trivial
 | ptr k off =>
   simp only [qW]
   split
   · rename_i t ht; exact GK (ρ1 := ρ1) (D1 := D1) L ht hv
   · trivial
 | el E x off => exact dX.GL (ρ1 := ρ1) (D1 := D1) L hv
 | bZ ls off => exact dX.GM (ρ1 := ρ1) (D1 := D1) L hv
 | fq k E i off => trivial
 | fn f l =>
   obtain ⟨vs, h1, h2, h3⟩ := hv;refine ⟨vs, h1, by simpa using h2, fun j c hj => ?_⟩;rw [List.getElem?_map, Option.map_eq_some_iff] at hj;obtain ⟨c0, hj, rfl⟩ := hj;exact GN L (h3 j c0 hj) (List.all_eq_true.1 ho c0 (List.mem_of_getElem? hj))
 | undef => trivial
omit L in
theorem Cr {bs : List (Nat × ak)} : ∀ {cs : List C} {zs : List Z} {j : Nat} {c : C}, (l9 bs zs cs)[j]? = some c → ∃ c0 z, cs[j]? = some c0 ∧ c = qW bs z c0
 | [], zs, j, c, h => by cases zs <;> simp [l9] at h
 | c0 :: cs, [], 0, c, h => by simp [l9] at h; exact ⟨c0, _, rfl, h.symm⟩
 | c0 :: cs, [], j + 1, c, h => by simp only [l9, List.getElem?_cons_succ] at h ⊢; exact Cr h
 | c0 :: cs, z :: zs, 0, c, h => by simp [l9] at h; exact ⟨c0, _, rfl, h.symm⟩
 | c0 :: cs, z :: zs, j + 1, c, h => by simp only [l9, List.getElem?_cons_succ] at h ⊢; exact Cr h
omit L in
theorem Cs {bs : List (Nat × ak)} : ∀ {cs : List C} {zs : List Z}, (l9 bs zs cs).length = cs.length
 | [], zs => by cases zs <;> rfl
 | c0 :: cs, [] => by simp [l9, Cs (cs := cs)]
 | c0 :: cs, z :: zs => by simp [l9, Cs (cs := cs)]
theorem GP {tab : bf} {T : TypeId} {c : V} {v : Value} (hv : RV H ρ D c v) (ho : c.pY bs = true) : RV H1 ρ1 D1 (y6 tab bs T c) v := by
 cases c with
 | c x => exact GO L _ hv ho
 | agg cs =>
   obtain ⟨vs, h1, h2⟩ := hv;refine ⟨vs, h1, by rw [Cs]; exact h2.1, fun j c hj => ?_⟩;obtain ⟨c0, z, h3, rfl⟩ := Cr hj;exact GO L z (h2.2 j c0 h3) (List.all_eq_true.1 ho c0 (List.mem_of_getElem? h3))
 | bc cs => trivial
theorem GQ {c : Cp} {v : Value} (hv : dX H ρ D c v) (ho : (match qV bs c with | .ptr _ _ => false | _ => true) = true) : RV H1 ρ1 D1 (uO bs c) v := by
 have h := GN (ρ1 := ρ1) (D1 := D1) L hv ho;unfold uO
 split
 · rename_i E x off heq; rw [heq] at h; exact h
 · rename_i ls off heq; rw [heq] at h; exact h
 · trivial
end
inductive ag (P : Program) (f : FuncId) (as : List V) (K : V → List ak → Prop) : Prop where
 | mk (post : V → List ak → Prop) (hs : Spec P f as post) (hk : ∀ r nb, post r nb → K r nb)
def qX : List (Nat × ak) → Nat → List ak → List (Nat × ak)
 | bs, _, [] => bs
 | bs, k, B :: nb => qX (dx bs k B) (k + 1) nb
def uP (bs : List (Nat × ak)) (d : Nat) : Bool := bs.all fun p => p.1 < 8 * d || 8 * d + 8 ≤ p.1
theorem aI.qX {Γ : Ctx} {H : Hp} {a : Act} {w' : World} {H' : Hp} {ρ' : aG} : ∀ (nb : List ak) (j k : Nat) {ρ : aG} {σ : SS} {w : World}, aI Γ H ρ σ a w →
   (∀ b o, H b = some o → w'.heap[b]? = w.heap[b]?) → (∀ b, 0 < aS ρ σ.af b → w'.heap[b]? = w.heap[b]?) → Ext w w' →
   (∀ i B, nb[i]? = some B → cK w'.heap H' ρ' (fun _ => False) B (ρ' (j + i)) ∧ ownB B = true) → (∀ i, i < nb.length → (ρ' (j + i)).1.oneCell' = true) →
   (∀ i x, i < nb.length → 0 < (ρ' (j + i)).2 x → H x = none ∧ aS ρ σ.af x = 0) → (∀ x, aS ρ' (num j nb) x ≤ 1) → (∀ i, i < nb.length → aM σ.af (k + i) = none) →
   ∃ tq, aI Γ H tq { σ with af := qX σ.af k nb } a w' ∧ (∀ i, i < nb.length → av (qX σ.af k nb) (k + i) ∧ (tq (k + i)).1 = (ρ' (j + i)).1) ∧ (∀ i, av σ.af i → av (qX σ.af k nb) i ∧ tq i = ρ i)
 | [], j, k, ρ, σ, w, r, h1, h2, h3, _, _, _, _, _ => by
   refine ⟨ρ, ⟨⟨r.b.oc, r.b.nd, r.b.h0, fun b o hb => ?_, fun k B hk => ?_, r.b.sum, r.b.fresh, r.b.ia⟩, r.e, r.d, r.n.trans h3, r.hd, r.hm⟩, fun i hi => by simp at hi, fun i hi => ⟨hi, rfl⟩⟩
   · rw [h1 b o hb]; exact r.b.hh b o hb
   · exact (r.b.af k B hk).mono (jO.refl _ _ _) fun b hb => h2 b (Nat.lt_of_lt_of_le hb (mO hk b))
 | B :: nb, j, k, ρ, σ, w, r, h1, h2, h3, h4, h5, h6, h7, h8 => by
   have hk : aM σ.af k = none := h8 0 (by simp);obtain ⟨hB, cU⟩ := h4 0 B rfl
   have hle : ∀ x, (ρ' j).2 x ≤ 1 := fun x => by
     have := h7 x;simp only [num, aS] at this;omega
   have r1 := r.s6 (w' := w') (k := k) (B := B) (p := ρ' j) hk h1 h2 h3 (h5 0 (by simp)) (fun x hx => h6 0 x (by simp) hx) hle
     (by cases B with
       | own E xs l => exact hB
       | dead => simp [ownB] at cU
       | box cs => simp [ownB] at cU
       | view E xs => simp [ownB] at cU
       | mp m => simp [ownB] at cU
       | b0 E xs i fs => simp [ownB] at cU) (by rintro rfl; simp [ownB] at cU)
   have gL := jw hk;have hne : ∀ i, av σ.af i → i ≠ k := fun i hi he => gL (he ▸ hi);have e1 : ∀ i, j + 1 + i = j + (i + 1) := fun i => by omega
   have e2 : ∀ i, k + 1 + i = k + (i + 1) := fun i => by omega
   obtain ⟨tq, r2, g1, g2⟩ := aI.qX nb (j + 1) (k + 1) r1 (fun _ _ _ => rfl) (fun _ _ => rfl) (Ext.refl _)
     (fun i A hi => by rw [e1]; exact h4 (i + 1) A (by simpa using hi)) (fun i hi => by rw [e1]; exact h5 (i + 1) (by simpa using hi))
     (fun i x hi hx => by
       rw [e1] at hx;obtain ⟨g1, g2⟩ := h6 (i + 1) x (by simpa using hi) hx;refine ⟨g1, ?_⟩;show aS (cX ρ k (ρ' j)) (dx σ.af k B) x = 0;rw [yr, dG, v7 (ρ := ρ) (ρ' := cX ρ k (ρ' j)) (fun i hi => dg (hne i hi)), g2];have h9 := h7 x;simp only [num, aS] at h9;have bw := mO (ρ := ρ') (bs := num (j + 1) nb) (k := j + (i + 1)) (B := nb[i]) (qF.2 ⟨by omega, by rw [show j + (i + 1) - (j + 1) = i by omega]; exact List.getElem?_eq_getElem hi⟩) x;omega)
     (fun x => by have := h7 x; simp only [num, aS] at this; omega)
     (fun i hi => by
       rw [e2];have h9 := h8 (i + 1) (by simpa using hi)
       have : ∀ bs : List (Nat × ak), aM bs (k + (i + 1)) = none → aM (dx bs k B) (k + (i + 1)) = none := by
        intro bs
        induction bs with
        | nil => intro _; simp [dx, aM]
        | cons p bs ih =>
          intro h;simp only [aM] at h
          split at h
          · cases h
          · rename_i hp;simp only [dx]
            split
            · simp only [aM];rw [if_neg (by omega), if_neg hp]; exact h
            · simp only [aM];rw [if_neg hp]; exact ih h
       exact this _ h9)
   refine ⟨tq, r2, fun i hi => ?_, fun i hi => ?_⟩
   · cases i with
     | zero =>
       obtain ⟨g3, g4⟩ := g2 k (gh.2 (.inl rfl));exact ⟨g3, by rw [Nat.add_zero, g4, dG]; rfl⟩
     | succ i =>
       have := g1 i (by simpa using hi);rw [e1, e2] at this;exact this
   · obtain ⟨g3, g4⟩ := g2 i (gh.2 (.inr hi));exact ⟨g3, by rw [g4, dg (hne i hi)]⟩
def gn (σ : SS) (o : Oper) : Option (V × Call) :=
 match o.op with
 | .call c => match c.callee with
   | .value x => some (σ.ev x, c)
   | _ => none
 | _ => none
def Ct (P : Program) (tab : bf) (σ : SS) (v : V) (c : Call) (dst : Option Nat) (K : SS → Prop) : Prop :=
 match v, dst with
 | .c (.fn f l), some d =>
   if uP σ.af d = true ∧ Cq σ.af l = true ∧ (c.args.toList.map σ.ev).all (V.pY σ.af) = true ∧ c.argTypes.size = c.args.size then
    ag P f (lF tab σ.af c.argTypes.toList (c.args.toList.map σ.ev) ++ l.map (uO σ.af)) fun r nb =>
     nb.length ≤ 8 ∧ K (({ σ with af := qX σ.af (8 * d) nb } : SS).put (some d) (r.dq (8 * d + ·)))
   else False
 | _, _ => False
theorem uQ {tab : bf} {bs : List (Nat × ak)} : ∀ {vs : List V} {Ts : List TypeId}, (lF tab bs Ts vs).length = vs.length
 | [], Ts => by cases Ts <;> rfl
 | v :: vs, [] => by simp [lF, uQ (vs := vs)]
 | v :: vs, T :: Ts => by simp [lF, uQ (vs := vs)]
section
variable {P : Program} {tab : bf} {Γ : Ctx} {H : Hp} {ρ : aG} {σ : SS} {a : Act} {w : World} (r : aI Γ H ρ σ a w)
include r
theorem Cu : ∀ {vs : List V} {Ts : List TypeId} {us : List Value}, (∀ (j : Nat) c v, vs[j]? = some c → us[j]? = some v → RV H ρ (av σ.af) c v) → vs.all (V.pY σ.af) = true → vs.length = us.length →
   ∀ (j : Nat) c v, (lF tab σ.af Ts vs)[j]? = some c → us[j]? = some v → RV (fun b => w.heap[b]?) (fun _ => default) (fun _ => False) c v
 | [], Ts, us, _, _, _, j, c, v, h, _ => by cases Ts <;> simp [lF] at h
 | x :: vs, [], us, hv, ho, hl, j, c, v, h, h' => by
   cases us with
   | nil => simp at hl
   | cons u us =>
     simp only [List.all_cons, Bool.and_eq_true] at ho;cases j with
     | zero => simp [lF] at h; subst h; trivial
     | succ j =>
       simp only [lF, List.getElem?_cons_succ] at h h';exact Cu (Ts := []) (fun j c v g1 g2 => hv (j + 1) c v (by simpa using g1) (by simpa using g2)) ho.2 (by simpa using hl) j c v h h'
 | x :: vs, T :: Ts, us, hv, ho, hl, j, c, v, h, h' => by
   cases us with
   | nil => simp at hl
   | cons u us =>
     simp only [List.all_cons, Bool.and_eq_true] at ho;cases j with
     | zero =>
       simp [lF] at h h'; subst h h';exact GP r.GH (hv 0 x u rfl rfl) ho.1
     | succ j =>
       simp only [lF, List.getElem?_cons_succ] at h h';exact Cu (Ts := Ts) (fun j c v g1 g2 => hv (j + 1) c v (by simpa using g1) (by simpa using g2)) ho.2 (by simpa using hl) j c v h h'
theorem NK {o : Oper} {v : V} {c : Call} {K : SS → Prop} {Q : Exit → Act → World → Prop} (hc : gn σ o = some (v, c)) (h : Ct P tab σ v c o.dst K) :
   o.wp P a w (fun a' w' => ∃ ax, K ax ∧ qK Γ H (gM tab o) w ax a' w') Q := by
 unfold gn at hc
 split at hc
 · rename_i c0 aX
   split at hc
   · rename_i x ff;cases hc;unfold Ct at h
     split at h
     · rename_i f l d hx hd
       split at h
       · rename_i sY;obtain ⟨iw, Cv, Ca, BA⟩ := sY;obtain ⟨post, ⟨⟨fn, pZ, jT, Cw⟩, hs⟩, hk⟩ := h;have ev := jQ r.e x;rw [hx] at ev;obtain ⟨vs, e1, e2, e3⟩ := ev
         have cM : (execOp a.eval o).run P w = .ok (.enter f (c.args.map a.eval ++ vs)) w := by
          simp only [execOp, aX, resolve, ff, Deferred.ofValue, e1, Sem.run_bind, Sem.run_pure, Result.andThen_ok, invoke, callFunc, run_program, pZ, jT, Cw];simp
         have di : args (fun b => w.heap[b]?) (fun _ => default) (fun _ => False) (lF tab σ.af c.argTypes.toList (c.args.toList.map σ.ev) ++ l.map (uO σ.af)) (c.args.map a.eval ++ vs) := by
          refine ⟨by simp [uQ, e2], fun j cv hj => ?_⟩;rw [Array.getD_eq_getD_getElem?]
          by_cases aL : j < c.args.size
          · rw [List.getElem?_append_left (by simpa [uQ] using aL)] at hj;rw [Array.getElem?_append_left (by simpa using aL)];have h1 : (c.args.map a.eval).toList[j]? = some (a.eval c.args[j]) := by simp [aL]
            have h2 := Cu r (wi r c.args) Ca (by simp) j cv _ hj h1;simpa [aL] using h2
          · rw [List.getElem?_append_right (by simpa [uQ] using Nat.le_of_not_lt aL)] at hj;rw [Array.getElem?_append_right (by simpa using Nat.le_of_not_lt aL)];simp only [uQ, List.length_map, Array.length_toList, Array.size_map, List.getElem?_map, Option.map_eq_some_iff] at hj ⊢;obtain ⟨c0, h1, rfl⟩ := hj;have h2 := e3 _ c0 h1;have h3 := List.all_eq_true.1 Cv c0 (List.mem_of_getElem? h1);rw [← Array.getD_eq_getD_getElem?];exact GQ r.GH h2 h3
         unfold Oper.wp;rw [cM];simp only [Oper.upon];refine (hs w _ di).mono fun e w' he => ?_;obtain ⟨v, rv, nb, H', ρ', rfl, hp, cU, hB, hv, bj⟩ := he;obtain ⟨hlen, hK⟩ := hk rv nb hp;have mY : ∀ x o, w.heap[x]? = some o → w'.heap[x]? = some o := fun x o hx => hB.hh x o (hB.h0 x o hx);have oq : ∀ x, x < w.heap.size → w'.heap[x]? = w.heap[x]? := fun x hx => by rw [Array.getElem?_eq_getElem hx]; exact mY x _ (Array.getElem?_eq_getElem hx)
         have ot : ∀ i, i < nb.length → aM σ.af (8 * d + i) = none := fun i hi => by
          have : ∀ bs : List (Nat × ak), uP bs d = true → aM bs (8 * d + i) = none := by
            intro bs
            induction bs with
            | nil => intro _; rfl
            | cons p bs ih =>
              intro wV;simp only [uP, List.all_cons, Bool.and_eq_true, Bool.or_eq_true, decide_eq_true_eq] at wV;simp only [aM];rw [if_neg (by omega)];exact ih wV.2
          exact this _ iw
         have GR : ∀ (i : Nat) B, nb[i]? = some B → (i, B) ∈ num 0 nb := fun i B hi => qF.2 ⟨Nat.zero_le _, by simpa using hi⟩
         obtain ⟨tq, r1, g1, g2⟩ := aI.qX (H' := H') (ρ' := ρ') (w' := w') nb 0 (8 * d) r (fun b o hb => oq b (ky (r.b.hh b o hb))) (fun b hb => oq b (r.lt hb)) bj
          (fun i B hi => by
            have h1 := hB.af i B (GR i B hi);rw [Nat.zero_add];have h2 := List.all_eq_true.1 cU B (List.mem_of_getElem? hi);refine ⟨?_, h2⟩;cases B with
            | own E xs l => exact h1
            | dead => cases h2
            | box cs => cases h2
            | view E xs => cases h2
            | mp m => cases h2
            | b0 E xs i fs => cases h2)
          (fun i hi => by rw [Nat.zero_add]; exact hB.oc i (nU.2 ⟨Nat.zero_le _, by omega⟩))
          (fun i x hi hx => by
            rw [Nat.zero_add] at hx;have h1 := hB.fresh i _ (GR i _ (List.getElem?_eq_getElem hi)) x hx;refine r.ur ?_;rcases Nat.lt_or_ge x w.heap.size with h2 | h2
            · rw [Array.getElem?_eq_getElem h2] at h1; cases h1
            · exact h2)
          hB.sum ot
         refine ⟨_, hK, ⟨tq, ?_⟩, fun _ => mY⟩;rw [hd];refine aI.put r1 (RV.dq (m := fun i => 8 * d + i) (D := av (num 0 nb)) (ρ := ρ') (fun i hi => ?_) (hv.grow (H' := H) (ρ' := ρ') (D' := av (num 0 nb)) ⟨(fun _ _ h => by cases h), (fun _ h => ⟨h, rfl⟩)⟩)) (some d);obtain ⟨_, hi⟩ := nU.1 hi;have := g1 i (by omega);rw [Nat.zero_add] at this;exact this
       · cases h
     · cases h
   · cases hc
 · cases hc
end
def C.nm : C → List Nat
 | .own k => [k]
 | .ptr k _ => [k]
 | _ => []
def wW : List C → List Nat
 | [] => []
 | c :: cs => c.nm ++ wW cs
def V.nm : V → List Nat
 | .c x => x.nm
 | .agg cs => wW cs
 | .bc _ => []
def C.pass : C → Bool
 | .own _ | .ptr _ _ | .bl _ | .nil | .undef => true
 | .lf l => l.sc
 | _ => false
def V.pass : V → Bool
 | .c x => x.pass
 | .agg cs => cs.all C.pass
 | .bc _ => false
def qY (ks : List Nat) : List Nat → List Nat
 | [] => ks
 | x :: xs => if ks.contains x then qY ks xs else qY (ks ++ [x]) xs
def NL : Option ak → List Nat
 | some (.box cs) => wW cs
 | _ => []
def jU : List Bool → List V → List Nat
 | true :: ms, v :: vs => v.nm ++ jU ms vs
 | false :: ms, _ :: vs => jU ms vs
 | _, _ => []
def GS (bs : List (Nat × ak)) : List Nat → List Nat
 | [] => []
 | k :: ks => NL (aM bs k) ++ GS bs ks
def ig (bs : List (Nat × ak)) (ms : List Bool) (vs : List V) : List Nat :=
 qY (qY [] (jU ms vs)) (GS bs (qY [] (jU ms vs)))
def l_ (ks : List Nat) : List (Nat × ak) → List (Nat × ak)
 | [] => []
 | p :: bs => if ks.contains p.1 then l_ ks bs else p :: l_ ks bs
def C.box (ks : List Nat) : C → Bool
 | .own k => ks.contains k
 | .lf l => l.sc
 | .bl _ | .nil | .undef => true
 | _ => false
def uR (ks : List Nat) : Option ak → Option ak
 | some (.own E xs false) => some (.own E xs false)
 | some (.view E xs) => some (.view E xs)
 | some (.box cs) => if cs.all (C.box ks) = true then some (.box (kz (place ks) cs)) else none
 | _ => none
def wX (bs : List (Nat × ak)) (ks : List Nat) : List Nat → Option (List ak)
 | [] => some []
 | k :: r => match uR ks (aM bs k), wX bs ks r with | some B, some l => some (B :: l) | _, _ => none
def ji (tab : bf) (bs : List (Nat × ak)) (ks : List Nat) : List Bool → List TypeId → List V → List V
 | _, _, [] => []
 | true :: ms, Ts, v :: vs => v.dq (place ks) :: ji tab bs ks ms Ts.tail vs
 | ms, T :: Ts, v :: vs => y6 tab bs T v :: ji tab bs ks ms.tail Ts vs
 | ms, [], _ :: vs => .c .undef :: ji tab bs ks ms.tail [] vs
def p6 (bs : List (Nat × ak)) : List Bool → List V → Bool
 | _, [] => true
 | true :: ms, v :: vs => v.pass && p6 bs ms vs
 | ms, v :: vs => v.pY bs && p6 bs ms.tail vs
def jV (ks : List Nat) (d j : Nat) : Nat := if j < 100 then ks.getD j 0 else 8 * d + (j - 100)
def ak.dq (m : Nat → Nat) : ak → ak
 | .box cs => .box (kz m cs)
 | B => B
def ma (bs : List (Nat × ak)) (k : Nat) (B : ak) : List (Nat × ak) :=
 match aM bs k with
 | some _ => bO bs k B
 | none => dx bs k B
def qZ (m : Nat → Nat) : List (Nat × ak) → List (Nat × ak) → List (Nat × ak)
 | [], bs => bs
 | (_, .dead) :: r, bs => qZ m r bs
 | (j, B) :: r, bs => qZ m r (ma bs (m j) (B.dq m))
def lG (bs : List (Nat × ak)) : List Nat → List (Nat × ak) → List (Nat × ak)
 | [], cs => cs
 | k :: ks, cs => match aM bs k with
   | some (.view E xs) => (match aM cs k with | some .dead => lG bs ks (bO cs k (.view E xs)) | _ => lG bs ks cs)
   | _ => lG bs ks cs
def C.bk (n : Nat) : C → Bool
 | .own k => decide (k < n)
 | .lf l => l.sc
 | .bl _ | .nil | .undef => true
 | _ => false
def wY (n : Nat) (p : Nat × ak) : Bool :=
 (decide (p.1 < n) || (decide (100 ≤ p.1) && decide (p.1 < 108))) &&
  match p.2 with
  | .own _ _ false => true
  | .box cs => cs.all (C.bk n)
  | .dead => decide (p.1 < n)
  | _ => false
inductive aB (P : Program) (f : FuncId) (as : List V) (bs : List (Nat × ak)) (K : V → List (Nat × ak) → Prop) : Prop where
 | mk (post : V → List (Nat × ak) → Prop) (hs : bE P f as bs post) (hk : ∀ r cd, post r cd → K r cd)
def Cx (P : Program) (tab : bf) (σ : SS) (f : FuncId) (l : List Cp) (ms : List Bool) (c : Call) (d : Nat) (K : SS → Prop) : Prop :=
 match wX σ.af (ig σ.af ms (c.args.toList.map σ.ev)) (ig σ.af ms (c.args.toList.map σ.ev)) with
 | some nb =>
   if uP σ.af d = true ∧ nb.length ≤ 100 ∧ eQ (ig σ.af ms (c.args.toList.map σ.ev)) = true ∧ Cq (l_ (ig σ.af ms (c.args.toList.map σ.ev)) σ.af) l = true ∧ c.argTypes.size = c.args.size ∧
     p6 (l_ (ig σ.af ms (c.args.toList.map σ.ev)) σ.af) ms (c.args.toList.map σ.ev) = true then
    aB P f (ji tab (l_ (ig σ.af ms (c.args.toList.map σ.ev)) σ.af) (ig σ.af ms (c.args.toList.map σ.ev)) ms c.argTypes.toList (c.args.toList.map σ.ev) ++ l.map (uO (l_ (ig σ.af ms (c.args.toList.map σ.ev)) σ.af))) (num 0 nb) fun r cd =>
     (cd.all (wY nb.length) = true ∧ r.cl = true) ∧
      K (({ σ with af := lG σ.af (ig σ.af ms (c.args.toList.map σ.ev)) (qZ (jV (ig σ.af ms (c.args.toList.map σ.ev)) d) cd (fD σ.af (ig σ.af ms (c.args.toList.map σ.ev)))) } : SS).put (some d) (r.dq (jV (ig σ.af ms (c.args.toList.map σ.ev)) d)))
   else False
 | none => False
def y8 (P : Program) (tab : bf) (σ : SS) (v : V) (c : Call) (dst : Option Nat) (K : SS → Prop) : Prop :=
 match v, dst with
 | .c (.fn f l), some d =>
   match v8 tab f with
   | some ms => Cx P tab σ f l ms c d K
   | none => Ct P tab σ v c dst K
 | _, _ => False
theorem NM {ks : List Nat} {bs : List (Nat × ak)} {k : Nat} {B : ak} (h : aM (l_ ks bs) k = some B) : aM bs k = some B ∧ k ∉ ks := by
 induction bs with
 | nil => simp [l_, aM] at h
 | cons p bs ih =>
   simp only [l_] at h
   split at h
   · rename_i hc;obtain ⟨h1, h2⟩ := ih h;refine ⟨?_, h2⟩;simp only [aM];rw [if_neg fun he => h2 (by rw [← he]; simpa using hc)];exact h1
   · rename_i hc;simp only [aM] at h ⊢
     split at h
     · rename_i he;cases h;rw [if_pos he];exact ⟨rfl, by rw [← he]; simpa using hc⟩
     · rename_i he;rw [if_neg he];exact ih h
theorem Cy {bs : List (Nat × ak)} {k : Nat} {B : ak} {j : Nat} : av (ma bs k B) j ↔ j = k ∨ av bs j := by
 unfold ma
 split
 · rename_i hk;rw [fc];exact ⟨.inr, fun h => by rcases h with rfl | h; exact fB hk; exact h⟩
 · exact gh
theorem NN {l : List Nat} (h : eQ l = true) : l.Nodup := by
 induction l with
 | nil => simp
 | cons x l ih => obtain ⟨h1, h2⟩ := wx h; exact List.nodup_cons.2 ⟨h1, ih h2⟩
section
variable {Γ : Ctx} {H : Hp} {a : Act} {w w' : World}
theorem aI.move {ρ : aG} {σ : SS} (r : aI Γ H ρ σ a w) (h1 : ∀ b o, H b = some o → w'.heap[b]? = w.heap[b]?) (h2 : ∀ b, 0 < aS ρ σ.af b → w'.heap[b]? = w.heap[b]?) (h3 : Ext w w') : aI Γ H ρ σ a w' := by
 refine ⟨⟨r.b.oc, r.b.nd, r.b.h0, fun b o hb => ?_, fun k B hk => ?_, r.b.sum, r.b.fresh, r.b.ia⟩, r.e, r.d, r.n.trans h3, r.hd, r.hm⟩
 · rw [h1 b o hb]; exact r.b.hh b o hb
 · exact (r.b.af k B hk).mono (jO.refl _ _ _) fun b hb => h2 b (Nat.lt_of_lt_of_le hb (mO hk b))
theorem Cz {bs : List (Nat × ak)} {k : Nat} {B : ak} : av (bO bs k B) = av bs := by funext j; exact propext fc
theorem aI.NO {ρ : aG} {σ : SS} (r : aI Γ H ρ σ a w) {k : Nat} (hne : ∀ p ∈ Γ.hd, p.1 ≠ k) {B : ak} {p : Value × (Nat → Nat)} (hk : aM σ.af k = none ∨ (aM σ.af k = some .dead ∧ p.1 = (ρ k).1)) (ew : p.1.oneCell' = true)
   (dM : ∀ x, 0 < p.2 x → H x = none ∧ aS ρ σ.af x = 0) (hle : ∀ x, p.2 x ≤ 1) (hB : ∀ ρ' : aG, ∀ D' : Nat → Prop, (∀ q, q ≠ k → ρ' q = ρ q) → (ρ' k).1 = p.1 → (∀ q, av σ.af q → D' q) → D' k → cK w.heap H ρ' D' B p) (wo : B ≠ .dead)
   (ta : ∀ x, fV B p x → 0 < p.2 x) :
   ∃ ρ', aI Γ H ρ' { σ with af := ma σ.af k B } a w ∧ (∀ q, q ≠ k → ρ' q = ρ q) ∧ ρ' k = p := by
 rcases hk with hk | ⟨hk, hp⟩
 · have r1 := r.s6 (w' := w) (k := k) (B := B) (p := p) hk (fun _ _ _ => rfl) (fun _ _ => rfl) (Ext.refl _) ew dM hle (hB _ _ (fun q hq => dg hq) (by rw [dG]) (fun q hq => gh.2 (.inr hq)) (gh.2 (.inl rfl))) wo;refine ⟨_, ?_, fun q hq => dg hq, dG _ _ _⟩;unfold ma;rw [hk];exact r1
 · have hz : ∀ x, (ρ k).2 x = 0 := fun x => by
    have := r.b.af k _ (de hk);rw [this]
   obtain ⟨pv, ps⟩ := p;simp only at hp;subst hp
   have r1 := r.B8 (w' := w) (k := k) hne (B := B) (p := ps) (fB hk) hz (fun _ _ _ => rfl) (Ext.refl _)
    (hB (cX ρ k ((ρ k).1, ps)) (av (bO σ.af k B)) (fun q hq => dg hq) (by rw [dG]) (fun q hq => fc.2 hq) (fc.2 (fB hk))) ta dM hle
   refine ⟨_, ?_, fun q hq => dg hq, dG _ _ _⟩;unfold ma;rw [hk];exact r1
theorem aI.NP {ρ : aG} {σ : SS} (r : aI Γ H ρ σ a w) {k : Nat} {E : an} {xs : Unit → List E.α} (hk : aM σ.af k = some .dead) (hv : RL H (.list E xs) (ρ k).1) : aI Γ H ρ { σ with af := bO σ.af k (.view E xs) } a w := by
 have hz : (ρ k).2 = fun _ => 0 := r.b.af k _ (de hk);have hd : av (bO σ.af k (.view E xs)) = av σ.af := Cz;refine ⟨⟨fun j hj => r.b.oc j (hd ▸ hj), by rw [sS]; exact r.b.nd, r.b.h0, r.b.hh, fun j B hj => ?_, fun x => ?_, fun j B hj x hx => ?_, fun j B hj x hx => ?_⟩, ?_, r.d, r.n, fun p hp => ?_, fun p hp => ?_⟩
 · show cK w.heap H ρ (av (bO σ.af k (.view E xs))) B (ρ j);rw [hd];rcases ko r.b.nd hj with ⟨rfl, rfl⟩ | ⟨_, h⟩
   · exact ⟨hv, hz⟩
   · exact r.b.af j B h
 · have h1 := sU (ρ := ρ) (ρ' := ρ) r.b.nd (B := .view E xs) (fB hk) (fun _ _ => rfl) x;have h2 := r.b.sum x;show aS ρ (bO σ.af k (.view E xs)) x ≤ 1;omega
 · rcases ko r.b.nd hj with ⟨rfl, rfl⟩ | ⟨_, h⟩
   · rw [hz] at hx; simp at hx
   · exact r.b.fresh j B h x hx
 · rcases ko r.b.nd hj with ⟨rfl, rfl⟩ | ⟨_, h⟩
   · exact hx.elim
   · exact r.b.ia j B h x hx
 · show nN H ρ (av (bO σ.af k (.view E xs))) σ.env a.tmps;rw [hd]; exact r.e
 · have := r.hd p hp;exact ⟨by show av (bO σ.af k (.view E xs)) p.1; rw [hd]; exact this.1, this.2⟩
 · have := r.hm p hp;exact ⟨by show av (bO σ.af k (.view E xs)) p.1; rw [hd]; exact this.1, this.2⟩
theorem aI.lG {ρ : aG} {bs : List (Nat × ak)} : ∀ (ks : List Nat) {σ : SS}, aI Γ H ρ σ a w → (∀ k ∈ ks, ∀ (E : an) (xs : Unit → List E.α), aM bs k = some (.view E xs) → RL H (.list E xs) (ρ k).1) →
   aI Γ H ρ { σ with af := Go.Proofs.YtehpbaiclfilaaaGreat.lG bs ks σ.af } a w ∧ av (Go.Proofs.YtehpbaiclfilaaaGreat.lG bs ks σ.af) = av σ.af
 | [], σ, r, _ => ⟨r, rfl⟩
 | k :: ks, σ, r, h => by
   have h' := fun j hj => h j (List.mem_cons_of_mem _ hj);simp only [Go.Proofs.YtehpbaiclfilaaaGreat.lG]
   split
   · rename_i E xs hg
     split
     · rename_i hk;obtain ⟨q1, q2⟩ := aI.lG ks (r.NP hk (h k List.mem_cons_self E xs hg)) h';exact ⟨q1, q2.trans Cz⟩
     · exact aI.lG ks r h'
   · exact aI.lG ks r h'
theorem aI.CA {m : Nat → Nat} {n : Nat} {H' : Hp} {ρ2 : aG} {D2 : Nat → Prop} : ∀ (l : List (Nat × ak)) {ρ : aG} {σ : SS}, aI Γ H ρ σ a w → (∀ p ∈ Γ.hd, ∀ j B, (j, B) ∈ l → p.1 ≠ m j) →
   (l.all (wY n) = true) → (∀ j B, (j, B) ∈ l → cK w.heap H' ρ2 D2 B (ρ2 j) ∧ (ρ2 j).1.oneCell' = true ∧ (aM σ.af (m j) = none ∨ (aM σ.af (m j) = some .dead ∧ (ρ2 j).1 = (ρ (m j)).1))) →
   (∀ j B, (j, B) ∈ l → ∀ x, 0 < (ρ2 j).2 x → H x = none ∧ aS ρ σ.af x = 0) → (∀ x, aS ρ2 l x ≤ 1) → ((l.map fun p => m p.1).Nodup) → (∀ j, j < n → D2 j → av σ.af (m j) ∧ (ρ2 j).1 = (ρ (m j)).1) → (∀ j B, (j, B) ∈ l → D2 j) →
   ∃ ρ', aI Γ H ρ' { σ with af := qZ m l σ.af } a w ∧ (∀ q, av σ.af q → av (qZ m l σ.af) q) ∧ (∀ q, q ∉ l.map (fun p => m p.1) → ρ' q = ρ q) ∧ (∀ j B, (j, B) ∈ l → av (qZ m l σ.af) (m j) ∧ ρ' (m j) = ρ2 j)
 | [], ρ, σ, r, _, _, _, _, _, _, _, _ => ⟨ρ, r, fun q hq => hq, fun q _ => rfl, fun j B hj => by cases hj⟩
 | (j, B) :: l, ρ, σ, r, hne, cE, gX, dM, fM, fW, fE, hD => by
   by_cases l8 : B = .dead
   · subst l8;simp only [List.all_cons, Bool.and_eq_true] at cE;simp only [List.map_cons, List.nodup_cons] at fW
     obtain ⟨ρ', r', g3, g4, g5⟩ := aI.CA (m := m) (n := n) (H' := H') (ρ2 := ρ2) (D2 := D2) l r (fun p hp j' B' h => hne p hp j' B' (List.mem_cons_of_mem _ h)) cE.2 (fun j' B' h => gX j' B' (List.mem_cons_of_mem _ h)) (fun j' B' h => dM j' B' (List.mem_cons_of_mem _ h))
       (fun x => by have := fM x; simp only [aS] at this; omega) fW.2 fE (fun j' B' h => hD j' B' (List.mem_cons_of_mem _ h))
     refine ⟨ρ', r', g3, fun q hq => g4 q fun h => hq (List.mem_cons_of_mem _ h), fun j' B' h => ?_⟩;rcases List.mem_cons.1 h with h | h
     · cases h;obtain ⟨hB, _, hk⟩ := gX j .dead List.mem_cons_self
       have hj : j < n := by
         have := cE.1;simp only [wY, Bool.and_eq_true, decide_eq_true_eq] at this;exact this.2
       obtain ⟨q1, q2⟩ := fE j hj (hD j _ List.mem_cons_self);rcases hk with hk | ⟨hk, _⟩
       · exact (jw hk q1).elim
       · refine ⟨g3 _ q1, ?_⟩;rw [g4 _ fW.1];have e1 : (ρ (m j)).2 = fun _ => 0 := r.b.af _ _ (de hk);have e2 : (ρ2 j).2 = fun _ => 0 := hB;exact Prod.ext q2.symm (by rw [e1, e2])
     · exact g5 j' B' h
   have eg : ∀ bs, qZ m ((j, B) :: l) bs = qZ m l (ma bs (m j) (B.dq m)) := fun bs => by
     cases B with
     | dead => exact (l8 rfl).elim
     | _ => rfl
   simp only [eg];simp only [List.all_cons, Bool.and_eq_true] at cE;simp only [List.map_cons, List.nodup_cons] at fW;obtain ⟨hB, ew, hk⟩ := gX j B List.mem_cons_self;have hle : ∀ x, (ρ2 j).2 x ≤ 1 := fun x => by have := fM x; simp only [aS] at this; omega
   have m3 := cE.1;unfold wY at m3;simp only [Bool.and_eq_true] at m3
   obtain ⟨ρ1, r1, g1, g2⟩ := r.NO (B := B.dq m) (p := ρ2 j) (fun p hp => hne p hp j B List.mem_cons_self) hk ew (dM j B List.mem_cons_self) hle (fun ρ' D' h1 NQ h2 h3 => by
       cases B with
       | own E xs l => exact hB
       | box cs =>
         obtain ⟨b, vs, e, fz, e1, e2, e3, e4, e5⟩ := hB;refine ⟨b, vs, e, fz, e1, e2, e3, e4, by rw [uw]; exact e5.1, fun q c hq => ?_⟩;obtain ⟨c0, cO, rfl⟩ := uv hq;have hc := e5.2 q c0 cO;have ou := List.all_eq_true.1 m3.2 c0 (List.mem_of_getElem? cO);cases c0 with
         | own k =>
           simp only [C.bk, decide_eq_true_eq] at ou;obtain ⟨f1, f2⟩ := hc;obtain ⟨f3, f4⟩ := fE k ou f1;refine ⟨h2 _ f3, ?_⟩;rw [f2]
           by_cases pW : m k = m j
           · rw [pW, NQ, f4, pW];rcases hk with hk | ⟨hk, bD⟩
             · exact (jw hk (pW ▸ f3)).elim
             · exact bD.symm
           · rw [h1 _ pW]; exact f4
         | lf l => cases l <;> first | exact (RC.cl (H' := H) (ρ := ρ') (D := D') (c := .lf _) (by first | exact hc) rfl) | exact (by cases ou)
         | bl b => exact hc
         | nil => exact hc
         | undef => trivial
         | ptr k off => cases ou
         | el E x off => cases ou
         | bZ ls off => cases ou
         | fq k E i off => cases ou
         | fn f l => cases ou
       | dead => exact (l8 rfl).elim
       | view E xs => cases m3.2
       | mp m => cases m3.2
       | b0 E xs i fs => cases m3.2) (by cases B <;> simp [ak.dq] at m3 l8 ⊢) (fun x hx => by
       cases B with
       | own E xs l => cases l with
         | false => exact hx
         | true => cases m3.2
       | box cs => exact hx
       | dead => exact (l8 rfl).elim
       | view E xs => cases m3.2
       | mp m => cases m3.2
       | b0 E xs i fs => cases m3.2)
   have cA : ∀ j' B', (j', B') ∈ l → m j' ≠ m j := fun j' B' h he => fW.1 (by rw [← he]; exact List.mem_map.2 ⟨_, h, rfl⟩)
   have gB : ∀ x, aS ρ1 (ma σ.af (m j) (B.dq m)) x = aS ρ σ.af x + (ρ2 j).2 x := fun x => by
     unfold ma
     split
     · rename_i A hA;have h1 := sU (ρ := ρ) (ρ' := ρ1) r.b.nd (B := B.dq m) (fB hA) (fun q hq => g1 q hq) x;rw [g2] at h1
       have h2 : (ρ (m j)).2 x = 0 := by
         rcases hk with hk | ⟨hk, _⟩
         · rw [hk] at hA; cases hA
         · have := r.b.af _ _ (de hk); rw [this]
       omega
     · rename_i hA;rw [yr, g2, v7 (ρ := ρ) (ρ' := ρ1) fun q hq => g1 q fun he => jw hA (he ▸ hq)];omega
   obtain ⟨ρ', r', g3, g4, g5⟩ := aI.CA (m := m) (n := n) (H' := H') (ρ2 := ρ2) (D2 := D2) l r1 (fun p hp j' B' h => hne p hp j' B' (List.mem_cons_of_mem _ h)) cE.2
     (fun j' B' cL => by
       obtain ⟨q1, q2, q3⟩ := gX j' B' (List.mem_cons_of_mem _ cL);have hne := cA j' B' cL;refine ⟨q1, q2, ?_⟩
       have cT : aM (ma σ.af (m j) (B.dq m)) (m j') = aM σ.af (m j') := by
         unfold ma
         split
         · have : ∀ bs : List (Nat × ak), aM (bO bs (m j) (B.dq m)) (m j') = aM bs (m j') := by
             intro bs
             induction bs with
             | nil => rfl
             | cons p bs ih =>
               simp only [bO]
               split
               · rename_i hp;simp only [aM, hp, if_neg (Ne.symm hne)]
               · simp only [aM, ih]
           exact this _
         · have : ∀ bs : List (Nat × ak), aM (dx bs (m j) (B.dq m)) (m j') = aM bs (m j') := by
             intro bs
             induction bs with
             | nil => simp only [dx, aM, if_neg (Ne.symm hne)]
             | cons p bs ih =>
               simp only [dx]
               split
               · simp only [aM, if_neg (Ne.symm hne)]
               · simp only [aM, ih]
           exact this _
       rw [cT, g1 _ hne];exact q3)
     (fun j' B' cL x hx => by
       obtain ⟨q1, q2⟩ := dM j' B' (List.mem_cons_of_mem _ cL) x hx;refine ⟨q1, ?_⟩;show aS ρ1 (ma σ.af (m j) (B.dq m)) x = 0;rw [gB, q2];have h1 := fM x;have h2 := mO (ρ := ρ2) cL x;simp only [aS] at h1;omega)
     (fun x => by have := fM x; simp only [aS] at this; omega) fW.2
     (fun q hq hD => by
       obtain ⟨q1, q2⟩ := fE q hq hD;refine ⟨Cy.2 (.inr q1), ?_⟩
       by_cases he : m q = m j
       · rw [he, g2];rw [q2, he];rcases hk with hk | ⟨_, hk⟩
         · exact (jw hk (he ▸ q1)).elim
         · exact hk.symm
       · rw [g1 _ he]; exact q2) (fun j' B' h => hD j' B' (List.mem_cons_of_mem _ h))
   refine ⟨ρ', r', fun q hq => g3 q (Cy.2 (.inr hq)), fun q hq => ?_, fun j' B' cL => ?_⟩
   · simp only [List.map_cons, List.mem_cons, not_or] at hq;rw [g4 q hq.2, g1 q hq.1]
   · rcases List.mem_cons.1 cL with h | h
     · cases h;exact ⟨g3 _ (Cy.2 (.inl rfl)), by rw [g4 _ fW.1, g2]⟩
     · exact g5 j' B' h
end
theorem NR {bs : List (Nat × ak)} {k j : Nat} {B : ak} (h : j ≠ k) : aM (bO bs k B) j = aM bs j := by
 induction bs with
 | nil => rfl
 | cons p bs ih =>
   simp only [bO]
   split
   · rename_i hp;simp only [aM, hp, if_neg (Ne.symm h)]
   · simp only [aM, ih]
theorem GU : ∀ {ks : List Nat} {bs : List (Nat × ak)} {k : Nat}, av bs k → (k ∈ ks ∨ aM bs k = some .dead) → aM (fD bs ks) k = some .dead
 | [], bs, k, _, h => h.resolve_left (by simp)
 | j :: ks, bs, k, hd, h => by
   simp only [fD];refine GU (fc.2 hd) ?_
   by_cases hk : k = j
   · subst hk; exact .inr (B7 hd)
   · rw [NR hk];rcases h with h | h
     · rcases List.mem_cons.1 h with h | h
       · exact (hk h).elim
       · exact .inl h
     · exact .inr h
theorem GV : ∀ {ks r : List Nat} {bs : List (Nat × ak)} {nb : List ak}, wX bs ks r = some nb → nb.length = r.length ∧ ∀ (j : Nat) B, nb[j]? = some B → ∃ k A, r[j]? = some k ∧ aM bs k = some A ∧ uR ks (some A) = some B
 | ks, [], bs, nb, h => by simp only [wX, Option.some.injEq] at h; subst h; exact ⟨rfl, fun j B hj => by simp at hj⟩
 | ks, k :: r, bs, nb, h => by
   simp only [wX] at h
   split at h
   · rename_i B l h1 h2;cases h;obtain ⟨g1, g2⟩ := GV h2;refine ⟨by simp [g1], fun j B' hj => ?_⟩;cases j with
     | zero =>
       simp at hj; subst hj;cases hg : aM bs k with
       | none => rw [hg] at h1; simp [uR] at h1
       | some A => exact ⟨k, A, rfl, hg, by rw [← hg]; exact h1⟩
     | succ j => simpa using g2 j B' (by simpa using hj)
   · cases h
theorem CB {ks : List Nat} {A B : ak} (h : uR ks (some A) = some B) : (∃ E xs, A = .own E xs false ∧ B = .own E xs false) ∨ (∃ cs, A = .box cs ∧ cs.all (C.box ks) = true ∧ B = .box (kz (place ks) cs)) ∨ ∃ E xs, A = .view E xs ∧ B = .view E xs := by
 unfold uR at h
 split at h
 · rename_i E xs hA; cases hA; cases h; exact .inl ⟨E, xs, rfl, rfl⟩
 · rename_i E xs hA; cases hA; cases h; exact .inr (.inr ⟨E, xs, rfl, rfl⟩)
 · rename_i cs hA;cases hA
   split at h
   · rename_i hc; cases h; exact .inr (.inl ⟨cs, rfl, hc, rfl⟩)
   · cases h
 · cases h
theorem GW {ks xs : List Nat} {k : Nat} (h : k ∈ ks ∨ k ∈ xs) : k ∈ qY ks xs := by
 induction xs generalizing ks with
 | nil => simpa [qY] using h
 | cons x xs ih =>
   simp only [qY]
   split
   · rename_i hc;refine ih ?_;rcases h with h | h
     · exact .inl h
     · rcases List.mem_cons.1 h with rfl | h
       · exact .inl (by simpa using hc)
       · exact .inr h
   · refine ih ?_;rcases h with h | h
     · exact .inl (List.mem_append_left _ h)
     · rcases List.mem_cons.1 h with rfl | h
       · exact .inl (List.mem_append_right _ List.mem_cons_self)
       · exact .inr h
theorem NS {cs : List C} {c : C} {k : Nat} (hc : c ∈ cs) (hk : k ∈ c.nm) : k ∈ wW cs := by
 induction cs with
 | nil => cases hc
 | cons x cs ih =>
   simp only [wW, List.mem_append];cases hc with
   | head => exact .inl hk
   | tail _ hc => exact .inr (ih hc)
section
variable {H H1 : Hp} {ρ ρ1 : aG} {D D1 : Nat → Prop} {ks : List Nat}
theorem RC.hand (iO : ∀ k, k ∈ ks → D1 (place ks k) ∧ (ρ1 (place ks k)).1 = (ρ k).1) {c : C} {v : Value} (h : RC H ρ D c v) (hp : c.pass = true) (hn : ∀ k ∈ c.nm, k ∈ ks) : RC H1 ρ1 D1 (c.dq (place ks)) v := by
 cases c with
 | own k =>
   obtain ⟨_, h1⟩ := h;have := iO k (hn k (by simp [C.nm]));exact ⟨this.1, by rw [this.2]; exact h1⟩
 | ptr k off =>
   obtain ⟨_, b, h1, h2⟩ := h;have := iO k (hn k (by simp [C.nm]));exact ⟨this.1, b, by rw [this.2]; exact h1, h2⟩
 | lf l => cases l <;> first | exact (RC.cl (H' := H1) (ρ := ρ1) (D := D1) (c := .lf _) (by first | exact h) rfl) | exact (by cases hp)
 | bl b => exact h
 | nil => exact h
 | undef => trivial
 | el E x off => cases hp
 | bZ ls off => cases hp
 | fq k E i off => cases hp
 | fn f l => cases hp
theorem RV.hand (iO : ∀ k, k ∈ ks → D1 (place ks k) ∧ (ρ1 (place ks k)).1 = (ρ k).1) {c : V} {v : Value} (h : RV H ρ D c v) (hp : c.pass = true) (hn : ∀ k ∈ c.nm, k ∈ ks) : RV H1 ρ1 D1 (c.dq (place ks)) v := by
 cases c with
 | c x => exact RC.hand iO h hp hn
 | agg cs =>
   obtain ⟨vs, h1, h2⟩ := h;refine ⟨vs, h1, by rw [uw]; exact h2.1, fun j c hj => ?_⟩;obtain ⟨c0, cO, rfl⟩ := uv hj;exact RC.hand iO (h2.2 j c0 cO) (List.all_eq_true.1 hp c0 (List.mem_of_getElem? cO)) fun k hk => hn k (NS (List.mem_of_getElem? cO) hk)
 | bc cs => cases hp
theorem uS {tab : bf} {bs : List (Nat × ak)} : ∀ {vs : List V} {ms : List Bool} {Ts : List TypeId}, (ji tab bs ks ms Ts vs).length = vs.length
 | [], ms, Ts => by cases ms <;> simp [ji]
 | v :: vs, ms, Ts => by
   rcases ms with _ | ⟨m, ms⟩
   · cases Ts <;> simp [ji, uS (vs := vs)]
   · cases m <;> cases Ts <;> simp [ji, uS (vs := vs)]
def CC (tab : bf) (bs : List (Nat × ak)) (x : V) : List TypeId → V
 | T :: _ => y6 tab bs T x
 | [] => .c .undef
theorem GX {w : World} {tab : bf} {bs : List (Nat × ak)} (L : y7 w H H1 ρ D bs) (iO : ∀ k, k ∈ ks → D1 (place ks k) ∧ (ρ1 (place ks k)).1 = (ρ k).1) :
   ∀ {vs : List V} {ms : List Bool} {Ts : List TypeId} {us : List Value}, (∀ (j : Nat) c v, vs[j]? = some c → us[j]? = some v → RV H ρ D c v) → p6 bs ms vs = true → (∀ k ∈ jU ms vs, k ∈ ks) → vs.length = us.length →
   ∀ (j : Nat) c v, (ji tab bs ks ms Ts vs)[j]? = some c → us[j]? = some v → RV H1 ρ1 D1 c v
 | [], ms, Ts, us, _, _, _, _, j, c, v, h, _ => by rcases ms with _ | ⟨m, ms⟩ <;> simp [ji] at h
 | x :: vs, ms, Ts, [], _, _, _, hl, _, _, _, _, _ => by simp at hl
 | x :: vs, ms, Ts, u :: us, hv, ho, hn, hl, j, c, v, h, h' => by
   have rest : ∀ {ms' : List Bool} {Ts' : List TypeId}, p6 bs ms' vs = true → (∀ k ∈ jU ms' vs, k ∈ ks) → ∀ (j : Nat) c v, (ji tab bs ks ms' Ts' vs)[j]? = some c → us[j]? = some v → RV H1 ρ1 D1 c v := fun g1 g2 =>
     GX L iO (fun j c v q1 q2 => hv (j + 1) c v (by simpa using q1) (by simpa using q2)) g1 g2 (by simpa using hl)
   have ro : ∀ {ms' : List Bool}, x.pY bs = true → p6 bs ms' vs = true → (∀ k ∈ jU ms' vs, k ∈ ks) → ji tab bs ks ms Ts (x :: vs) = CC tab bs x Ts :: ji tab bs ks ms' Ts.tail vs → RV H1 ρ1 D1 c v := by
     intro ms' g1 g2 g3 ge;rw [ge] at h;cases j with
     | zero =>
       simp only [List.getElem?_cons_zero, Option.some.injEq] at h h';subst h; subst h';cases Ts with
       | nil => trivial
       | cons T Ts => exact GP L (hv 0 x u rfl rfl) g1
     | succ j => exact rest g2 g3 j c v (by simpa using h) (by simpa using h')
   rcases ms with _ | ⟨m, ms⟩
   · simp only [p6, Bool.and_eq_true] at ho;refine ro (ms' := []) ho.1 ho.2 (fun k hk => by cases vs <;> simp [jU] at hk) ?_;cases Ts <;> simp [ji, CC]
   · cases m with
     | false =>
       simp only [p6, Bool.and_eq_true, List.tail_cons] at ho;refine ro (ms' := ms) ho.1 ho.2 (fun k hk => hn k (by simpa [jU] using hk)) ?_;cases Ts <;> simp [ji, CC]
     | true =>
       simp only [p6, Bool.and_eq_true] at ho;cases j with
       | zero =>
         simp only [ji, List.getElem?_cons_zero, Option.some.injEq] at h h';subst h; subst h';exact RV.hand iO (hv 0 x u rfl rfl) ho.1 fun k hk => hn k (by simp [jU, hk])
       | succ j => exact rest (ms' := ms) (Ts' := Ts.tail) ho.2 (fun k hk => hn k (by simp [jU, hk])) j c v (by simpa [ji] using h) (by simpa using h')
end
theorem GY {m : Nat → Nat} : ∀ {l : List (Nat × ak)}, (l.map (·.1)).Nodup → (∀ p ∈ l, ∀ q ∈ l, m p.1 = m q.1 → p.1 = q.1) → (l.map fun p => m p.1).Nodup
 | [], _, _ => by simp
 | p :: l, hn, hi => by
   simp only [List.map_cons, List.nodup_cons] at hn ⊢;refine ⟨fun hm => ?_, GY hn.2 fun a ha b hb => hi a (List.mem_cons_of_mem _ ha) b (List.mem_cons_of_mem _ hb)⟩;obtain ⟨q, hq, he⟩ := List.mem_map.1 hm;refine hn.1 (List.mem_map.2 ⟨q, hq, ?_⟩);exact hi q (List.mem_cons_of_mem _ hq) p List.mem_cons_self he
section
variable {P : Program} {tab : bf} {Γ : Ctx} {H : Hp} {ρ : aG} {σ : SS} {a : Act} {w : World} (r : aI Γ H ρ σ a w)
include r
theorem GZ {o : Oper} {f : FuncId} {l : List Cp} {ms : List Bool} {c : Call} (hne : ∀ p ∈ Γ.hd, p.1 ∉ ig σ.af ms (c.args.toList.map σ.ev)) {d : Nat} {K : SS → Prop} {Q : Exit → Act → World → Prop} (hc : gn σ o = some (.c (.fn f l), c)) (hd : o.dst = some d) (h : Cx P tab σ f l ms c d K) :
   o.wp P a w (fun a' w' => ∃ ax, K ax ∧ (∃ ρ', aI Γ H ρ' ax a' w') ∧ ∀ j, av σ.af j → j ∉ ig σ.af ms (c.args.toList.map σ.ev) → ∀ x, 0 < (ρ j).2 x → w'.heap[x]? = w.heap[x]?) Q := by
 unfold Cx at h;generalize iO : ig σ.af ms (c.args.toList.map σ.ev) = ks at h hne ⊢
 split at h
 · rename_i nb BJ
   split at h
   · rename_i sY;obtain ⟨iw, Va, wZ, Cv, BA, cE⟩ := sY;obtain ⟨hlen, cT⟩ := GV BJ
     have NT : ∀ k ∈ jU ms (c.args.toList.map σ.ev), k ∈ ks := fun k hk => by
       rw [← iO]; exact GW (.inl (GW (.inr hk)))
     let mb : aG := fun j => ρ (ks.getD j 0)
     have y9 : ∀ (j k : Nat), ks[j]? = some k → mb (0 + j) = ρ k := fun j k hj => by
       simp only [mb, Nat.zero_add, List.getD_eq_getElem?_getD, hj, Option.getD_some]
     have G0 : ∀ k ∈ ks, ∃ A, aM σ.af k = some A ∧ ((∃ E xs, A = .own E xs false) ∨ (∃ cs, A = .box cs) ∨ ∃ E xs, A = .view E xs) := fun k hk => by
       obtain ⟨j, hj, gW⟩ := List.getElem_of_mem hk;obtain ⟨B, hB⟩ : ∃ B, nb[j]? = some B := ⟨_, List.getElem?_eq_getElem (by omega)⟩;obtain ⟨k', A, h1, h2, h3⟩ := cT j B hB;rw [List.getElem?_eq_getElem hj, gW] at h1;cases h1;refine ⟨A, h2, ?_⟩;rcases CB h3 with ⟨E, xs, rfl, _⟩ | ⟨cs, rfl, _⟩ | ⟨E, xs, rfl, _⟩
       · exact .inl ⟨E, xs, rfl⟩
       · exact .inr (.inl ⟨cs, rfl⟩)
       · exact .inr (.inr ⟨E, xs, rfl⟩)
     have iv : ∀ k ∈ ks, av σ.af k := fun k hk => by obtain ⟨A, h1, _⟩ := G0 k hk; exact fB h1
     have NU : ∀ k ∈ ks, ∀ x, 0 < (ρ k).2 x → H x = none := fun k hk x hx => by
       obtain ⟨A, h1, h2⟩ := G0 k hk;rcases h2 with ⟨E, xs, rfl⟩ | ⟨cs, rfl⟩ | ⟨E, xs, rfl⟩
       · exact r.b.ia k _ (de h1) x hx
       · exact r.b.ia k _ (de h1) x hx
       · rw [(r.b.af k _ (de h1)).2] at hx; simp at hx
     have G3 : ∀ x, 0 < bN ρ ks x → H x = none := fun x hx => by
       obtain ⟨k, hk, h1⟩ := yP hx;exact NU k hk x h1
     have CD : ∀ x, aS mb (num 0 nb) x = bN ρ ks x := fun x => BH hlen y9
     have G4 : ∀ k ∈ ks, av (num 0 nb) (place ks k) ∧ (mb (place ks k)).1 = (ρ k).1 := fun k hk => by
       have h1 := BI hk;refine ⟨nU.2 ⟨Nat.zero_le _, by rw [Nat.zero_add, hlen]; exact bq h1⟩, ?_⟩;have := y9 _ _ h1;rw [Nat.zero_add] at this;rw [this]
     let H1 : Hp := fC w (aS mb (num 0 nb))
     have y_ : ∀ x, bN ρ ks x = 0 → H1 x = w.heap[x]? := fun x hx => by
       simp only [H1, fC, CD, hx, if_true]
     have G5 : ∀ x o, H1 x = some o → w.heap[x]? = some o ∧ bN ρ ks x = 0 := fun x o hx => by
       simp only [H1, fC, CD] at hx
       split at hx
       · rename_i h0; exact ⟨hx, h0⟩
       · cases hx
     have CE : ∀ b o, H b = some o → H1 b = some o := fun b o hb => by
       rw [y_ b ?_]
       · exact r.b.hh b o hb
       · rcases Nat.eq_zero_or_pos (bN ρ ks b) with h0 | h0
         · exact h0
         · rw [G3 b h0] at hb; cases hb
     have G6 : y7 w H H1 ρ (av σ.af) (l_ ks σ.af) := ⟨CE, fun k B hk => by
       obtain ⟨h1, h2⟩ := NM hk;refine ⟨r.b.af k B (de h1), fun x hx => y_ x ?_⟩;have h3 := l5 (ρ := ρ) (k :: ks) (bs := σ.af) (by simp [eQ, h2, wZ]) (fun j hj => by rcases List.mem_cons.1 hj with rfl | hj; exact fB h1; exact iv j hj) x;have h4 := r.b.sum x;simp only [bN] at h3;omega⟩
     have NV : gf w.heap H1 H1 mb (num 0 nb) := by
       have ew : ∀ j B, (j, B) ∈ num 0 nb → ∃ k A, ks[j]? = some k ∧ aM σ.af k = some A ∧ uR ks (some A) = some B ∧ mb j = ρ k := fun j B hj => by
         obtain ⟨_, h1⟩ := qF.1 hj;obtain ⟨k, A, h2, h3, h4⟩ := cT j B (by simpa using h1);exact ⟨k, A, h2, h3, h4, by have := y9 j k h2; rwa [Nat.zero_add] at this⟩
       have G7 : ∀ j B x, (j, B) ∈ num 0 nb → 0 < (mb j).2 x → H1 x = none := fun j B x hj hx => by
         have h1 := mO (ρ := mb) hj x;simp only [H1, fC];rw [if_neg (by omega)]
       refine ⟨fun j hj => ?_, BG, fun _ _ h => h, fun b o hb => (G5 b o hb).1, fun j B hj => ?_, fun x => ?_, fun j B hj x hx => G7 j B x hj hx, fun j B hj x hx => G7 j B x hj ?_⟩
       · obtain ⟨⟨j', B⟩, wz, rfl⟩ := List.mem_map.1 hj;obtain ⟨k, A, _, h2, _, h4⟩ := ew j' B wz;simp only;rw [h4]; exact r.b.oc k (fB h2)
       · obtain ⟨k, A, h1, h2, h3, h4⟩ := ew j B hj;have hA := r.b.af k A (de h2);rw [h4];rcases CB h3 with ⟨E, xs, rfl, rfl⟩ | ⟨cs, rfl, dy, rfl⟩ | ⟨E, xs, rfl, rfl⟩;rotate_right
         · exact ⟨hA.1.mono CE, hA.2⟩
         · exact hA
         · obtain ⟨b, vs, e, fz, e1, e2, e3, e4, e5⟩ := hA;refine ⟨b, vs, e, fz, e1, e2, e3, e4, by rw [uw]; exact e5.1, fun q cq hq => ?_⟩;obtain ⟨c0, cO, rfl⟩ := uv hq;have hb := List.all_eq_true.1 dy c0 (List.mem_of_getElem? cO);have NW := e5.2 q c0 cO;refine RC.hand (fun k hk => G4 k hk) NW ?_ ?_
           · cases c0 <;> first | rfl | exact hb | exact (by cases hb)
           · intro k hk;cases c0 with
             | own k' =>
               simp only [C.nm, List.mem_singleton] at hk;subst hk;simpa [C.box] using hb
             | ptr k' off => cases hb
             | _ => simp [C.nm] at hk
       · rw [CD];exact Nat.le_trans (l5 ks wZ iv x) (r.b.sum x)
       · obtain ⟨k, A, h1, h2, h3, h4⟩ := ew j B hj;rcases CB h3 with ⟨E, xs, rfl, rfl⟩ | ⟨cs, rfl, dy, rfl⟩ | ⟨E, xs, rfl, rfl⟩
         · exact hx
         · exact hx
         · exact hx.elim
     unfold gn at hc
     split at hc
     · rename_i c0 aX
       split at hc
       · rename_i x ff;simp only [Option.some.injEq, Prod.mk.injEq] at hc;obtain ⟨hx, rfl⟩ := hc;obtain ⟨post, ⟨⟨fn, pZ, jT, Cw⟩, hs⟩, hk⟩ := h;have ev := jQ r.e x;rw [hx] at ev;obtain ⟨vs, e1, e2, e3⟩ := ev
         have cM : (execOp a.eval o).run P w = .ok (.enter f (c0.args.map a.eval ++ vs)) w := by
           simp only [execOp, aX, resolve, ff, Deferred.ofValue, e1, Sem.run_bind, Sem.run_pure, Result.andThen_ok, invoke, callFunc, run_program, pZ, jT, Cw];simp
         have di : args H1 mb (av (num 0 nb)) (ji tab (l_ ks σ.af) ks ms c0.argTypes.toList (c0.args.toList.map σ.ev) ++ l.map (uO (l_ ks σ.af))) (c0.args.map a.eval ++ vs) := by
           refine ⟨by simp [uS, e2], fun j cv hj => ?_⟩;rw [Array.getD_eq_getD_getElem?]
           by_cases aL : j < c0.args.size
           · rw [List.getElem?_append_left (by simpa [uS] using aL)] at hj;rw [Array.getElem?_append_left (by simpa using aL)];have h1 : (c0.args.map a.eval).toList[j]? = some (a.eval c0.args[j]) := by simp [aL]
             have h2 := GX G6 G4 (wi r c0.args) cE NT (by simp) j cv _ hj h1;simpa [aL] using h2
           · rw [List.getElem?_append_right (by simpa [uS] using Nat.le_of_not_lt aL)] at hj;rw [Array.getElem?_append_right (by simpa using Nat.le_of_not_lt aL)];simp only [uS, List.length_map, Array.length_toList, Array.size_map, List.getElem?_map, Option.map_eq_some_iff] at hj ⊢;obtain ⟨c1, h1, rfl⟩ := hj;have h2 := e3 _ c1 h1;have h3 := List.all_eq_true.1 Cv c1 (List.mem_of_getElem? h1);rw [← Array.getD_eq_getD_getElem?];exact GQ G6 h2 h3
         unfold Oper.wp;rw [cM];simp only [Oper.upon];refine (hs w _ mb NV di).mono fun e w' he => ?_;obtain ⟨v, rv, cd, H', ρ2, rfl, hp, hB, hv, NX, NY⟩ := he;obtain ⟨⟨G8, fh⟩, hK⟩ := hk rv cd hp;have NZ : ∀ x o, H1 x = some o → w'.heap[x]? = some o := fun x o hx => hB.hh x o (hB.h0 x o hx)
         have oq : ∀ x, x < w.heap.size → bN ρ ks x = 0 → w'.heap[x]? = w.heap[x]? := fun x hx h0 => by
           rw [Array.getElem?_eq_getElem hx];exact NZ x _ (by rw [y_ x h0, Array.getElem?_eq_getElem hx])
         have G9 := fun x => wJ (ρ := ρ) (x := x) r.b.nd wZ iv;have r1 := r.fD iv
         have r2 := r1.move (w' := w') (fun b o hb => by
             have h0 := (G5 b o (CE b o hb)).2;exact oq b (ky (r.b.hh b o hb)) h0) (fun b hb => by
             have h1 := G9 b;have h2 := r.b.sum b;have eY : 0 < aS (iW ρ ks) (Go.Proofs.YtehpbaiclfilaaaGreat.fD σ.af ks) b := hb;exact oq b (r.lt (by omega)) (by omega)) NX
         have p7 : ∀ j, j < nb.length → jV ks d j ∈ ks ∧ ks[j]? = some (jV ks d j) := fun j hj => by
           have h1 : ks[j]? = some ks[j] := List.getElem?_eq_getElem (by omega)
           have h2 : jV ks d j = ks[j] := by
             simp only [jV];rw [if_pos (by omega), List.getD_eq_getElem?_getD, h1, Option.getD_some]
           exact ⟨by rw [h2]; exact List.getElem_mem _, by rw [h2]; exact h1⟩
         have eS : ∀ j, j < nb.length → av cd j → (ρ2 j).1 = (iW ρ ks (jV ks d j)).1 := fun j hj hD => by
           rw [nY, NY j hD (nU.2 ⟨Nat.zero_le _, by omega⟩)];have := y9 j _ (p7 j hj).2;rw [Nat.zero_add] at this;rw [this]
         have sP : ∀ j B, (j, B) ∈ cd → j < nb.length ∨ (100 ≤ j ∧ j < 108) := fun j B hj => by
           have := List.all_eq_true.1 G8 _ hj;simp only [wY, Bool.and_eq_true, Bool.or_eq_true, decide_eq_true_eq] at this;exact this.1
         have dY : ∀ i, i < 8 → aM σ.af (8 * d + i) = none := fun i hi => by
           have : ∀ bs : List (Nat × ak), uP bs d = true → aM bs (8 * d + i) = none := by
             intro bs
             induction bs with
             | nil => intro _; rfl
             | cons p bs ih =>
               intro wV;simp only [uP, List.all_cons, Bool.and_eq_true, Bool.or_eq_true, decide_eq_true_eq] at wV;simp only [aM];rw [if_neg (by omega)];exact ih wV.2
           exact this _ iw
         have tu : ∀ j, 100 ≤ j → j < 108 → jV ks d j = 8 * d + (j - 100) ∧ aM σ.af (jV ks d j) = none := fun j h1 h2 => by
           have : jV ks d j = 8 * d + (j - 100) := by simp only [jV]; rw [if_neg (by omega)]
           exact ⟨this, by rw [this]; exact dY _ (by omega)⟩
         have N0 : ∀ j1 B1 j2 B2, (j1, B1) ∈ cd → (j2, B2) ∈ cd → jV ks d j1 = jV ks d j2 → j1 = j2 := fun j1 B1 j2 B2 h1 h2 he => by
           rcases sP j1 B1 h1 with k1 | ⟨k1, q_⟩ <;> rcases sP j2 B2 h2 with k2 | ⟨k2, G_⟩
           · have q1 := (p7 j1 k1).2;have q2 := (p7 j2 k2).2;rw [← he] at q2;have fW := NN wZ;exact (List.getElem?_inj (i := j1) (j := j2) (by omega) fW).1 (q1.trans q2.symm)
           · have q1 := iv _ (p7 j1 k1).1;have q2 := (tu j2 k2 G_).2;rw [← he] at q2;exact (jw q2 q1).elim
           · have q1 := iv _ (p7 j2 k2).1;have q2 := (tu j1 k1 q_).2;rw [he] at q2;exact (jw q2 q1).elim
           · rw [(tu j1 k1 q_).1, (tu j2 k2 G_).1] at he;omega
         obtain ⟨ρ', r3, g1, g2, g3⟩ := aI.CA (m := jV ks d) (n := nb.length) (H' := H') (ρ2 := ρ2) (D2 := av cd) cd r2 (fun p hp j B hj he => by
             rcases sP j B hj with k1 | ⟨k1, q_⟩
             · exact hne p hp (by rw [he]; exact (p7 j k1).1)
             · exact jw (tu j k1 q_).2 (by rw [← he]; exact (r.hd p hp).1)) G8
           (fun j B hj => by
             refine ⟨hB.af j B hj, hB.oc j (qI hj), ?_⟩;rcases sP j B hj with k1 | ⟨k1, q_⟩
             · exact .inr ⟨GU (iv _ (p7 j k1).1) (.inl (p7 j k1).1), eS j k1 (qI hj)⟩
             · exact .inl (BV (tu j k1 q_).2))
           (fun j B hj x hx => by
             have h1 := hB.fresh j B hj x hx;have h2 := G9 x;have h3 := r.b.sum x;rcases Nat.lt_or_ge x w.heap.size with h4 | h4
             · have h5 : 0 < bN ρ ks x := by
                rcases Nat.eq_zero_or_pos (bN ρ ks x) with h0 | h0
                · rw [show fC w (aS mb (num 0 nb)) x = H1 x from rfl, y_ x h0, Array.getElem?_eq_getElem h4] at h1;cases h1
                · exact h0
               exact ⟨G3 x h5, by show aS (iW ρ ks) (Go.Proofs.YtehpbaiclfilaaaGreat.fD σ.af ks) x = 0; omega⟩
             · have h5 := r.ur h4;exact ⟨h5.1, by show aS (iW ρ ks) (Go.Proofs.YtehpbaiclfilaaaGreat.fD σ.af ks) x = 0; omega⟩)
           hB.sum
           (GY hB.nd fun p hp q hq he => N0 p.1 p.2 q.1 q.2 hp hq he)
           (fun j hj hD => ⟨wI.2 (iv _ (p7 j hj).1), eS j hj hD⟩) (fun j B hj => qI hj)
         have yV : ∀ k ∈ ks, (ρ' k).1 = (ρ k).1 := fun k hk => by
           by_cases hm : k ∈ cd.map fun p => jV ks d p.1
           · obtain ⟨⟨j, B⟩, hj, rfl⟩ := List.mem_map.1 hm;rw [(g3 j B hj).2];rcases sP j B hj with k1 | ⟨k1, q_⟩
             · rw [eS j k1 (qI hj), nY]
             · exact (jw (tu j k1 q_).2 (iv _ hk)).elim
           · rw [g2 k hm, nY]
         obtain ⟨r4, g4⟩ := aI.lG ks r3 fun k hk E xs hg => by
           rw [yV k hk];exact (r.b.af k _ (de hg)).1
         refine ⟨_, hK, ⟨ρ', ?_⟩, fun j hj gW x hx => ?_⟩;rotate_left
         · have h3 := l5 (ρ := ρ) (j :: ks) (bs := σ.af) (by simp [eQ, gW, wZ]) (fun q hq => by rcases List.mem_cons.1 hq with rfl | hq; exact hj; exact iv q hq) x;have h4 := r.b.sum x;simp only [bN] at h3;exact oq x (r.lt (by omega)) (by omega)
         rw [hd];refine aI.put r4 (RV.dq (m := jV ks d) (D := av cd) (ρ := ρ2) (fun i hi => ?_) (hv.grow (H' := H) (ρ' := ρ2) (D' := av cd) ⟨(fun _ _ h => by cases h), (fun _ h => ⟨h, rfl⟩)⟩)) (some d);obtain ⟨⟨i', B⟩, N1, rfl⟩ := List.mem_map.1 hi;obtain ⟨q1, q2⟩ := g3 i' B N1;exact ⟨by show av (Go.Proofs.YtehpbaiclfilaaaGreat.lG _ _ _) _; rw [g4]; exact q1, by rw [q2]⟩
       · cases hc
     · cases hc
   · cases h
 · cases h
theorem N2 {o : Oper} (N3 : gM tab o = true → Γ.hd = []) {v : V} {c : Call} {K : SS → Prop} {Q : Exit → Act → World → Prop} (hc : gn σ o = some (v, c)) (h : y8 P tab σ v c o.dst K) :
   o.wp P a w (fun a' w' => ∃ ax, K ax ∧ qK Γ H (gM tab o) w ax a' w') Q := by
 generalize Ha : o.dst = dst at h;unfold y8 at h
 split at h
 · rename_i f l d
   split at h
   · rename_i ms CF
     have hw : gM tab o = true := by
      unfold gn at hc;unfold gM
      split at hc
      · rename_i c0 aX
        split at hc
        · rename_i x ff;simp only [Option.some.injEq, Prod.mk.injEq] at hc;obtain ⟨hx, rfl⟩ := hc;rw [aX];simp only [ff]
          split
          · cases ‹Callee.value x = _›
          · rename_i g heq;cases heq;simp only [SS.ev, V.c.injEq, C.fn.injEq] at hx;rw [hx.1, CF]; rfl
          · rfl
        · cases hc
      · cases hc
     exact Oper.wp_mono (fun a' w' ⟨ax, h1, h2, _⟩ => ⟨ax, h1, h2, fun hh => by rw [hw] at hh; cases hh⟩) (GZ r (fun p hp => by rw [N3 hw] at hp; cases hp) hc Ha h)
   · exact NK r hc (by rw [Ha]; exact h)
 · cases h
end
def uT : V → Bool
 | .c (.own _) => true
 | _ => false
def CG : V → Bool
 | .c (.lf (.str _)) => true
 | _ => false
def CH : V → Bool
 | .c (.fq _ _ _ _) => true
 | _ => false
def kR (tab : bf) (σ : SS) (o : Oper) : Bool :=
 match o.op with
 | .load T x => CH (σ.ev x) && wE tab T
 | .box _ _ | .alloc _ | .buildSlice _ _ _ | .store _ _ _ | .makeSlice _ _ _ => true
 | .slice _ x _ _ _ => uT (qC σ.af (σ.ev x))
 | .convert _ D x => uT (σ.ev x) || (CG (σ.ev x) && (match cS tab D with | some (.sl _ _ _) => true | _ => false))
 | .makeMap _ _ | .lookup _ _ _ _ | .mapUpdate _ _ _ _ => true
 | .call c => match c.callee with | .builtin .append => true | .builtin .copy => true | .builtin .clear => true | .builtin .len => (match c.argTypes.toList with | [T] => (match cS tab T with | some (.mp _ _) => true | _ => false) | _ => false) | _ => false
 | _ => false
def iX (P : Program) (tab : bf) (o : Oper) (σ : SS) (K : SS → Prop) : Prop :=
 match gn σ o with
 | some (v, c) => y8 P tab σ v c o.dst K
 | none => if kR tab σ o then tj tab o σ K else Bw tab o σ fun v => K (σ.put o.dst v)
def p8 : V := .bc []
def SS.gY (σ : SS) (d : Nat) (v : V) : SS := { σ with env := σ.env.set d v }
def za (all : List Oper) (j : Nat) : Option Nat := (all[j]?).bind (·.dst)
def ov (P : Program) (tab : bf) (all : List Oper) : List Oper → SS → (SS → Prop) → Prop
 | [], σ, K => K σ
 | o :: rest, σ, K =>
   match o.guard with
   | none => iX P tab o σ fun ax => ov P tab all rest ax K
   | some (j, want) =>
     match za all j with
     | some d =>
       match σ.env.getD d (.c .undef) with
       | .c (.bl b) => if b = want then iX P tab o σ fun ax => ov P tab all rest ax K else ov P tab all rest (σ.put o.dst p8) K
       | .bc [] => ov P tab all rest (σ.put o.dst p8) K
       | .c (.lf (.bool t)) => Br t fun b =>
        if b = want then iX P tab o (σ.gY d (.c (.bl b))) fun ax => ov P tab all rest ax K else ov P tab all rest ((σ.gY d (.c (.bl b))).put o.dst p8) K
       | _ => False
     | none => False
inductive ra where
 | env (slot : Nat) (E : an) (key : Nat)
 | box (bk cell : Nat) (E : an) (key : Nat)
def Hb : V → Bool
 | .c .nil => true
 | _ => false
def Hc : C → Bool
 | .nil => true
 | _ => false
def SS.uU (σ : SS) : ra → Option SS
 | .env s E k =>
   match σ.env[s]?, aM σ.af k with
   | some v, none => if Hb v then some { env := σ.env.set s (.c (.own k)), af := dx σ.af k (.own E (fun _ => []) false) } else none
   | _, _ => none
 | .box bk c E k =>
   match aM σ.af bk, aM σ.af k with
   | some (.box cs), none =>
     match cs[c]? with
     | some x => if Hc x then some { σ with af := bO (dx σ.af k (.own E (fun _ => []) false)) bk (.box (cs.set c (.own k))) } else none
     | none => none
   | _, _ => none
def SS.p9 (σ : SS) : List ra → Option SS
 | [] => some σ
 | m :: ms => match σ.uU m with | some ax => ax.p9 ms | none => none
def lk : List (Nat × Nat) → Nat → Option Nat
 | [], _ => none
 | p :: r, k => if p.1 = k then some p.2 else lk r k
def Cp.rd : Cp → Bool
 | .ptr _ _ => false
 | _ => true
def C.dZ (m : List (Nat × Nat)) : C → C
 | .own k => match lk m k with | some k' => .own k' | none => .undef
 | .ptr k off => match lk m k with | some k' => .ptr k' off | none => .undef
 | .fq k E i off => match lk m k with | some k' => .fq k' E i off | none => .undef
 | .fn f l => if l.all Cp.rd = true then .fn f l else .undef
 | c => c
def mc (m : List (Nat × Nat)) : List C → List C
 | [] => []
 | c :: cs => c.dZ m :: mc m cs
def V.dZ (m : List (Nat × Nat)) : V → V
 | .c x => .c (x.dZ m)
 | .agg cs => .agg (mc m cs)
 | .bc [] => .bc []
 | .bc _ => .c .undef
def me (m : List (Nat × Nat)) : List (Option Nat) → List (Option Nat)
 | [] => []
 | none :: fs => none :: me m fs
 | some k :: fs => lk m k :: me m fs
def ow (m : List (Nat × Nat)) : List (Option Nat) → Bool
 | [] => true
 | none :: fs => ow m fs
 | some k :: fs => match lk m k with | some _ => ow m fs | none => false
def Hd : List (Option Nat) → Bool
 | [] => false
 | none :: fs => Hd fs
 | some _ :: _ => true
def ak.dZ (m : List (Nat × Nat)) : ak → ak
 | .box cs => .box (mc m cs)
 | .b0 E xs i fs => .b0 E xs i (me m fs)
 | B => B
def ak.zb (m : List (Nat × Nat)) : ak → Bool
 | .b0 _ _ _ fs => !ow m fs
 | _ => false
def p_ (L : List Nat) (m : List (Nat × Nat)) : Nat → List V → List V
 | _, [] => []
 | j, v :: vs => (if L.contains j then v.dZ m else .c .undef) :: p_ L m (j + 1) vs
def oy (bs : List (Nat × ak)) (m : List (Nat × Nat)) : List (Nat × Nat) → Option (List (Nat × ak))
 | [] => some []
 | p :: r => match aM bs p.1, oy bs m r with | some B, some l => if B.zb m = true then none else some ((p.2, B.dZ m) :: l) | _, _ => none
structure Norm where
 ms : List ra
 L : List Nat
 nm : List (Nat × Nat)
def mf (bs : List (Nat × ak)) (k : Nat) : List (Nat × ak) :=
 match aM bs k with
 | some (.b0 _ _ _ _) => (match uH bs k with | some cd => cd | none => bs)
 | _ => bs
def closeAll : List Nat → List (Nat × ak) → List (Nat × ak)
 | [], bs => bs
 | k :: ks, bs => closeAll ks (mf bs k)
def N4 (m : List (Nat × Nat)) (bs : List (Nat × ak)) (k : Nat) : Bool :=
 match aM bs k with
 | some (.b0 _ _ _ fs) => Hd fs && ow m fs && (match lk m k with | some _ => true | none => false)
 | _ => false
def oz (m : List (Nat × Nat)) : List Nat → List (Nat × ak) → List (Nat × ak)
 | [], bs => bs
 | k :: ks, bs => match N4 m bs k with
   | true => oz m ks bs
   | false => oz m ks (mf bs k)
def zc (m : List (Nat × Nat)) : List Nat → Bool
 | [] => true
 | k :: ks => (match lk m k with | some k' => k' == k | none => false) && zc m ks
def SS.norm (σ : SS) (pk : List Nat) (N : Norm) : Option SS :=
 match σ.p9 N.ms with
 | some ax =>
   match oy (oz N.nm (ax.af.map (·.1)) ax.af) N.nm N.nm with
   | some bs => if eQ (N.nm.map (·.1)) = true ∧ eQ (N.nm.map (·.2)) = true ∧ zc N.nm pk = true then some { env := p_ N.L N.nm 0 ax.env, af := bs } else none
   | none => none
 | none => none
def Sub (pk : List Nat) (σ τ : SS) : Prop := ∀ (Γ : Ctx) (a : Act) (w : World), Γ.hd = [] → (∀ p ∈ Γ.hm, p.1 ∈ pk) → Rel Γ σ a w → Rel Γ τ a w
inductive aJ (pk : List Nat) (X : Type) (st : X → SS) (φ : X → Prop) (m : X → Unit → Nat) (n : Unit → Nat) (σ : SS) : Prop where
 | mk (x : X) (hm : m x () < n ()) (zd : φ x) (hs : Sub pk σ (st x))
inductive aT (pk : List Nat) (σ : SS) (R : SS → (SS → Prop) → Prop) : Prop where
 | mk (X : Type) (st : X → SS) (φ : X → Prop) (m : X → Unit → Nat) (x0 : X) (h0 : φ x0) (hs : Sub pk σ (st x0)) (hr : ∀ x, φ x → R (st x) fun ax => aJ pk X st φ m (m x) ax)
def lH (P : Program) (tab : bf) (all : List Oper) (o : Oper) (σ : SS) (K : SS → Prop) : Prop :=
 match o.guard with
 | none => iX P tab o σ K
 | some (j, want) =>
   match za all j with
   | some d =>
     match σ.env.getD d (.c .undef) with
     | .c (.bl b) => if b = want then iX P tab o σ K else K (σ.put o.dst p8)
     | .bc [] => K (σ.put o.dst p8)
     | .c (.lf (.bool t)) => Br t fun b => if b = want then iX P tab o (σ.gY d (.c (.bl b))) K else K ((σ.gY d (.c (.bl b))).put o.dst p8)
     | _ => False
   | none => False
def qa (b : Bool) (pt rd : List Nat) : Bool :=
 match b with
 | true => rd.all pt.contains
 | false => rd.isEmpty
def uV : Option ak → Bool
 | some (.box _) => true
 | _ => false
def okW (tab : bf) (nm0 pt : List Nat) (σ : SS) (o : Oper) : Bool :=
 !gM tab o || ((gn σ o).isNone && !kR tab σ o) ||
  (match o.op, o.dst, o.guard with
  | .store _ p _, none, none => (match σ.ev p with
    | .c (.ptr k _) => (nm0.contains k && !pt.contains k) || (!pt.contains k && pt.all fun j => uV (aM σ.af j))
    | .c (.fq k _ _ _) => !nm0.contains k && pt.all fun j => uV (aM σ.af j)
    | _ => false)
  | .call c, _, _ => (match c.callee, c.args.toList with
    | .builtin .append, [x, _] => (match σ.ev x with | .c .nil => true | .c (.own k) => !pt.contains k && pt.all fun j => uV (aM σ.af j) | _ => false)
    | .value (.func f), _ => (match v8 tab f with
      | some ms => ((ig σ.af ms (c.args.toList.map σ.ev)).all fun k => !nm0.contains k) && pt.all fun j => uV (aM σ.af j)
      | none => false)
    | _, _ => false)
  | _, _, _ => false)
def findD (t : Nat) : List Oper → Option Oper
 | [] => none
 | o :: os => match o.dst with
   | some d => (match Nat.beq d t with | true => some o | false => findD t os)
   | none => findD t os
def mg (tab : bf) (all : List Oper) (σ : SS) : Nat → Operand → V
 | 0, _ => .c .undef
 | n + 1, .tmp t => match findD t all with
   | some o => (match o.op with
     | .move x => mg tab all σ n x
     | .fieldAddr T x i => (match yE tab T i (mg tab all σ n x) with | some v => v | none => .c .undef)
     | .load T x => (match ui tab σ.af T (mg tab all σ n x) with | some v => v | none => .c .undef)
     | .indexAddr _ x _ => (match mg tab all σ n x with | .c (.lf (.list E _)) => .c (.el E (fun _ => E.lx) 0) | _ => .c .undef)
     | .nilCheck x => mg tab all σ n x
     | _ => .c .undef)
   | none => σ.ev (.tmp t)
 | _, x => σ.ev x
def ze (all : List Oper) : Nat → Operand → Bool
 | 0, _ => false
 | n + 1, .tmp t => match findD t all with
   | some o => (match o.op with | .fieldAddr _ x _ => ze all n x | .nilCheck x => ze all n x | .alloc _ => true | .box _ _ => true | _ => false)
   | none => false
 | _, _ => false
def CI (all : List Oper) : Nat → Operand → Bool
 | 0, _ => false
 | _, .const _ => true
 | n + 1, .tmp t => match findD t all with
   | some o => (match o.op with
     | .buildSlice _ _ _ => true
     | .makeSlice _ _ _ => true
     | .call c => (match c.callee, c.args.toList with
       | .builtin .append, [x, _] => CI all n x
       | .builtin _, _ => false
       | _, _ => true)
     | _ => false)
   | none => false
 | _, _ => false
def oA (tab : bf) (all : List Oper) (σ : SS) : List Oper → Option (Bool × List Nat)
 | [] => some (false, [])
 | o :: os => match o.op, o.dst, o.guard with
   | .store _ p _, none, none => (match ze all 5 p with
     | true => (match oA tab all σ os with | some (_, l) => some (true, l) | none => none)
     | false => (match mg tab all σ 9 p, oA tab all σ os with | .c (.ptr k _), some (b, l) => some (b, k :: l) | _, _ => none))
   | .load T x, _, _ => (match wE tab T with
     | true => (match mg tab all σ 9 x with | .c (.ptr _ _) | .c (.el _ _ _) | .c (.bZ _ _) => oA tab all σ os | _ => none)
     | false => oA tab all σ os)
   | .call c, _, _ => (match c.callee with
     | .builtin .len | .builtin .max | .builtin .min => oA tab all σ os
     | .builtin .append => (match c.args.toList with
       | [x, _] => (match CI all 9 x with
         | true => (match oA tab all σ os with | some (_, l) => some (true, l) | none => none)
         | false => none)
       | _ => none)
     | _ => if gM tab o then none else oA tab all σ os)
   | _, _, _ => if gM tab o then none else oA tab all σ os
def N5 (bs : List (Nat × ak)) : V → Bool
 | .c (.ptr k 0) => (match aM bs k with | some (.box [.own _, .lf (.int _ _), .lf (.int _ _)]) => true | _ => false)
 | _ => false
def He : V → Bool
 | .c (.own _) => true
 | .c .nil => true
 | _ => false
def m4 (tab : bf) (all : List Oper) (σ : SS) : List Oper → Option (Bool × List Nat)
 | [] => some (false, [])
 | o :: os => match o.op, o.dst, o.guard with
   | .store _ p _, none, none => (match ze all 5 p with
     | true => m4 tab all σ os
     | false => (match mg tab all σ 9 p with
       | .c (.ptr k _) => (match m4 tab all σ os with | some (b, l) => some (b, k :: l) | none => none)
       | _ => (match p with
         | .tmp t => (match findD t all with
           | some q => (match q.op with
             | .indexAddr _ x _ => (match He (mg tab all σ 9 x) with | true => m4 tab all σ os | false => none)
             | _ => none)
           | none => none)
         | _ => none)))
   | .load T x, _, _ => (match wE tab T with
     | true => (match mg tab all σ 9 x with | .c (.ptr _ _) | .c (.el _ _ _) | .c (.bZ _ _) => m4 tab all σ os | _ => none)
     | false => m4 tab all σ os)
   | .call c, _, _ => (match c.callee with
     | .builtin .len | .builtin .max | .builtin .min => m4 tab all σ os
     | .builtin .append => (match c.args.toList with
       | [x, _] => (match CI all 9 x || He (mg tab all σ 9 x) with
         | true => m4 tab all σ os
         | false => none)
       | _ => none)
     | .value (.func f) => (match v8 tab f with
       | none => m4 tab all σ os
       | some ms => (match c.args.toList.map (mg tab all σ 9) with
         | v :: vs => (match N5 σ.af v with
           | true => (match m4 tab all σ os with | some (_, l) => some (true, ig σ.af ms (v :: vs) ++ l) | none => none)
           | false => none)
         | [] => none))
     | _ => none)
   | _, _, _ => if gM tab o then none else m4 tab all σ os
def re (bs : List (Nat × ak)) : List Nat → List Nat
 | [] => []
 | k :: ks => if uV (aM bs k) then k :: re bs ks else re bs ks
def oB (l : List Nat) : List Nat → List Nat
 | [] => []
 | k :: ks => if l.contains k then oB l ks else k :: oB l ks
def tv (tab : bf) (b : Bool) (nm0 : List Nat) (σ : SS) (o : Oper) : Bool :=
 (gn σ o).isNone && !kR tab σ o && qa b nm0 (qA o σ)
def CJ : List Nat → (Nat → Prop) → Prop
 | [], _ => True
 | [i], p => p i
 | i :: j :: is, p => p i ∧ CJ (j :: is) p
def uW (tab : bf) (ops : Array Oper) (b : Bool) (nm0 : List Nat) (listed : Array Bool) (σ : SS) : List Nat → Option Nat
 | [] => none
 | i :: is => match ops[i]? with
   | some o => if (tv tab b nm0 σ o && Region.free .any ops listed i) = true then some i else uW tab ops b nm0 listed σ is
   | none => uW tab ops b nm0 listed σ is
inductive Pz (p : Unit → Prop) : Prop where
 | mk (h : p ())
def Hf (b : Bool) (p : Unit → Prop) : Prop :=
 match b with
 | true => Pz p
 | false => p ()
theorem N6 {b : Bool} {p : Unit → Prop} (h : Hf b p) : p () := by
 cases b with
 | true => exact h.1
 | false => exact h
def rf (P : Program) (tab : bf) (ops : Array Oper) (b : Bool) (nm0 pt : List Nat) : Nat → Array Bool → SS → (SS → Prop) → Prop
 | 0, listed, σ, K => match Region.ready .any ops listed with | [] => K σ | _ => False
 | n + 1, listed, σ, K => Hf (decide (30 < ops.size) && n % 4 == 0) fun _ =>
   match Region.ready .any ops listed with
   | [] => K σ
   | r :: rs =>
     match uW tab ops b pt listed σ (r :: rs) with
     | some i => (match ops[i]? with | some o => lH P tab ops.toList o σ fun ax => rf P tab ops b nm0 pt n (listed.setIfInBounds i true) ax K | none => False)
     | none => CJ (r :: rs) fun i => match ops[i]? with
       | some o => if (!b || okW tab nm0 pt σ o) = true then lH P tab ops.toList o σ fun ax => rf P tab ops b nm0 pt n (listed.setIfInBounds i true) ax K else False
       | none => False
def CK (P : Program) (tab : bf) (ops : Array Oper) (σ : SS) (K : SS → Prop) : Prop :=
 match oA tab ops.toList σ ops.toList with
 | some (nw, ws) => rf P tab ops true (σ.af.map (·.1)) (match nw with | true => re σ.af (oB ws (σ.af.map (·.1))) | false => oB ws (σ.af.map (·.1))) ops.size (Array.replicate ops.size false) σ K
 | none => rf P tab ops false (σ.af.map (·.1)) [] ops.size (Array.replicate ops.size false) σ K
def m5 : List Bool → Nat → Bool
 | [], _ => false
 | b :: _, 0 => b
 | _ :: bs, n + 1 => m5 bs n
def jk : List Bool → Nat → List Bool
 | [], _ => []
 | _ :: bs, 0 => true :: bs
 | b :: bs, n + 1 => b :: jk bs n
def kS : List Bool → Bool
 | [] => true
 | b :: bs => match b with | true => kS bs | false => false
def rh : List Oper → List Bool
 | [] => []
 | _ :: os => false :: rh os
def kD (l : List Bool) : List Edge → Bool
 | [] => true
 | e :: es => match Region.binds .any e with
   | true => (match m5 l e.on with | true => kD l es | false => false)
   | false => kD l es
def m6 (tab : bf) (b : Bool) (pt : List Nat) (l0 : List Bool) (σ : SS) : List Oper → List Bool → Nat → Option (Nat × Oper)
 | o :: os, l :: ls, i => match l with
   | true => m6 tab b pt l0 σ os ls (i + 1)
   | false => match kD l0 o.after.toList with
     | true => (match tv tab b pt σ o with | true => some (i, o) | false => m6 tab b pt l0 σ os ls (i + 1))
     | false => m6 tab b pt l0 σ os ls (i + 1)
 | _, _, _ => none
def kT (l0 : List Bool) : List Oper → List Bool → Nat → List (Nat × Oper)
 | o :: os, l :: ls, i => match l with
   | true => kT l0 os ls (i + 1)
   | false => match kD l0 o.after.toList with
     | true => (i, o) :: kT l0 os ls (i + 1)
     | false => kT l0 os ls (i + 1)
 | _, _, _ => []
def zf : List (Nat × Oper) → (Nat → Oper → Prop) → Prop
 | [], _ => True
 | [p], q => q p.1 p.2
 | p :: r :: rs, q => q p.1 p.2 ∧ zf (r :: rs) q
structure Row where
 t : Bool
 i : Nat
 es : List Edge
 d : Option Nat
 v : V
 nw : List (Nat × ak)
 ch : List (Nat × ak)
 gone : List Nat
def CL (bs : List (Nat × ak)) : List (Nat × ak) → List (Nat × ak)
 | [] => []
 | p :: r => match aM bs p.1 with
   | none => p :: CL bs r
   | some _ => CL bs r
def Hg : Option ak → Bool
 | some .dead => true
 | _ => false
def zg (bs : List (Nat × ak)) : List (Nat × ak) → List Nat
 | [] => []
 | p :: r => match Hg (some p.2) with
   | true => (match Hg (aM bs p.1) with | true => zg bs r | false => p.1 :: zg bs r)
   | false => zg bs r
def zh (bs : List (Nat × ak)) : List (Nat × ak) → List (Nat × ak)
 | [] => []
 | p :: r => match p.2 with
   | .b0 _ _ _ _ => (match aM bs p.1 with | some (.own _ _ _) => p :: zh bs r | _ => zh bs r)
   | _ => zh bs r
def zi (bs : List (Nat × ak)) : List Nat → List (Nat × ak)
 | [] => []
 | k :: ks => match aM bs k with
   | some (.box cs) => (k, .box cs) :: zi bs ks
   | some (.own E xs l) => (k, .own E xs l) :: zi bs ks
   | _ => zi bs ks
def N7 (tab : bf) (o : Oper) (σ ax : SS) : List (Nat × ak) :=
 match gn σ o with
 | some (.c (.fn f _), c) => (match v8 tab f with
   | some ms => zi ax.af (ig σ.af ms (c.args.toList.map σ.ev))
   | none => [])
 | _ => []
def rowOf (tab : bf) (t : Bool) (i : Nat) (o : Oper) (σ ax : SS) : Row :=
 ⟨t, i, o.after.toList, o.dst, match o.dst with | some d => ax.env.getD d (.c .undef) | none => .c .undef, CL σ.af ax.af, zh σ.af ax.af ++ N7 tab o σ ax, zg σ.af ax.af⟩
def Hh : List (Nat × ak) → List (Nat × ak) → List (Nat × ak)
 | bs, [] => bs
 | bs, p :: r => Hh (dx bs p.1 p.2) r
def Hi : List (Nat × ak) → List (Nat × ak) → List (Nat × ak)
 | bs, [] => bs
 | bs, p :: r => Hi (bO bs p.1 p.2) r
def w6 (l : List Bool) : List Row → SS → SS
 | [], σ => σ
 | r :: rs, σ => match m5 l r.i with
   | true => w6 l rs { env := (σ.put r.d r.v).env, af := fD (Hi (Hh σ.af r.nw) r.ch) r.gone }
   | false => w6 l rs σ
def w7 (rows : List Row) (σ tw : SS) (l : List Bool) : SS :=
 match kS l with
 | true => tw
 | false => w6 l rows σ
def tz : List Bool → List Bool → Bool
 | [], [] => true
 | b :: bs, c :: cs => match b, c with
   | true, true => tz bs cs
   | false, false => tz bs cs
   | _, _ => false
 | _, _ => false
def qb : List Row → List Bool → List Bool → Bool
 | [], l, l' => tz l l'
 | r :: rs, l, l' => match kD l r.es with
   | false => qb rs l l'
   | true => match r.t with
     | true => qb rs (jk l r.i) l'
     | false => match m5 l' r.i with
       | true => qb rs (jk l r.i) l'
       | false => qb rs l l'
def kU : List Bool → Nat
 | [] => 0
 | b :: bs => match b with | true => kU bs | false => kU bs + 1
def w9 (P : Program) (tab : bf) (all : List Oper) (b : Bool) (pt : List Nat) : Nat → List Bool → SS → (List Bool → SS → Prop) → Prop
 | 0, l, σ, J => J l σ
 | n + 1, l, σ, J => match m6 tab b pt l σ all l 0 with
   | some (i, o) => lH P tab all o σ fun ax => w9 P tab all b pt n (jk l i) ax J
   | none => J l σ
def uX (P : Program) (tab : bf) (all : List Oper) (b : Bool) (pt : List Nat) : Nat → List Bool → SS → List Row → (List Row → SS → Prop) → Prop
 | 0, l, σ, rs, J => match kS l with
   | true => J rs σ
   | false => False
 | n + 1, l, σ, rs, J => match kS l with
   | true => J rs σ
   | false => match m6 tab b pt l σ all l 0 with
     | some (i, o) => lH P tab all o σ fun ax => uX P tab all b pt n (jk l i) ax (rs ++ [rowOf tab true i o σ ax]) J
     | none => match kT l all l 0 with
       | [] => False
       | (i, o) :: _ => match o.guard with
         | none => iX P tab o σ fun ax => uX P tab all b pt n (jk l i) ax (rs ++ [rowOf tab false i o σ ax]) J
         | some _ => False
def CM (P : Program) (tab : bf) (all : List Oper) (b : Bool) (nm0 pt : List Nat) (nodes : List Bool → Bool) (st : List Bool → SS) (l : List Bool) : Prop :=
 match kS l with
 | true => True
 | false => match kT l all l 0 with
   | [] => False
   | r :: rs => zf (r :: rs) fun i o => if (!b || okW tab nm0 pt (st l) o) = true then
      lH P tab all o (st l) fun ax => w9 P tab all b pt (kU l) (jk l i) ax fun l' uY => match nodes l' with
       | true => uY = st l'
       | false => False
     else False
def tA : List Row → List Bool → (List Bool → Prop) → Prop
 | [], l, p => Pz fun _ => p l
 | r :: rs, l, p => match kD l r.es with
   | false => tA rs l p
   | true => match r.t with
     | true => tA rs (jk l r.i) p
     | false => (Pz fun _ => tA rs (jk l r.i) p) ∧ Pz fun _ => tA rs l p
inductive bu (k : Prop) (ok : Unit → Bool) (p : Unit → Prop) : Prop where
 | mk (hk : k) (hb : ok () = true) (ht : p ())
def zk (l : List Bool) : List Row → Bool
 | [] => true
 | r :: rs => match m5 l r.i with
   | true => false
   | false => zk l rs
def Hj (P : Program) (tab : bf) (all : List Oper) (b : Bool) (nm0 pt : List Nat) (n : Nat) (l : List Bool) (σ : SS) (K : SS → Prop) : Prop :=
 uX P tab all b pt n l σ [] fun rows tw =>
  bu (K tw) (fun _ => qb rows l l && (Nat.ble (kU l) n && zk l rows)) (fun _ => tA rows l (CM P tab all b nm0 pt (qb rows l) (w7 rows σ tw)))
def N8 : List (Nat × Oper) → Bool
 | _ :: _ :: _ :: _ :: _ => true
 | _ => false
def qd (P : Program) (tab : bf) (all : List Oper) (b : Bool) (nm0 pt : List Nat) : Nat → List Bool → SS → (SS → Prop) → Prop
 | 0, l, σ, K => match kS l with | true => K σ | false => False
 | n + 1, l, σ, K =>
   match kS l with
   | true => K σ
   | false =>
     match m6 tab b pt l σ all l 0 with
     | some (i, o) => lH P tab all o σ fun ax => qd P tab all b nm0 pt n (jk l i) ax K
     | none =>
       match kT l all l 0 with
       | [] => False
       | r :: rs => match N8 (r :: rs) with
         | true => Hj P tab all b nm0 pt (n + 1) l σ K
         | false => zf (r :: rs) fun i o => if (!b || okW tab nm0 pt σ o) = true then lH P tab all o σ fun ax => qd P tab all b nm0 pt n (jk l i) ax K else False
def CN (P : Program) (tab : bf) (ops : Array Oper) (σ : SS) (K : SS → Prop) : Prop :=
 match oA tab ops.toList σ ops.toList with
 | some (nw, ws) => qd P tab ops.toList true (σ.af.map (·.1)) (match nw with | true => re σ.af (oB ws (σ.af.map (·.1))) | false => oB ws (σ.af.map (·.1))) ops.toList.length (rh ops.toList) σ K
 | none => match m4 tab ops.toList σ ops.toList with
   | some (true, ws) => qd P tab ops.toList true (re σ.af (oB ws (σ.af.map (·.1)))) (re σ.af (oB ws (σ.af.map (·.1)))) ops.toList.length (rh ops.toList) σ K
   | _ => qd P tab ops.toList false (σ.af.map (·.1)) [] ops.toList.length (rh ops.toList) σ K
def Hk (ops : Array Oper) (i : Nat) : Bool :=
 match ops[i]? with
 | none => true
 | some oi => (List.range ops.size).all fun j => j == i || match ops[j]? with
  | some oj => oj.after.any (fun e => Region.binds .any e && e.on == i) || oi.after.any (fun e => Region.binds .any e && e.on == j) || oi.apart ops oj
  | none => true
def oC (ops : Array Oper) : Bool := (List.range ops.size).all (Hk ops) && Region.noSelect ops
def gC : Code → Bool
 | .region _ ops draw => !draw || oC ops
 | .seq x y => gC x && gC y
 | .cond _ x y => gC x && gC y
 | .block _ x => gC x
 | .loop x => gC x
 | _ => true
def m7 (E : an) : List Nat → List (Nat × ak) → List (Nat × ak)
 | [], bs => bs
 | k :: ks, bs => match aM bs k with
   | some (.own E' xs false) => if E' = E then m7 E ks (bO bs k (.view E' xs)) else m7 E ks bs
   | _ => m7 E ks bs
def qe : List (Nat × Nat × an) → Nat → Nat → List (Nat × ak) → List (Nat × ak)
 | [], _, _, bs => bs
 | p :: r, n, id, bs => if p.1 = n ∧ p.2.1 = id then qe r n id (m7 p.2.2 (bs.map (·.1)) bs) else qe r n id bs
def SS.tB (tab : bf) (id : Nat) (σ : SS) : SS :=
 match tab.fz with
 | [] => σ
 | l => { σ with af := qe l σ.env.length id σ.af }
inductive lI (pk : List Nat) (σ : SS) (R : SS → Prop) : Prop where
 | mk (X : Type) (st : X → SS) (φ : X → Prop) (x0 : X) (h0 : φ x0) (hs : Sub pk σ (st x0)) (hr : ∀ x, φ x → R (st x))
def CO : List (Nat × Nat) → Nat → Nat → Bool
 | [], _, _ => false
 | p :: r, n, id => match Nat.beq p.1 n with
   | true => (match Nat.beq p.2 id with | true => true | false => CO r n id)
   | false => CO r n id
def CP (tab : bf) (pk : List Nat) (id : Nat) (σ : SS) (R : SS → Prop) : Prop :=
 match CO tab.ct σ.env.length id with
 | true => lI pk σ R
 | false => R σ
theorem N9 {tab : bf} {pk : List Nat} {id : Nat} {σ : SS} {R : SS → Prop} (h : CP tab pk id σ R) {Γ : Ctx} {a : Act} {w : World} (bK : Γ.hd = []) (ic : ∀ p ∈ Γ.hm, p.1 ∈ pk) (r : Rel Γ σ a w) : ∃ ax, R ax ∧ Rel Γ ax a w := by
 unfold CP at h
 split at h
 · obtain ⟨X, st, φ, x0, h0, hs, hr⟩ := h;exact ⟨_, hr x0 h0, hs Γ a w bK ic r⟩
 · exact ⟨_, h, r⟩
def mh (P : Program) (tab : bf) (fr : Bool) (pk : List Nat) : Code → SS → (Exit → SS → Prop) → Prop
 | .skip, σ, K => K .normal σ
 | .region id ops draw, σ, K => CP tab pk id σ fun σ => match draw with
   | false => ov P tab ops.toList ops.toList (σ.tB tab id) fun ax => K .normal ax
   | true => match fr with
     | true => CN P tab ops (σ.tB tab id) fun ax => K .normal ax
     | false => if Region.noSelect ops = true then CK P tab ops (σ.tB tab id) fun ax => K .normal ax else False
 | .seq x y, σ, K => mh P tab fr pk x σ fun e ax => match e with
   | .normal => mh P tab fr pk y ax K
   | e => K e ax
 | .cond c x y, σ, K => match σ.ev c with
   | .c (.bl true) => mh P tab fr pk x σ K
   | .c (.bl false) => mh P tab fr pk y σ K
   | .c (.lf (.bool t)) => Br t fun b => match b with
     | true => mh P tab fr pk x σ K
     | false => mh P tab fr pk y σ K
   | _ => False
 | .block id x, σ, K => mh P tab fr pk x σ fun e ax => match e with
   | .exit i => if i = id then K .normal ax else K (.exit i) ax
   | e => K e ax
 | .loop x, σ, K => aT pk σ fun ax J => mh P tab fr pk x ax fun e uY => match e with
   | .normal => J uY
   | e => K e uY
 | .exit id, σ, K => K (.exit id) σ
 | .ret, σ, K => K .ret σ
 | _, _, _ => False
section
variable {P : Program} {tab : bf} (hT : fw P tab = true) {Γ : Ctx}
include hT
theorem zl {H : Hp} {ρ : aG} {σ : SS} {a : Act} {w : World} {o : Oper} {K : SS → Prop} {Q : Exit → Act → World → Prop} (hw : gM tab o = true → Γ.hd = []) (h : iX P tab o σ K) (r : aI Γ H ρ σ a w) :
   o.wp P a w (fun a' w' => ∃ ax, K ax ∧ qK Γ H (gM tab o) w ax a' w') Q := by
 unfold iX at h
 split at h
 · rename_i v c hc; exact N2 r hw hc h
 · split at h
   · exact NA hT r hw h
   · obtain ⟨v, y, hk, hv, cM⟩ := BB hT r h;exact kC (cM w (nP.refl r _)) ⟨_, hk, ⟨ρ, r.put hv _⟩, fun _ => ib.refl w⟩
theorem N_ (bK : Γ.hd = []) {σ : SS} {a : Act} {w : World} {o : Oper} {K : SS → Prop} {Q : Exit → Act → World → Prop} (h : iX P tab o σ K) (r : Rel Γ σ a w) :
  o.wp P a w (fun a' w' => ∃ ax, K ax ∧ Rel Γ ax a' w') Q := by
 obtain ⟨H, ρ, r⟩ := r;exact Oper.wp_mono (fun a' w' ⟨ax, h1, h2⟩ => ⟨ax, h1, h2.rel⟩) (zl hT (fun _ => bK) h r)
omit hT in
theorem aI.gY {H : Hp} {ρ : aG} {σ : SS} {a : Act} {w : World} (r : aI Γ H ρ σ a w) {d : Nat} {t : Unit → Bool} (hd : σ.env.getD d (.c .undef) = .c (.lf (.bool t))) : aI Γ H ρ (σ.gY d (.c (.bl (t ())))) a w := by
 refine ⟨r.b, ⟨by simpa [SS.gY] using r.e.size, fun j c hj => ?_⟩, r.d, r.n, r.hd, r.hm⟩;simp only [SS.gY] at hj;rw [List.getElem?_set] at hj
 split at hj
 · rename_i kE
   split at hj
   · cases hj;have := wy r d;rw [hd] at this;have h2 := RL.of_bool this;rw [← kE];exact h2
   · cases hj
 · exact r.e.get j c hj
omit hT in
theorem Rel.gY {σ : SS} {a : Act} {w : World} (r : Rel Γ σ a w) {d : Nat} {t : Unit → Bool} (hd : σ.env.getD d (.c .undef) = .c (.lf (.bool t))) : Rel Γ (σ.gY d (.c (.bl (t ())))) a w := by
 obtain ⟨H, ρ, r⟩ := r;exact ⟨H, ρ, r.gY hd⟩
omit hT in
theorem uZ {σ : SS} {a : Act} {w : World} (r : Rel Γ σ a w) {all : Array Oper} {j d : Nat} (hg : za all.toList j = some d) :
   (∀ b, σ.env.getD d (.c .undef) = .c (.bl b) → yielded all a.tmps j = some b) ∧ (σ.env.getD d (.c .undef) = .bc [] → yielded all a.tmps j = none) := by
 obtain ⟨H, ρ, r⟩ := r;have nW : (all[j]?).bind (·.dst) = some d := by simpa [za] using hg
 have he := wy r d
 have aL : ∀ c, σ.env.getD d (.c .undef) = c → c ≠ .c .undef → a.tmps[d]? = some (a.tmps.getD d Go.undef) := fun c hc hne => by
   refine getD_some ?_;rw [r.e.size];rcases Nat.lt_or_ge d σ.env.length with h | h
   · exact h
   · rw [List.getD_eq_getElem?_getD, List.getElem?_eq_none h] at hc;exact (hne hc.symm).elim
 refine ⟨fun b hb => ?_, fun hb => ?_⟩
 · have h1 := aL _ hb (by simp);rw [hb] at he;simp only [RV, RC] at he;unfold yielded;rw [nW, Option.bind_some, h1, he]
 · have h1 := aL _ hb (by simp);rw [hb] at he;obtain ⟨vs, h2, h3, _⟩ := he;unfold yielded;rw [nW, Option.bind_some, h1, h2]
omit hT in
theorem aI.skip {H : Hp} {ρ : aG} {σ : SS} {a : Act} {w : World} (r : aI Γ H ρ σ a w) (d : Option Nat) : aI Γ H ρ (σ.put d p8) (a.put d Go.undef) w := by
 have h : RV H ρ (av σ.af) (.bc []) Go.undef := ⟨#[], rfl, rfl, fun j p hj => by simp at hj⟩;exact r.put h d
omit hT in
theorem Rel.skip {σ : SS} {a : Act} {w : World} (r : Rel Γ σ a w) (d : Option Nat) : Rel Γ (σ.put d p8) (a.put d Go.undef) w := by
 obtain ⟨H, ρ, r⟩ := r;exact ⟨H, ρ, r.skip d⟩
theorem w_ (bK : Γ.hd = []) {all : Array Oper} {Q : Exit → Act → World → Prop} : ∀ (l : List Oper) {σ : SS} {a : Act} {w : World} {K : SS → Prop}, ov P tab all.toList l σ K → Rel Γ σ a w →
   (∀ ax a' w', K ax → Rel Γ ax a' w' → Q .normal a' w') → wpList P all Q l a w
 | [], σ, a, w, K, h, r, hQ => hQ σ a w h r
 | o :: rest, σ, a, w, K, h, r, hQ => by
   have go : ∀ {σ : SS}, iX P tab o σ (fun ax => ov P tab all.toList rest ax K) → Rel Γ σ a w → o.wp P a w (wpList P all Q rest) Q := fun h r =>
     Oper.wp_mono (fun a' w' ⟨ax, h1, h2⟩ => w_ bK rest h1 h2 hQ) (N_ hT bK h r)
   unfold wpList;unfold ov at h
   split at h
   · rename_i hg;rw [if_pos (by simp [Region.wanted, hg])];exact .inl (go h r)
   · rename_i j want hg
     split at h
     · rename_i d hd;obtain ⟨y1, y2⟩ := uZ r hd
       split at h
       · rename_i b hb
         split at h
         · rename_i gO;rw [if_pos (by simp [Region.wanted, hg, y1 b hb, gO])];exact .inl (go h r)
         · rename_i gO;rw [if_neg (by simp [Region.wanted, hg, y1 b hb, gO])];exact w_ bK rest h (r.skip _) hQ
       · rename_i hb;rw [if_neg (by simp [Region.wanted, hg, y2 hb])];exact w_ bK rest h (r.skip _) hQ
       · rename_i t hb;obtain ⟨h⟩ := h;have r' := r.gY hb
         have aL : d < σ.env.length := by
           rcases Nat.lt_or_ge d σ.env.length with h | h
           · exact h
           · rw [List.getD_eq_getElem?_getD, List.getElem?_eq_none h] at hb; cases hb
         have y3 := (uZ r' hd).1 (t ()) (by simp [SS.gY, List.getD_eq_getElem?_getD, aL])
         split at h
         · rename_i gO;rw [if_pos (by simp [Region.wanted, hg, y3, gO])];exact .inl (go h r')
         · rename_i gO;rw [if_neg (by simp [Region.wanted, hg, y3, gO])];exact w_ bK rest h (r'.skip _) hQ
       · cases h
     · cases h
omit hT in
theorem u9 {σ : SS} {d : Nat} {t : Unit → Bool} {b : Bool} (hd : σ.env.getD d (.c .undef) = .c (.lf (.bool t))) (x : Operand) :
   (σ.gY d (.c (.bl b))).ev x = σ.ev x ∨ (∃ t, σ.ev x = .c (.lf (.bool t))) ∧ ∃ b', (σ.gY d (.c (.bl b))).ev x = .c (.bl b') := by
 cases x with
 | tmp j =>
   by_cases h : d = j
   · subst h;right;refine ⟨⟨t, hd⟩, b, ?_⟩
     have aL : d < σ.env.length := by
      rcases Nat.lt_or_ge d σ.env.length with h | h
      · exact h
      · rw [List.getD_eq_getElem?_getD, List.getElem?_eq_none h] at hd; cases hd
     simp [SS.ev, SS.gY, List.getD_eq_getElem?_getD, aL]
   · left;simp [SS.ev, SS.gY, List.getD_eq_getElem?_getD, h]
 | _ => left; rfl
omit hT in
theorem Hl {σ ax : SS} {o : Oper} (h : gn σ o = none) : gn ax o = none := by
 cases aX : o.op with
 | call c =>
   cases hc : c.callee with
   | value x => simp [gn, aX, hc] at h
   | _ => simp [gn, aX, hc]
 | _ => simp [gn, aX]
omit hT in
theorem Hm {σ ax : SS} {o : Oper} (iQ : ∀ x, ax.ev x = σ.ev x ∨ (∃ t, σ.ev x = .c (.lf (.bool t))) ∧ ∃ b', ax.ev x = .c (.bl b')) (hb : ax.af = σ.af) (h : kR tab σ o = false) : kR tab ax o = false := by
 have key : ∀ x, uT (ax.ev x) = uT (σ.ev x) := fun x => by
  rcases iQ x with h | ⟨⟨t, h1⟩, b', h2⟩
  · rw [h]
  · rw [h1, h2]; rfl
 have Vb : ∀ x, CH (ax.ev x) = CH (σ.ev x) := fun x => by
  rcases iQ x with h | ⟨⟨t, h1⟩, b', h2⟩
  · rw [h]
  · rw [h1, h2]; rfl
 have Vc : ∀ x, uT (qC ax.af (ax.ev x)) = uT (qC σ.af (σ.ev x)) := fun x => by
  rw [hb];rcases iQ x with h | ⟨⟨t, h1⟩, b', h2⟩
  · rw [h]
  · rw [h1, h2]; rfl
 have Vd : ∀ x, CG (ax.ev x) = CG (σ.ev x) := fun x => by
  rcases iQ x with h | ⟨⟨t, h1⟩, b', h2⟩
  · rw [h]
  · rw [h1, h2]; rfl
 unfold kR at h ⊢
 split at h <;> simp_all
omit hT in
theorem Hn {H : Hp} {ρ : aG} {ops : Array Oper} {i : Nat} {o : Oper} (hi : ops[i]? = some o) {σ : SS} {a : Act} {w : World} {K : SS → Prop} {Q : Exit → Act → World → Prop} {next : Act → World → Prop}
   (h : lH P tab ops.toList o σ K) (r : aI Γ H ρ σ a w) (go : ∀ {cQ : SS}, iX P tab o cQ K → aI Γ H ρ cQ a w → (cQ = σ ∨ ∃ d t, σ.env.getD d (.c .undef) = .c (.lf (.bool t)) ∧ cQ = σ.gY d (.c (.bl (t ())))) → o.wp P a w next Q)
   (sk : ∀ {cQ : SS}, K (cQ.put o.dst p8) → aI Γ H ρ cQ a w → next (a.put o.dst Go.undef) w) : wpOp P ops Q i next a w := by
 unfold wpOp;simp only [hi];unfold lH at h
 split at h
 · rename_i hg;rw [if_pos (by simp [Region.wanted, hg])];exact .inl (go h r (.inl rfl))
 · rename_i j want hg
   split at h
   · rename_i d hd;obtain ⟨y1, y2⟩ := uZ (⟨H, ρ, r⟩ : Rel Γ σ a w) hd
     split at h
     · rename_i b hb
       split at h
       · rename_i gO;rw [if_pos (by simp [Region.wanted, hg, y1 b hb, gO])];exact .inl (go h r (.inl rfl))
       · rename_i gO;rw [if_neg (by simp [Region.wanted, hg, y1 b hb, gO])];exact sk h r
     · rename_i hb;rw [if_neg (by simp [Region.wanted, hg, y2 hb])];exact sk h r
     · rename_i t hb;obtain ⟨h⟩ := h;have r' := r.gY hb
       have aL : d < σ.env.length := by
         rcases Nat.lt_or_ge d σ.env.length with h | h
         · exact h
         · rw [List.getD_eq_getElem?_getD, List.getElem?_eq_none h] at hb; cases hb
       have y3 := (uZ (⟨H, ρ, r'⟩ : Rel Γ _ a w) hd).1 (t ()) (by simp [SS.gY, List.getD_eq_getElem?_getD, aL])
       split at h
       · rename_i gO;rw [if_pos (by simp [Region.wanted, hg, y3, gO])];exact .inl (go h r' (.inr ⟨d, t, hb, rfl⟩))
       · rename_i gO;rw [if_neg (by simp [Region.wanted, hg, y3, gO])];exact sk h r'
     · cases h
   · cases h
theorem CQ {H : Hp} {ρ : aG} {ops : Array Oper} {i : Nat} {o : Oper} (hw : gM tab o = true → Γ.hd = []) (hi : ops[i]? = some o) {σ : SS} {a : Act} {w : World} {K : SS → Prop} {Q : Exit → Act → World → Prop} {next : Act → World → Prop}
  (h : lH P tab ops.toList o σ K) (r : aI Γ H ρ σ a w) (hn : ∀ ax a' w', K ax → qK Γ H (gM tab o) w ax a' w' → next a' w') : wpOp P ops Q i next a w :=
 Hn hi h r (fun h r _ => Oper.wp_mono (fun a' w' ⟨ax, h1, h2⟩ => hn ax a' w' h1 h2) (zl hT hw h r)) (fun h r => hn _ _ _ h ⟨⟨ρ, r.skip _⟩, fun _ => ib.refl _⟩)
def gZ (ρ0 : aG) (pt : List Nat) (w w' : World) : Prop := ∀ k ∈ pt, ∀ x, 0 < (ρ0 k).2 x → w'.heap[x]? = w.heap[x]?
omit hT in
theorem CR {σ cQ : SS} (h : ∀ x, (cQ.ev x).nm = (σ.ev x).nm) : ∀ {l : List Operand} {ms : List Bool}, jU ms (l.map cQ.ev) = jU ms (l.map σ.ev)
 | [], ms => by cases ms <;> rfl
 | x :: l, [] => rfl
 | x :: l, true :: ms => by simp only [List.map_cons, jU, h x, CR h (l := l)]
 | x :: l, false :: ms => by simp only [List.map_cons, jU, CR h (l := l)]
omit hT in
theorem Ho {H : Hp} {ρ : aG} {σ : SS} {a : Act} {w : World} (r : aI Γ H ρ σ a w) {j : Nat} {p0 : Value × (Nat → Nat)} (hb : uV (aM σ.af j) = true) (hf : (ρ j).1 = p0.1)
   (jl : ∀ b, p0.1 = .pointer (some ⟨b, 0, none⟩) → p0.2 = one b ∨ ∀ x, p0.2 x = 0) {x : Nat} (hx : 0 < p0.2 x) : av σ.af j ∧ (ρ j).2 x = 1 := by
 cases hg : aM σ.af j with
 | none => rw [hg] at hb; cases hb
 | some B =>
   rw [hg] at hb;cases B with
   | box cs =>
     obtain ⟨b, vs, e, fz, e1, e2, _⟩ := r.b.af j _ (de hg);refine ⟨fB hg, ?_⟩;rcases jl b (by rw [← hf]; exact e1) with h | h
     · rw [h] at hx;rw [e2];simp only [one] at hx ⊢
       split at hx
       · rename_i iY; rw [if_pos iY]
       · cases hx
     · rw [h x] at hx; cases hx
   | _ => cases hb
theorem CS {H : Hp} {ρ ρ0 : aG} {nm0 pt : List Nat} {ops : Array Oper} {i : Nat} {o : Oper} (hi : ops[i]? = some o) {σ : SS} (cE : okW tab nm0 pt σ o = true) {a : Act} {w : World} {K : SS → Prop} {Q : Exit → Act → World → Prop}
   {next : Act → World → Prop} (h : lH P tab ops.toList o σ K) (r : aI Γ H ρ σ a w) (eS : ∀ k ∈ nm0, (k, ρ0 k) ∈ Γ.hd) (kV : ∀ p ∈ Γ.hd, p.1 ∈ nm0) (eM : ∀ k ∈ pt, k ∈ nm0) (Hq : ∀ k ∈ pt, ∀ x, 0 < (ρ0 k).2 x → ∃ o, w.heap[x]? = some o)
   (kE : ∀ k ∈ nm0, ∀ j ∈ nm0, k ≠ j → ∀ x, (ρ0 k).2 x + (ρ0 j).2 x ≤ 1)
   (jl : ∀ k ∈ pt, ∀ b, (ρ0 k).1 = .pointer (some ⟨b, 0, none⟩) → (ρ0 k).2 = one b ∨ ∀ x, (ρ0 k).2 x = 0) (hn : ∀ ax a' w', K ax → (∃ ρ', aI Γ H ρ' ax a' w') → gZ ρ0 pt w w' → next a' w') : wpOp P ops Q i next a w := by
 have kp : ∀ w', ib w w' → gZ ρ0 pt w w' := fun w' hk k bD x hx => by
   obtain ⟨o, h3⟩ := Hq k bD x hx;rw [hk x _ h3, h3]
 refine Hn hi h r (fun {cQ} h r hs => ?_) (fun h r => hn _ _ _ h ⟨ρ, r.skip _⟩ (kp _ (ib.refl _)));simp only [okW, Bool.or_eq_true] at cE;rcases cE with (cE | cE) | cE
 · have Hr : gM tab o = false := by simpa using cE
   exact Oper.wp_mono (fun a' w' ⟨ax, h1, h2, h3⟩ => hn ax a' w' h1 h2 (kp _ (h3 Hr))) (zl hT (fun hw => by rw [Hr] at hw; cases hw) h r)
 · simp only [Bool.and_eq_true, Bool.not_eq_true', Option.isNone_iff_eq_none] at cE;obtain ⟨hc, hm⟩ := cE
   have Hs : gn cQ o = none ∧ kR tab cQ o = false := by
     rcases hs with rfl | ⟨d, t, hd, rfl⟩
     · exact ⟨hc, hm⟩
     · exact ⟨Hl hc, Hm (u9 hd) rfl hm⟩
   unfold iX at h;simp only [Hs.1, Hs.2, Bool.false_eq_true, if_false] at h;obtain ⟨v, y, hk, hv, cM⟩ := BB hT r h;exact kC (cM w (nP.refl r _)) (hn _ _ _ hk ⟨ρ, r.put hv _⟩ (kp _ (ib.refl w)))
 · split at cE
   · rename_i T p v aX hd hg
     split at cE
     · rename_i k off hp
       have qU : k ∉ pt := by
         simp only [Bool.or_eq_true, Bool.and_eq_true, Bool.not_eq_true'] at cE;rcases cE with h1 | h1
         · simpa using h1.2
         · simpa using h1.1
       have cN : cQ.ev p = .c (.ptr k off) := by
         rcases hs with rfl | ⟨d, t, hd, rfl⟩
         · exact hp
         · rcases u9 (b := t ()) hd p with h1 | ⟨⟨t', h1⟩, _⟩
           · rw [h1]; exact hp
           · rw [hp] at h1; cases h1
       have ff : gn cQ o = none := by simp [gn, aX]
       have cA : kR tab cQ o = true := by simp [kR, aX]
       unfold iX at h;simp only [ff, cA, if_true] at h;unfold tj at h;simp only [aX, hd, cN] at h;refine Oper.wp_mono (fun a' w' ⟨ax, h1, h2, h3⟩ => hn ax a' w' h1 ⟨ρ, h2⟩ fun j hj x hx => h3 x ?_) (MP hT r aX hd cN h);simp only [Bool.or_eq_true, Bool.and_eq_true, Bool.not_eq_true'] at cE;rcases cE with cE | cE
       · have fN : k ∈ nm0 := by simpa using cE.1
         have h4 := (r.hd _ (eS k fN)).2.2 x;have h5 := kE k fN j (eM j hj) (fun he => qU (he ▸ hj)) x;simp only at h4;omega
       · have m8 := List.all_eq_true.1 cE.2 j hj
         have gX : cQ.af = σ.af := by
           rcases hs with rfl | ⟨d, t, hd, rfl⟩ <;> rfl
         rw [← gX] at m8
         have iv : av cQ.af k := by
           have := jQ r.e p;rw [cN] at this;exact this.1
         cases qf : aM cQ.af j with
         | none => rw [qf] at m8; cases m8
         | some B =>
           rw [qf] at m8;cases B with
           | box cs =>
             obtain ⟨b, vs, e, fz, e1, e2, _⟩ := r.b.af j _ (de qf);have h6 := (r.hd _ (eS j (eM j hj))).2.1;have h7 := jl j hj b (by rw [← e1]; exact h6.symm);have h8 := s_ (ρ := ρ) iv (fB qf) (fun he => qU (he ▸ hj)) x;have h9 := r.b.sum x;rw [e2] at h8;rcases h7 with h7 | h7
             · rw [h7] at hx;omega
             · rw [h7] at hx;omega
           | _ => cases m8
     · rename_i k E i off hp;simp only [Bool.and_eq_true, Bool.not_eq_true', List.contains_eq_mem, decide_eq_false_iff_not] at cE
       have cN : cQ.ev p = .c (.fq k E i off) := by
         rcases hs with rfl | ⟨d, t, hd, rfl⟩
         · exact hp
         · rcases u9 (b := t ()) hd p with h1 | ⟨⟨t', h1⟩, _⟩
           · rw [h1]; exact hp
           · rw [hp] at h1; cases h1
       have gX : cQ.af = σ.af := by
         rcases hs with rfl | ⟨d, t, hd, rfl⟩ <;> rfl
       have ff : gn cQ o = none := by simp [gn, aX]
       have cA : kR tab cQ o = true := by simp [kR, aX]
       unfold iX at h;simp only [ff, cA, if_true] at h;unfold tj at h;simp only [aX, hd, cN] at h;have ep := jQ r.e p;rw [cN] at ep;obtain ⟨ax, w', ρ', h1, h2, h3, h4⟩ := GC hT r (fun q hq he => cE.1 (by rw [← he]; exact kV q hq)) h ep (jQ r.e v);refine wF (w' := w') (by simp only [execOp, aX, Sem.run_bind, h4, Result.andThen_ok, Sem.run_pure]) hd (hn ax a w' h1 ⟨ρ', h2⟩ fun j hj x hx => h3 x ?_);have iv : av cQ.af k := ep.1;obtain ⟨q1, q2⟩ := Ho r (gX ▸ List.all_eq_true.1 cE.2 j hj) ((r.hd _ (eS j (eM j hj))).2.1) (jl j hj) hx;have h8 := s_ (ρ := ρ) iv q1 (fun he => cE.1 (he ▸ eM j hj)) x;have h9 := r.b.sum x;omega
     · cases cE
   · rename_i c aX
     split at cE
     · rename_i x y ff di;have zn : gn cQ o = none := by simp [gn, aX, ff]
       have Oa : kR tab cQ o = true := by simp [kR, aX, ff]
       unfold iX at h;simp only [zn, Oa, if_true] at h
       have iQ : ∀ k, cQ.ev x = .c (.own k) → σ.ev x = .c (.own k) := fun k hk => by
         rcases hs with rfl | ⟨d, t, hd, rfl⟩
         · exact hk
         · rcases u9 (b := t ()) hd x with h1 | ⟨_, b', h2⟩
           · rw [← h1]; exact hk
           · rw [h2] at hk; cases hk
       have gX : cQ.af = σ.af := by
         rcases hs with rfl | ⟨d, t, hd, rfl⟩ <;> rfl
       refine Oper.wp_mono (fun a' w' ⟨ax, h1, h2, h3⟩ => hn ax a' w' h1 h2 fun j hj b hb => h3 b ?_ fun k hk => ?_) (NI hT r aX ff di h)
       · obtain ⟨o', pX⟩ := Hq j hj b hb;exact ky pX
       · have fN := iQ k hk;rw [fN] at cE;simp only [Bool.and_eq_true, Bool.not_eq_true'] at cE;have qU : k ∉ pt := by simpa using cE.1
         have m8 := List.all_eq_true.1 cE.2 j hj;rw [← gX] at m8
         have iv : av cQ.af k := by
           have := jQ r.e x;rw [hk] at this;exact this.1
         cases qf : aM cQ.af j with
         | none => rw [qf] at m8; cases m8
         | some B =>
           rw [qf] at m8;cases B with
           | box cs =>
             obtain ⟨b', vs, e, fz, e1, e2, _⟩ := r.b.af j _ (de qf);have h6 := (r.hd _ (eS j (eM j hj))).2.1;have h7 := jl j hj b' (by rw [← e1]; exact h6.symm);have h8 := s_ (ρ := ρ) iv (fB qf) (fun he => qU (he ▸ hj)) b;have h9 := r.b.sum b;rw [e2] at h8;rcases h7 with h7 | h7
             · rw [h7] at hb;omega
             · rw [h7] at hb;omega
           | _ => cases m8
     · rename_i f ff
       split at cE
       · rename_i ms CF;simp only [Bool.and_eq_true, List.all_eq_true, Bool.not_eq_true', List.contains_eq_mem, decide_eq_false_iff_not] at cE;have zn : gn cQ o = some (.c (.fn f []), c) := by simp [gn, aX, ff, SS.ev]
         have gX : cQ.af = σ.af := by
           rcases hs with rfl | ⟨d, t, hd, rfl⟩ <;> rfl
         have fE : ∀ x, (cQ.ev x).nm = (σ.ev x).nm := fun x => by
           rcases hs with rfl | ⟨d, t, hd, rfl⟩
           · rfl
           · rcases u9 (b := t ()) hd x with h1 | ⟨⟨t', h1⟩, b', h2⟩
             · rw [h1]
             · rw [h1, h2]; rfl
         have iO : ig cQ.af ms (c.args.toList.map cQ.ev) = ig σ.af ms (c.args.toList.map σ.ev) := by
           unfold ig;rw [gX, CR fE]
         unfold iX at h;simp only [zn] at h;unfold y8 at h;cases hd : o.dst with
         | none => simp only [hd] at h
         | some d =>
           simp only [hd, CF] at h;refine Oper.wp_mono (fun a' w' ⟨ax, h1, h2, h3⟩ => hn ax a' w' h1 h2 fun j hj x hx => ?_) (GZ r (fun p hp hm => cE.1 _ (iO ▸ hm) (kV p hp)) zn hd h);obtain ⟨q1, q2⟩ := Ho r (gX ▸ cE.2 j hj) ((r.hd _ (eS j (eM j hj))).2.1) (jl j hj) hx;exact h3 j q1 (fun hm => cE.1 _ (iO ▸ hm) (eM j hj)) x (by rw [q2]; exact Nat.one_pos)
       · cases cE
     · cases cE
   · cases cE
end
section
variable {P : Program} {tab : bf} (hT : fw P tab = true) {Γ : Ctx} {H : Hp}
include hT
omit hT in
theorem CT {ops : Array Oper} {b : Bool} {nm0 : List Nat} {listed : Array Bool} {σ : SS} : ∀ {l : List Nat} {i : Nat}, uW tab ops b nm0 listed σ l = some i → i ∈ l ∧ ∃ o, ops[i]? = some o ∧ tv tab b nm0 σ o = true ∧ Region.free .any ops listed i = true
 | [], i, h => by simp [uW] at h
 | j :: l, i, h => by
   unfold uW at h
   split at h
   · rename_i o ho
     split at h
     · rename_i hc;cases h;simp only [Bool.and_eq_true] at hc;exact ⟨List.mem_cons_self, o, ho, hc.1, hc.2⟩
     · obtain ⟨h1, h2⟩ := CT h; exact ⟨List.mem_cons_of_mem _ h1, h2⟩
   · obtain ⟨h1, h2⟩ := CT h; exact ⟨List.mem_cons_of_mem _ h1, h2⟩
omit hT in
theorem Ht {p : Nat → Prop} : ∀ {l : List Nat}, CJ l p → ∀ i ∈ l, p i
 | [], _, i, hi => by cases hi
 | [j], h, i, hi => by
   simp only [List.mem_singleton] at hi;subst hi; exact h
 | j :: k :: l, h, i, hi => by
   rcases List.mem_cons.1 hi with rfl | hi
   · exact h.1
   · exact Ht h.2 i hi
omit hT in
theorem Oc {σ ax : SS} {o : Oper} (iQ : ∀ x, ax.ev x = σ.ev x ∨ (∃ t, σ.ev x = .c (.lf (.bool t))) ∧ ∃ b', ax.ev x = .c (.bl b')) : qA o ax = qA o σ := by
 unfold qA
 split
 · rename_i T x _;rcases iQ x with h | ⟨⟨t, h1⟩, b', h2⟩
   · rw [h]
   · rw [h1, h2]; rfl
 · rfl
theorem zo {S : World → Prop} {ρ : aG} {ops : Array Oper} {o : Oper} {b : Bool} {pt : List Nat} {σ : SS} {a : Act} {w : World} {K : SS → Prop} (h : lH P tab ops.toList o σ K) (hd : tv tab b pt σ o = true) (r : aI Γ H ρ σ a w)
   (hS : ∀ w', S w' → ∀ rd : List Nat, qa b pt rd = true → nP H ρ rd w w') :
   ∃ v ax, YieldsIf P ops S o v a ∧ K ax ∧ aI Γ H ρ ax (a.put o.dst v) w := by
 simp only [tv, Bool.and_eq_true, Bool.not_eq_true', Option.isNone_iff_eq_none] at hd;obtain ⟨⟨hc, hm⟩, g_⟩ := hd
 have go : ∀ {cQ : SS}, iX P tab o cQ K → aI Γ H ρ cQ a w → gn cQ o = none → kR tab cQ o = false → qa b pt (qA o cQ) = true →
     ∃ v ax, (∀ w', S w' → (execOp a.eval o).run P w' = .ok (.value v) w') ∧ K ax ∧ aI Γ H ρ ax (a.put o.dst v) w := fun {cQ} h r hc hm g_ => by
   unfold iX at h;simp only [hc, hm, Bool.false_eq_true, if_false] at h;obtain ⟨v, y, hk, hv, cM⟩ := BB hT r h;exact ⟨y, _, fun w' mi => cM w' (hS w' mi _ g_), hk, r.put hv _⟩
 unfold lH at h
 split at h
 · rename_i hg;obtain ⟨v, ax, h1, h2, h3⟩ := go h r hc hm g_;exact ⟨v, ax, .inl ⟨by simp [Region.wanted, hg], h1⟩, h2, h3⟩
 · rename_i j want hg
   split at h
   · rename_i d l8;obtain ⟨y1, y2⟩ := uZ (⟨H, ρ, r⟩ : Rel Γ σ a w) l8
     split at h
     · rename_i c hb
       split at h
       · rename_i gO;obtain ⟨v, ax, h1, h2, h3⟩ := go h r hc hm g_;exact ⟨v, ax, .inl ⟨by simp [Region.wanted, hg, y1 c hb, gO], h1⟩, h2, h3⟩
       · rename_i gO;exact ⟨Go.undef, _, .inr ⟨by simp [Region.wanted, hg, y1 c hb, gO], rfl⟩, h, r.skip _⟩
     · rename_i hb;exact ⟨Go.undef, _, .inr ⟨by simp [Region.wanted, hg, y2 hb], rfl⟩, h, r.skip _⟩
     · rename_i t hb;obtain ⟨h⟩ := h;have r' := r.gY hb
       have aL : d < σ.env.length := by
         rcases Nat.lt_or_ge d σ.env.length with h | h
         · exact h
         · rw [List.getD_eq_getElem?_getD, List.getElem?_eq_none h] at hb; cases hb
       have y3 := (uZ (⟨H, ρ, r'⟩ : Rel Γ _ a w) l8).1 (t ()) (by simp [SS.gY, List.getD_eq_getElem?_getD, aL]);have iQ := u9 (b := t ()) hb
       split at h
       · rename_i gO;obtain ⟨v, ax, h1, h2, h3⟩ := go h r' (Hl hc) (Hm iQ rfl hm) (by rw [Oc iQ]; exact g_);exact ⟨v, ax, .inl ⟨by simp [Region.wanted, hg, y3, gO], h1⟩, h2, h3⟩
       · rename_i gO;exact ⟨Go.undef, _, .inr ⟨by simp [Region.wanted, hg, y3, gO], rfl⟩, h, r'.skip _⟩
     · cases h
   · cases h
theorem zp {ops : Array Oper} {b : Bool} {nm0 pt : List Nat} {Q : Exit → Act → World → Prop} {w0 : World} {ρ0 : aG} {K : SS → Prop} (oE : Region.noSelect ops = true)
   (lJ : b = false → Γ.hd = []) (eS : b = true → ∀ k ∈ nm0, (k, ρ0 k) ∈ Γ.hd) (kV : b = true → ∀ p ∈ Γ.hd, p.1 ∈ nm0) (eM : ∀ k ∈ pt, k ∈ nm0) (aL : ∀ k ∈ nm0, ∀ x, 0 < (ρ0 k).2 x → x < w0.heap.size) (kE : ∀ k ∈ nm0, ∀ j ∈ nm0, k ≠ j → ∀ x, (ρ0 k).2 x + (ρ0 j).2 x ≤ 1)
   (jl : ∀ k ∈ pt, ∀ b, (ρ0 k).1 = .pointer (some ⟨b, 0, none⟩) → (ρ0 k).2 = one b ∨ ∀ x, (ρ0 k).2 x = 0) (kW : ∀ c a w, ¬ Q (.panic c) a w) (hQ : ∀ ax a' w', K ax → (∃ ρ, aI Γ H ρ ax a' w') → Q .normal a' w') :
   ∀ (n : Nat) {listed : Array Bool} {σ : SS} {a : Act} {w : World} {ρ : aG}, rf P tab ops b nm0 pt n listed σ K → aI Γ H ρ σ a w → (b = true → gZ ρ0 pt w0 w) →
     wpAnyH P .any ops Q (fun w' => (∀ x o, H x = some o → w'.heap[x]? = some o) ∧ (b = true → gZ ρ0 pt w0 w')) n listed a w
 | 0, listed, σ, a, w, ρ, h, r, hk => by
   unfold rf at h
   split at h
   · rename_i he;exact ⟨he, hQ _ _ _ h ⟨ρ, r⟩⟩
   · cases h
 | n + 1, listed, σ, a, w, ρ, h, r, hk => by
   unfold rf at h;have h := N6 h
   split at h
   · rename_i he;exact wpAnyH_done he (hQ _ _ _ h ⟨ρ, r⟩) _
   · rename_i r0 rs he
     split at h
     · rename_i i hp;obtain ⟨hi, o, ho, hd, hf⟩ := CT hp;simp only [ho] at h
       obtain ⟨v, ax, hy, hK, r'⟩ := zo hT h hd r (S := fun w' => (∀ x o, H x = some o → w'.heap[x]? = some o) ∧ (b = true → gZ ρ0 pt w0 w')) fun w' mi rd g_ => by
         refine ⟨mi.1, fun k bD x hx => ?_⟩;cases b with
         | false => simp only [qa, List.isEmpty_iff] at g_; subst g_; cases bD
         | true =>
           have h1 : k ∈ pt := by
             simp only [qa, List.all_eq_true] at g_;simpa using g_ k bD
           have h2 := (r.hd _ (eS rfl k (eM k h1))).2.2 x;have h0 : 0 < (ρ0 k).2 x := by simp only at h2; omega
           rw [mi.2 rfl k h1 x h0, hk rfl k h1 x h0]
       exact wpAnyH_take ho oE hf (by rw [he]; simpa using hi) (fun c a w hq => (kW _ _ _ hq).elim) hy ⟨r.b.hh, hk⟩ (zp oE lJ eS kV eM aL kE jl kW hQ n hK r' hk)
     · refine wpAnyH_all he (by simp) fun i hi => ?_;have h := Ht h i hi
       split at h
       · rename_i o ho
         split at h
         · rename_i cE;cases b with
           | false =>
             refine CQ hT (fun _ => lJ rfl) ho h r fun ax a' w' hK hr => ?_;obtain ⟨⟨ρ', r'⟩, _⟩ := hr;exact ⟨⟨r'.b.hh, fun hb => by cases hb⟩, zp oE lJ eS kV eM aL kE jl kW hQ n hK r' (fun hb => by cases hb)⟩
           | true =>
             refine CS hT ho (by simpa using cE) h r (eS rfl) (kV rfl) eM (fun k bD x hx => ⟨_, by rw [hk rfl k bD x hx]; exact Array.getElem?_eq_getElem (aL k (eM k bD) x hx)⟩) kE jl fun ax a' w' hK hr xa => ?_;obtain ⟨ρ', r'⟩ := hr;have bD : true = true → gZ ρ0 pt w0 w' := fun _ k fN x hx => by rw [xa k fN x hx, hk rfl k fN x hx]
             exact ⟨⟨r'.b.hh, bD⟩, zp oE lJ eS kV eM aL kE jl kW hQ n hK r' bD⟩
         · cases h
       · cases h
omit hT in
theorem Hu {h : Array Obj} {H : Hp} {ρ : aG} {D : Nat → Prop} {B : ak} {p : Value × (Nat → Nat)} (hr : cK h H ρ D B p) {b : Nat} (hp : p.1 = .pointer (some ⟨b, 0, none⟩)) : p.2 = one b ∨ ∀ x, p.2 x = 0 := by
 cases B with
 | dead => simp only [cK] at hr; exact .inr fun x => by rw [hr]
 | box cs =>
   obtain ⟨b', vs, e, fz, h1, h2, _⟩ := hr;rw [hp] at h1;simp only [Value.pointer.injEq, Option.some.injEq, Addr.mk.injEq, and_true] at h1;subst h1;exact .inl h2
 | own E xs l =>
   obtain ⟨b', c, h1, _⟩ := bn.slice hr;rw [hp] at h1; cases h1
 | view E xs => exact .inr fun x => by rw [hr.2]
 | b0 E xs i fs =>
   obtain ⟨b', o, c, cs, e, fz, S, h1, _⟩ := hr;rw [hp] at h1; cases h1
 | mp m =>
   obtain ⟨b', es, c, h1, _⟩ := hr;rw [hp] at h1; cases h1
omit hT in
theorem xb {bs : List (Nat × ak)} {k : Nat} : ∀ {ks : List Nat}, k ∈ re bs ks → k ∈ ks
 | [], h => by cases h
 | j :: ks, h => by
   simp only [re] at h
   split at h
   · rcases List.mem_cons.1 h with rfl | h
     · exact List.mem_cons_self
     · exact List.mem_cons_of_mem _ (xb h)
   · exact List.mem_cons_of_mem _ (xb h)
omit hT in
theorem tC {l : List Nat} {k : Nat} : ∀ {ks : List Nat}, k ∈ oB l ks → k ∈ ks
 | [], h => by cases h
 | j :: ks, h => by
   simp only [oB] at h
   split at h
   · exact List.mem_cons_of_mem _ (tC h)
   · rcases List.mem_cons.1 h with rfl | h
     · exact List.mem_cons_self
     · exact List.mem_cons_of_mem _ (tC h)
theorem Od {id : Nat} {ops : Array Oper} {σ : SS} {a : Act} {w : World} {K : Exit → SS → Prop} {Q : Exit → Act → World → Prop} (bK : Γ.hd = [])
   (h : if Region.noSelect ops = true then CK P tab ops σ fun ax => K .normal ax else False)
   (r : Rel Γ σ a w) (hQ : ∀ ax a' w', K .normal ax → Rel Γ ax a' w' → Q .normal a' w') : (Code.region id ops true).wp P Q a w := by
 split at h
 · rename_i oE
   have key : ∀ (b : Bool) (pt : List Nat), (∀ k ∈ pt, k ∈ σ.af.map (·.1)) → rf P tab ops b (σ.af.map (·.1)) pt ops.size (Array.replicate ops.size false) σ (fun ax => K .normal ax) → (Code.region id ops true).wp P Q a w := by
     intro b pt eM h;obtain ⟨H, ρ, r⟩ := r
     let lK : Ctx := { Γ with hd := if b = true then σ.af.map fun p => (p.1, ρ p.1) else [] }
     have r' : aI lK H ρ σ a { w with drawn := w.drawn + 1 } := by
       refine ⟨r.b, r.e, r.d, r.n.trans (Ext.of (Nat.le_refl _) rfl rfl fun _ => rfl), fun p hp => ?_, r.hm⟩;simp only [lK] at hp
       split at hp
       · obtain ⟨q, hq, rfl⟩ := List.mem_map.1 hp;exact ⟨List.mem_map.2 ⟨q, hq, rfl⟩, rfl, fun x => Nat.le_refl _⟩
       · cases hp
     refine Code.wp_mono (Q := fun e a w => match e with | .normal => Q .normal a w | _ => False) (fun e a w hq => by cases e <;> first | exact hq | exact hq.elim) ?_
     refine wp_region_held (Fm hT) (zp (Γ := lK) (H := H) (ρ0 := ρ) (w0 := { w with drawn := w.drawn + 1 }) hT oE (fun hb => by simp only [lK, hb]; rfl) (fun hb k hk => ?_) (fun hb p hp => ?_) eM (fun k hk x hx => ?_) (fun k hk j hj hne x => ?_) (fun k hk b hb => ?_) (fun c a w hq => hq)
       (fun ax a' w' hK hr => ?_) _ h r' (fun _ _ _ _ _ => rfl))
     · obtain ⟨q, hq, rfl⟩ := List.mem_map.1 hk;simp only [lK, hb, if_true];exact List.mem_map.2 ⟨q, hq, rfl⟩
     · simp only [lK, hb, if_true] at hp;obtain ⟨q, hq, rfl⟩ := List.mem_map.1 hp;exact List.mem_map.2 ⟨q, hq, rfl⟩
     · obtain ⟨q, hq, rfl⟩ := List.mem_map.1 hk;exact r'.lt (Nat.lt_of_lt_of_le hx (mO hq x))
     · exact Nat.le_trans (s_ hk hj (Ne.symm hne) x) (r.b.sum x)
     · obtain ⟨q, hq, rfl⟩ := List.mem_map.1 (eM k hk);have h1 := r.b.af _ _ hq;exact Hu h1 hb
     · obtain ⟨ρ', r2⟩ := hr;exact hQ _ _ _ hK ⟨H, ρ', r2.b, r2.e, r2.d, r2.n, by rw [bK]; (intro p hp; cases hp), r2.hm⟩
   unfold CK at h
   split at h
   · rename_i nw ws _;cases nw with
     | true => exact key true _ (fun k hk => tC (xb hk)) h
     | false => exact key true _ (fun k hk => tC hk) h
   · exact key false [] (fun k hk => by cases hk) h
 · cases h
omit hT in
theorem Hv : ∀ (l : List Bool) (j : Nat), m5 l j = l.toArray.getD j false
 | [], j => by simp [m5]
 | b :: l, 0 => by simp [m5]
 | b :: l, j + 1 => by
   have := Hv l j;simp only [m5, this];simp [Array.getD_eq_getD_getElem?]
omit hT in
theorem u_ : ∀ (l : List Bool) (i : Nat), jk l i = l.set i true
 | [], i => by simp [jk]
 | b :: l, 0 => by simp [jk]
 | b :: l, i + 1 => by simp [jk, u_ l i]
omit hT in
theorem CU : ∀ {l : List Bool}, kS l = true → ∀ b ∈ l, b = true
 | [], _, b, hb => by cases hb
 | c :: l, h, b, hb => by
   cases c with
   | false => cases h
   | true =>
     cases hb with
     | head => rfl
     | tail _ hb => exact CU (l := l) h b hb
omit hT in
theorem Hw : ∀ (os : List Oper), rh os = List.replicate os.length false
 | [] => rfl
 | _ :: os => by simp [rh, Hw os, List.replicate_succ]
omit hT in
theorem Hy {l : List Bool} : ∀ {es : List Edge}, kD l es = true ↔ ∀ e ∈ es, Region.binds .any e = true → m5 l e.on = true
 | [] => by simp [kD]
 | e :: es => by
   have ih := Hy (l := l) (es := es);unfold kD;cases h : Region.binds .any e with
   | false => simp [ih, h]
   | true =>
     cases h2 : m5 l e.on with
     | false => simp [h, h2]
     | true => simp [ih, h, h2]
omit hT in
theorem zq {b : Bool} {pt : List Nat} {l0 : List Bool} {σ : SS} : ∀ {os : List Oper} {ls : List Bool} {k i : Nat} {o : Oper}, m6 tab b pt l0 σ os ls k = some (i, o) →
   ∃ j, i = k + j ∧ os[j]? = some o ∧ ls[j]? = some false ∧ kD l0 o.after.toList = true ∧ tv tab b pt σ o = true
 | [], ls, k, i, o, h => by simp [m6] at h
 | _ :: _, [], k, i, o, h => by simp [m6] at h
 | q :: os, l :: ls, k, i, o, h => by
   have next : m6 tab b pt l0 σ os ls (k + 1) = some (i, o) → ∃ j, i = k + j ∧ (q :: os)[j]? = some o ∧ (l :: ls)[j]? = some false ∧ kD l0 o.after.toList = true ∧ tv tab b pt σ o = true := fun h => by
     obtain ⟨j, h1, h2, h3, h4⟩ := zq h;exact ⟨j + 1, by omega, by simpa using h2, by simpa using h3, h4⟩
   unfold m6 at h;cases l with
   | true => exact next h
   | false =>
     simp only at h
     split at h
     · rename_i ha
       split at h
       · rename_i hd;cases h;exact ⟨0, rfl, rfl, rfl, ha, hd⟩
       · exact next h
     · exact next h
omit hT in
theorem CV {l0 : List Bool} : ∀ {os : List Oper} {ls : List Bool} {k j : Nat} {o : Oper}, os[j]? = some o → ls[j]? = some false → kD l0 o.after.toList = true → (k + j, o) ∈ kT l0 os ls k
 | [], ls, k, j, o, h, _, _ => by simp at h
 | _ :: _, [], k, j, o, _, h, _ => by simp at h
 | q :: os, l :: ls, k, 0, o, h1, h2, h3 => by
   simp only [List.getElem?_cons_zero, Option.some.injEq] at h1 h2;subst h1; subst h2;unfold kT;simp only [h3, Nat.add_zero, List.mem_cons, true_or]
 | q :: os, l :: ls, k, j + 1, o, h1, h2, h3 => by
   have ih := CV (l0 := l0) (os := os) (ls := ls) (k := k + 1) (j := j) (o := o) (by simpa using h1) (by simpa using h2) h3;rw [show k + (j + 1) = k + 1 + j by omega];unfold kT
   split
   · exact ih
   · split
     · exact List.mem_cons_of_mem _ ih
     · exact ih
omit hT in
theorem CW {l0 : List Bool} : ∀ {os : List Oper} {ls : List Bool} {k i : Nat} {o : Oper}, (i, o) ∈ kT l0 os ls k → ∃ j, i = k + j ∧ os[j]? = some o ∧ ls[j]? = some false ∧ kD l0 o.after.toList = true
 | [], ls, k, i, o, h => by simp [kT] at h
 | _ :: _, [], k, i, o, h => by simp [kT] at h
 | q :: os, l :: ls, k, i, o, h => by
   have next : (i, o) ∈ kT l0 os ls (k + 1) → ∃ j, i = k + j ∧ (q :: os)[j]? = some o ∧ (l :: ls)[j]? = some false ∧ kD l0 o.after.toList = true := fun h => by
     obtain ⟨j, h1, h2, h3, h4⟩ := CW h;exact ⟨j + 1, by omega, by simpa using h2, by simpa using h3, h4⟩
   unfold kT at h
   split at h
   · exact next h
   · split at h
     · rename_i ha;rcases List.mem_cons.1 h with h | h
       · cases h;exact ⟨0, rfl, rfl, rfl, ha⟩
       · exact next h
     · exact next h
omit hT in
theorem CX {q : Nat → Oper → Prop} : ∀ {l : List (Nat × Oper)}, zf l q → ∀ p ∈ l, q p.1 p.2
 | [], _, p, hp => by cases hp
 | [_], h, p, hp => by cases List.mem_singleton.1 hp; exact h
 | _ :: r :: l, h, p, hp => by
   rcases List.mem_cons.1 hp with rfl | hp
   · exact h.1
   · exact CX (l := r :: l) h.2 p hp
omit hT in
theorem ri {ops : Array Oper} {l : List Bool} {i : Nat} : i ∈ Region.ready .any ops l.toArray ↔ l.toArray.getD i true = false ∧ ∃ o, ops.toList[i]? = some o ∧ kD l o.after.toList = true := by
 rw [mem_ready];simp only [Hy, Hv, Array.getElem?_toList, Array.mem_toList_iff]
omit hT in
theorem qg {l : List Bool} {i : Nat} : l.toArray.getD i true = false ↔ l[i]? = some false := by
 rw [Array.getD_eq_getD_getElem?, List.getElem?_toArray];cases h : l[i]? with
 | none => simp
 | some b => simp
omit hT in
theorem Hz {ops : Array Oper} (hf : oC ops = true) {l : Array Bool} {i : Nat} (hi : i ∈ Region.ready .any ops l) : Region.free .any ops l i = true := by
 obtain ⟨h1, o, h2, h3⟩ := mem_ready.1 hi;simp only [oC, Bool.and_eq_true, List.all_eq_true, List.mem_range] at hf;have aL := (Array.getElem?_eq_some_iff.1 h2).1;have h4 := hf.1 i aL;simp only [Hk, h2, List.all_eq_true, List.mem_range] at h4;simp only [Region.free, h2, List.all_eq_true, List.mem_range];intro j hj;have h5 := h4 j hj;simp only [Bool.or_eq_true] at h5 ⊢;rcases h5 with h5 | h5
 · exact .inl (.inl h5)
 · cases xc : l.getD j true with
   | true => exact .inl (.inr rfl)
   | false =>
     refine .inr ?_;cases Oe : ops[j]? with
     | none => rfl
     | some oj =>
       simp only [Oe, Bool.or_eq_true] at h5 ⊢;rcases h5 with (h5 | h5) | h5
       · exact .inl h5
       · exfalso;obtain ⟨e, he, h6⟩ := Array.any_eq_true'.1 h5;simp only [Bool.and_eq_true, beq_iff_eq] at h6;have h7 := h3 e he h6.1;rw [h6.2] at h7;rw [Array.getD_eq_getD_getElem?] at h7 xc;cases h8 : l[j]? with
         | none => rw [h8] at h7; cases h7
         | some b => rw [h8] at h7 xc; simp at h7 xc; rw [h7] at xc; cases xc
       · exact .inr h5
omit hT in
theorem CY : ∀ {l m : List Bool}, tz l m = true → l = m
 | [], [], _ => rfl
 | [], _ :: _, h => by simp [tz] at h
 | _ :: _, [], h => by simp [tz] at h
 | b :: bs, c :: cs, h => by
   cases b <;> cases c <;> simp only [tz] at h
   · rw [CY h]
   · cases h
   · cases h
   · rw [CY h]
omit hT in
theorem xd {p : List Bool → Prop} : ∀ {rs : List Row} {l l' : List Bool}, tA rs l p → qb rs l l' = true → p l'
 | [], l, l', h, hi => by
   rw [← CY hi]; exact h.1
 | r :: rs, l, l', h, hi => by
   unfold tA at h;unfold qb at hi
   split at h
   · rename_i ha;rw [ha] at hi;exact xd h hi
   · rename_i ha;rw [ha] at hi
     split at h
     · rename_i ht;rw [ht] at hi;exact xd h hi
     · rename_i ht;rw [ht] at hi;simp only at hi
       split at hi
       · exact xd h.1.1 hi
       · exact xd h.2.1 hi
omit hT in
theorem CZ : ∀ {l : List Bool} {i : Nat}, l[i]? = some false → kU l = kU (jk l i) + 1
 | [], i, h => by simp at h
 | b :: l, 0, h => by
   simp only [List.getElem?_cons_zero, Option.some.injEq] at h;subst h; rfl
 | b :: l, i + 1, h => by
   have ih := CZ (l := l) (i := i) (by simpa using h);cases b <;> simp only [kU, jk, ih]
omit hT in
theorem HA : ∀ {l : List Bool}, kU l = 0 → kS l = true
 | [], _ => rfl
 | b :: l, h => by
   cases b with
   | true => exact HA (l := l) h
   | false => simp [kU] at h
omit hT in
theorem HB {l : List Bool} {σ : SS} : ∀ {rs : List Row}, zk l rs = true → w6 l rs σ = σ
 | [], _ => rfl
 | r :: rs, h => by
   unfold zk at h;unfold w6
   split at h
   · cases h
   · exact HB h
omit hT in
theorem Of {o : Oper} {a : Act} {w : World} {C : Prop} (h : o.wp P a w (fun _ _ => C) (fun _ _ _ => False)) : C := by
 unfold Oper.wp at h;cases hr : (execOp a.eval o).run P w with
 | ok n w' =>
   rw [hr] at h;cases n with
   | value v => exact h
   | skip => exact h
   | defer d => exact h
   | enter f args =>
     obtain ⟨e, sR, fr, h1, _⟩ := h [];cases e with
     | returned v => exact h1
     | panicked c => exact h1.elim
     | outgrown => obtain ⟨_, _, h2⟩ := h1; exact h2.elim
   | row r args =>
     obtain ⟨v, sR, h1, _⟩ := h (Frame.ofRow P r args .normal) [];exact h1
   | _ => exact h.elim
 | halt x w' =>
   rw [hr] at h;cases x <;> exact h.elim
theorem C0 {ops : Array Oper} {b : Bool} {pt : List Nat} (bK : Γ.hd = []) : ∀ (n : Nat) {l : List Bool} {σ : SS} {rs : List Row} {J : List Row → SS → Prop} {ρ : aG} {a : Act} {w : World}, uX P tab ops.toList b pt n l σ rs J → aI Γ H ρ σ a w → ∃ Og ax, J Og ax
 | 0, l, σ, rs, J, ρ, a, w, h, r => by
   unfold uX at h
   split at h
   · exact ⟨_, _, h⟩
   · cases h
 | n + 1, l, σ, rs, J, ρ, a, w, h, r => by
   unfold uX at h
   split at h
   · exact ⟨_, _, h⟩
   · split at h
     · rename_i i o hp;obtain ⟨j, hj, h1, h2, h3, hd⟩ := zq hp;obtain ⟨v, ax, _, hK, r'⟩ := zo hT h hd r (S := fun w' => w' = w) (fun w' mi rd _ => by rw [mi]; exact nP.refl r _);exact C0 bK n hK r'
     · split at h
       · cases h
       · rename_i i o _ _
         split at h
         · have h1 := zl hT (Q := fun _ _ _ => False) (fun _ => bK) h r;refine Of (o := o) (a := a) (w := w) (P := P) (Oper.wp_mono (fun a' w' h2 => ?_) h1);obtain ⟨ax, hK, ⟨ρ', r'⟩, _⟩ := h2;exact C0 bK n hK r'
         · cases h
theorem HC {ops : Array Oper} {b : Bool} {nm0 pt : List Nat} {Q : Exit → Act → World → Prop} {w0 : World} {ρ0 : aG} (iw : oC ops = true)
   (eS : b = true → ∀ k ∈ nm0, (k, ρ0 k) ∈ Γ.hd) (eM : ∀ k ∈ pt, k ∈ nm0) (kW : ∀ c a w, ¬ Q (.panic c) a w) {J : List Bool → SS → Prop} :
   ∀ (n : Nat) {m : Nat} {l : List Bool} {σ : SS} {a : Act} {w : World} {ρ : aG}, w9 P tab ops.toList b pt n l σ J → aI Γ H ρ σ a w → (b = true → gZ ρ0 pt w0 w) → kU l ≤ m →
     (∀ m' l' ax a' w' ρ', m' ≤ m → J l' ax → aI Γ H ρ' ax a' w' → (b = true → gZ ρ0 pt w0 w') → kU l' ≤ m' → wpAnyH P .any ops Q (fun w' => (∀ x o, H x = some o → w'.heap[x]? = some o) ∧ (b = true → gZ ρ0 pt w0 w')) m' l'.toArray a' w') →
     wpAnyH P .any ops Q (fun w' => (∀ x o, H x = some o → w'.heap[x]? = some o) ∧ (b = true → gZ ρ0 pt w0 w')) m l.toArray a w
 | 0, m, l, σ, a, w, ρ, h, r, hk, hc, go => go m l σ a w ρ (Nat.le_refl _) h r hk hc
 | n + 1, m, l, σ, a, w, ρ, h, r, hk, hc, go => by
   have oE : Region.noSelect ops = true := by
     have h1 := iw;simp only [oC, Bool.and_eq_true] at h1;exact h1.2
   unfold w9 at h
   split at h
   · rename_i i o hp;obtain ⟨j, hj, h1, h2, h3, hd⟩ := zq hp;rw [Nat.zero_add] at hj;subst hj;have hi : i ∈ Region.ready .any ops l.toArray := ri.2 ⟨qg.2 h2, o, h1, h3⟩;have ho : ops[i]? = some o := by rw [← Array.getElem?_toList]; exact h1
     obtain ⟨v, ax, hy, hK, r'⟩ := zo hT h hd r (S := fun w' => (∀ x o, H x = some o → w'.heap[x]? = some o) ∧ (b = true → gZ ρ0 pt w0 w')) fun w' mi rd g_ => by
      refine ⟨mi.1, fun k bD x hx => ?_⟩;cases b with
      | false => simp only [qa, List.isEmpty_iff] at g_; subst g_; cases bD
      | true =>
        have h1 : k ∈ pt := by
         simp only [qa, List.all_eq_true] at g_;simpa using g_ k bD
        have h2 := (r.hd _ (eS rfl k (eM k h1))).2.2 x;have h0 : 0 < (ρ0 k).2 x := by simp only at h2; omega
        rw [mi.2 rfl k h1 x h0, hk rfl k h1 x h0]
     have dy := CZ h2;obtain ⟨m, rfl⟩ : ∃ m', m = m' + 1 := ⟨m - 1, by omega⟩;have m9 := HC iw eS eM kW n (m := m) hK r' hk (by omega) (fun m' l' ax a' w' ρ' hm => go m' l' ax a' w' ρ' (by omega));rw [u_, ← List.setIfInBounds_toArray] at m9;exact wpAnyH_take ho oE (Hz iw hi) (by simpa using hi) (fun c a w hq => (kW _ _ _ hq).elim) hy ⟨r.b.hh, hk⟩ m9
   · exact go m l σ a w ρ (Nat.le_refl _) h r hk hc
theorem Oh {ops : Array Oper} {b : Bool} {nm0 pt : List Nat} {Q : Exit → Act → World → Prop} {w0 : World} {ρ0 : aG} {K : SS → Prop} (iw : oC ops = true)
   (lJ : b = false → Γ.hd = []) (eS : b = true → ∀ k ∈ nm0, (k, ρ0 k) ∈ Γ.hd) (kV : b = true → ∀ p ∈ Γ.hd, p.1 ∈ nm0) (eM : ∀ k ∈ pt, k ∈ nm0) (aL : ∀ k ∈ nm0, ∀ x, 0 < (ρ0 k).2 x → x < w0.heap.size) (kE : ∀ k ∈ nm0, ∀ j ∈ nm0, k ≠ j → ∀ x, (ρ0 k).2 x + (ρ0 j).2 x ≤ 1)
   (jl : ∀ k ∈ pt, ∀ b, (ρ0 k).1 = .pointer (some ⟨b, 0, none⟩) → (ρ0 k).2 = one b ∨ ∀ x, (ρ0 k).2 x = 0) (kW : ∀ c a w, ¬ Q (.panic c) a w) (hQ : ∀ ax a' w', K ax → (∃ ρ, aI Γ H ρ ax a' w') → Q .normal a' w')
   {nodes : List Bool → Bool} {st : List Bool → SS} (hK : ∀ l, kS l = true → K (st l)) (hn : ∀ l, nodes l = true → CM P tab ops.toList b nm0 pt nodes st l) :
   ∀ (m : Nat) {l : List Bool} {a : Act} {w : World} {ρ : aG}, nodes l = true → aI Γ H ρ (st l) a w → (b = true → gZ ρ0 pt w0 w) → kU l ≤ m →
     wpAnyH P .any ops Q (fun w' => (∀ x o, H x = some o → w'.heap[x]? = some o) ∧ (b = true → gZ ρ0 pt w0 w')) m l.toArray a w := by
 have gD : ∀ {l : List Bool}, kS l = true → Region.ready .any ops l.toArray = [] := fun {l} h => by
   refine List.eq_nil_iff_forall_not_mem.2 fun i hi => ?_;obtain ⟨h1, _⟩ := ri.1 hi;have := CU h _ (List.mem_of_getElem? (qg.1 h1));cases this
 intro m
 induction m using Nat.strongRecOn with
 | ind m ih =>
   intro l a w ρ hl r hk hc;cases xe : kS l with
   | true => exact wpAnyH_done (gD xe) (hQ _ _ _ (hK l xe) ⟨ρ, r⟩) _
   | false =>
     have h := hn l hl;unfold CM at h;rw [xe] at h;simp only at h
     split at h
     · cases h
     · rename_i r0 rs he
       have hne : Region.ready .any ops l.toArray ≠ [] := by
         obtain ⟨i0, o0⟩ := r0;obtain ⟨j, hj, h1, h2, h3⟩ := CW (i := i0) (o := o0) (by rw [he]; exact List.mem_cons_self);rw [Nat.zero_add] at hj;subst hj;intro h0;have : i0 ∈ Region.ready .any ops l.toArray := ri.2 ⟨qg.2 h2, o0, h1, h3⟩;rw [h0] at this; cases this
       obtain ⟨m, rfl⟩ : ∃ m', m = m' + 1 := by
         cases m with
         | zero =>
           have := HA (Nat.le_zero.1 hc);rw [this] at xe; cases xe
         | succ m => exact ⟨m, rfl⟩
       refine wpAnyH_all rfl hne fun i hi => ?_;obtain ⟨h1, o, h2, h3⟩ := ri.1 hi;have cA := CV (l0 := l) (k := 0) h2 (qg.1 h1) h3;rw [Nat.zero_add, he] at cA;have h := CX h _ cA;have ho : ops[i]? = some o := by rw [← Array.getElem?_toList]; exact h2
       have dy := CZ (qg.1 h1)
       have next : ∀ (ax : SS) (a' : Act) (w' : World) (ρ' : aG), w9 P tab ops.toList b pt (kU l) (jk l i) ax (fun l' uY => match nodes l' with | true => uY = st l' | false => False) → aI Γ H ρ' ax a' w' → (b = true → gZ ρ0 pt w0 w') →
           wpAnyH P .any ops Q (fun w' => (∀ x o, H x = some o → w'.heap[x]? = some o) ∧ (b = true → gZ ρ0 pt w0 w')) m (l.toArray.setIfInBounds i true) a' w' := fun ax a' w' ρ' je r' bD => by
         have := HC hT iw eS eM kW (kU l) (m := m) je r' bD (by omega) (fun m' l' ax a' w' ρ' hm hJ r' bD yI => by
           split at hJ
           · rename_i y0;subst hJ;exact ih m' (by omega) y0 r' bD yI
           · cases hJ)
         rw [u_, ← List.setIfInBounds_toArray] at this;exact this
       simp only at h
       split at h
       · rename_i cE;cases b with
         | false =>
           refine CQ hT (fun _ => lJ rfl) ho h r fun ax a' w' C1 hr => ?_;obtain ⟨⟨ρ', r'⟩, _⟩ := hr;exact ⟨⟨r'.b.hh, fun hb => by cases hb⟩, next _ _ _ _ C1 r' (fun hb => by cases hb)⟩
         | true =>
           refine CS hT ho (by simpa using cE) h r (eS rfl) (kV rfl) eM (fun k bD x hx => ⟨_, by rw [hk rfl k bD x hx]; exact Array.getElem?_eq_getElem (aL k (eM k bD) x hx)⟩) kE jl fun ax a' w' C1 hr xa => ?_;obtain ⟨ρ', r'⟩ := hr;have bD : true = true → gZ ρ0 pt w0 w' := fun _ k fN x hx => by rw [xa k fN x hx, hk rfl k fN x hx]
           exact ⟨⟨r'.b.hh, bD⟩, next _ _ _ _ C1 r' bD⟩
       · cases h
theorem Oi {ops : Array Oper} {b : Bool} {nm0 pt : List Nat} {Q : Exit → Act → World → Prop} {w0 : World} {ρ0 : aG} {K : SS → Prop} (iw : oC ops = true)
  (lJ : b = false → Γ.hd = []) (eS : b = true → ∀ k ∈ nm0, (k, ρ0 k) ∈ Γ.hd) (kV : b = true → ∀ p ∈ Γ.hd, p.1 ∈ nm0) (eM : ∀ k ∈ pt, k ∈ nm0) (aL : ∀ k ∈ nm0, ∀ x, 0 < (ρ0 k).2 x → x < w0.heap.size) (kE : ∀ k ∈ nm0, ∀ j ∈ nm0, k ≠ j → ∀ x, (ρ0 k).2 x + (ρ0 j).2 x ≤ 1)
  (jl : ∀ k ∈ pt, ∀ b, (ρ0 k).1 = .pointer (some ⟨b, 0, none⟩) → (ρ0 k).2 = one b ∨ ∀ x, (ρ0 k).2 x = 0) (kW : ∀ c a w, ¬ Q (.panic c) a w) (hQ : ∀ ax a' w', K ax → (∃ ρ, aI Γ H ρ ax a' w') → Q .normal a' w')
  {n : Nat} {l : List Bool} {σ : SS} {a : Act} {w : World} {ρ : aG} (hl : kS l = false) (h : Hj P tab ops.toList b nm0 pt n l σ K) (r : aI Γ H ρ σ a w) (hk : b = true → gZ ρ0 pt w0 w) :
   wpAnyH P .any ops Q (fun w' => (∀ x o, H x = some o → w'.heap[x]? = some o) ∧ (b = true → gZ ρ0 pt w0 w')) n l.toArray a w := by
 have r0 : aI { Γ with hd := [] } H ρ σ a w := ⟨r.b, r.e, r.d, r.n, (fun p hp => by cases hp), r.hm⟩;obtain ⟨rows, tw, qU, hb, ht⟩ := C0 (Γ := { Γ with hd := [] }) hT rfl n h r0;simp only [Bool.and_eq_true] at hb;obtain ⟨rj, dC, cu⟩ := hb
 have e0 : w7 rows σ tw l = σ := by
  unfold w7;rw [hl];exact HB cu
 refine Oh hT iw lJ eS kV eM aL kE jl kW hQ (nodes := qb rows l) (st := w7 rows σ tw) (fun l' jR => ?_) (fun l' jR => xd ht jR) n rj (by rw [e0]; exact r) hk (Nat.le_of_ble_eq_true dC);unfold w7;rw [jR];exact qU
theorem Oj {ops : Array Oper} {b : Bool} {nm0 pt : List Nat} {Q : Exit → Act → World → Prop} {w0 : World} {ρ0 : aG} {K : SS → Prop} (iw : oC ops = true)
   (lJ : b = false → Γ.hd = []) (eS : b = true → ∀ k ∈ nm0, (k, ρ0 k) ∈ Γ.hd) (kV : b = true → ∀ p ∈ Γ.hd, p.1 ∈ nm0) (eM : ∀ k ∈ pt, k ∈ nm0) (aL : ∀ k ∈ nm0, ∀ x, 0 < (ρ0 k).2 x → x < w0.heap.size) (kE : ∀ k ∈ nm0, ∀ j ∈ nm0, k ≠ j → ∀ x, (ρ0 k).2 x + (ρ0 j).2 x ≤ 1)
   (jl : ∀ k ∈ pt, ∀ b, (ρ0 k).1 = .pointer (some ⟨b, 0, none⟩) → (ρ0 k).2 = one b ∨ ∀ x, (ρ0 k).2 x = 0) (kW : ∀ c a w, ¬ Q (.panic c) a w) (hQ : ∀ ax a' w', K ax → (∃ ρ, aI Γ H ρ ax a' w') → Q .normal a' w') :
   ∀ (n : Nat) {l : List Bool} {σ : SS} {a : Act} {w : World} {ρ : aG}, qd P tab ops.toList b nm0 pt n l σ K → aI Γ H ρ σ a w → (b = true → gZ ρ0 pt w0 w) →
     wpAnyH P .any ops Q (fun w' => (∀ x o, H x = some o → w'.heap[x]? = some o) ∧ (b = true → gZ ρ0 pt w0 w')) n l.toArray a w := by
 have oE : Region.noSelect ops = true := by
   simp only [oC, Bool.and_eq_true] at iw;exact iw.2
 have gD : ∀ {l : List Bool}, kS l = true → Region.ready .any ops l.toArray = [] := fun {l} h => by
   refine List.eq_nil_iff_forall_not_mem.2 fun i hi => ?_;obtain ⟨h1, _⟩ := ri.1 hi;have := CU h _ (List.mem_of_getElem? (qg.1 h1));cases this
 intro n
 induction n with
 | zero =>
   intro l σ a w ρ h r hk;unfold qd at h
   split at h
   · rename_i he;exact ⟨gD he, hQ _ _ _ h ⟨ρ, r⟩⟩
   · cases h
 | succ n ih =>
   intro l σ a w ρ h r hk;unfold qd at h
   split at h
   · rename_i he;exact wpAnyH_done (gD he) (hQ _ _ _ h ⟨ρ, r⟩) _
   · split at h
     · rename_i i o hp;obtain ⟨j, hj, h1, h2, h3, hd⟩ := zq hp;rw [Nat.zero_add] at hj;subst hj;have hi : i ∈ Region.ready .any ops l.toArray := ri.2 ⟨qg.2 h2, o, h1, h3⟩;have ho : ops[i]? = some o := by rw [← Array.getElem?_toList]; exact h1
       obtain ⟨v, ax, hy, hK, r'⟩ := zo hT h hd r (S := fun w' => (∀ x o, H x = some o → w'.heap[x]? = some o) ∧ (b = true → gZ ρ0 pt w0 w')) fun w' mi rd g_ => by
         refine ⟨mi.1, fun k bD x hx => ?_⟩;cases b with
         | false => simp only [qa, List.isEmpty_iff] at g_; subst g_; cases bD
         | true =>
           have h1 : k ∈ pt := by
             simp only [qa, List.all_eq_true] at g_;simpa using g_ k bD
           have h2 := (r.hd _ (eS rfl k (eM k h1))).2.2 x;have h0 : 0 < (ρ0 k).2 x := by simp only at h2; omega
           rw [mi.2 rfl k h1 x h0, hk rfl k h1 x h0]
       have m9 := ih hK r' hk;rw [u_, ← List.setIfInBounds_toArray] at m9;exact wpAnyH_take ho oE (Hz iw hi) (by simpa using hi) (fun c a w hq => (kW _ _ _ hq).elim) hy ⟨r.b.hh, hk⟩ m9
     · split at h
       · cases h
       · rename_i r0 rs he
         have hne : Region.ready .any ops l.toArray ≠ [] := by
           obtain ⟨i0, o0⟩ := r0;obtain ⟨j, hj, h1, h2, h3⟩ := CW (i := i0) (o := o0) (by rw [he]; exact List.mem_cons_self);rw [Nat.zero_add] at hj;subst hj;intro h0;have : i0 ∈ Region.ready .any ops l.toArray := ri.2 ⟨qg.2 h2, o0, h1, h3⟩;rw [h0] at this; cases this
         split at h
         · exact Oi hT iw lJ eS kV eM aL kE jl kW hQ (by assumption) h r hk
         refine wpAnyH_all rfl hne fun i hi => ?_;obtain ⟨h1, o, h2, h3⟩ := ri.1 hi;have cA := CV (l0 := l) (k := 0) h2 (qg.1 h1) h3;rw [Nat.zero_add, he] at cA;have h := CX h _ cA;have ho : ops[i]? = some o := by rw [← Array.getElem?_toList]; exact h2
         simp only at h
         split at h
         · rename_i cE;cases b with
           | false =>
             refine CQ hT (fun _ => lJ rfl) ho h r fun ax a' w' hK hr => ?_;obtain ⟨⟨ρ', r'⟩, _⟩ := hr;have m9 := ih hK r' (fun hb => by cases hb);rw [u_, ← List.setIfInBounds_toArray] at m9;exact ⟨⟨r'.b.hh, fun hb => by cases hb⟩, m9⟩
           | true =>
             refine CS hT ho (by simpa using cE) h r (eS rfl) (kV rfl) eM (fun k bD x hx => ⟨_, by rw [hk rfl k bD x hx]; exact Array.getElem?_eq_getElem (aL k (eM k bD) x hx)⟩) kE jl fun ax a' w' hK hr xa => ?_;obtain ⟨ρ', r'⟩ := hr;have bD : true = true → gZ ρ0 pt w0 w' := fun _ k fN x hx => by rw [xa k fN x hx, hk rfl k fN x hx]
             have m9 := ih hK r' bD;rw [u_, ← List.setIfInBounds_toArray] at m9;exact ⟨⟨r'.b.hh, bD⟩, m9⟩
         · cases h
theorem Ok {id : Nat} {ops : Array Oper} {σ : SS} {a : Act} {w : World} {K : Exit → SS → Prop} {Q : Exit → Act → World → Prop} (bK : Γ.hd = []) (iw : oC ops = true)
   (h : CN P tab ops σ fun ax => K .normal ax)
   (r : Rel Γ σ a w) (hQ : ∀ ax a' w', K .normal ax → Rel Γ ax a' w' → Q .normal a' w') : (Code.region id ops true).wp P Q a w := by
 have key : ∀ (b : Bool) (nm0 pt : List Nat), (∀ k ∈ nm0, k ∈ σ.af.map (·.1)) → (∀ k ∈ pt, k ∈ nm0) → qd P tab ops.toList b nm0 pt ops.toList.length (rh ops.toList) σ (fun ax => K .normal ax) → (Code.region id ops true).wp P Q a w := by
   intro b nm0 pt fE eM h;obtain ⟨H, ρ, r⟩ := r
   let lK : Ctx := { Γ with hd := if b = true then nm0.map fun k => (k, ρ k) else [] }
   have r' : aI lK H ρ σ a { w with drawn := w.drawn + 1 } := by
    refine ⟨r.b, r.e, r.d, r.n.trans (Ext.of (Nat.le_refl _) rfl rfl fun _ => rfl), fun p hp => ?_, r.hm⟩;simp only [lK] at hp
    split at hp
    · obtain ⟨q, hq, rfl⟩ := List.mem_map.1 hp;exact ⟨fE q hq, rfl, fun x => Nat.le_refl _⟩
    · cases hp
   have Ol : (rh ops.toList).toArray = Array.replicate ops.size false := by rw [Hw]; simp
   have bj : ops.toList.length = ops.size := by simp
   refine Code.wp_mono (Q := fun e a w => match e with | .normal => Q .normal a w | _ => False) (fun e a w hq => by cases e <;> first | exact hq | exact hq.elim) ?_
   have main := Oj (Γ := lK) (H := H) (ρ0 := ρ) (w0 := { w with drawn := w.drawn + 1 }) (b := b) (nm0 := nm0) (pt := pt) (K := fun ax => K .normal ax) (Q := fun e a w => match e with | .normal => Q .normal a w | _ => False) hT iw (fun hb => by simp only [lK, hb]; rfl) (fun hb k hk => by
      simp only [lK, hb, if_true];exact List.mem_map.2 ⟨k, hk, rfl⟩) (fun hb p hp => by
      simp only [lK, hb, if_true] at hp;obtain ⟨q, hq, rfl⟩ := List.mem_map.1 hp;exact hq) eM (fun k hk x hx => by
      obtain ⟨q, hq, rfl⟩ := List.mem_map.1 (fE k hk);exact r'.lt (Nat.lt_of_lt_of_le hx (mO hq x))) (fun k hk j hj hne x => Nat.le_trans (s_ (fE k hk) (fE j hj) (Ne.symm hne) x) (r.b.sum x)) (fun k hk b hb => by
      obtain ⟨q, hq, rfl⟩ := List.mem_map.1 (fE k (eM k hk));exact Hu (r.b.af _ _ hq) hb) (fun c a w hq => hq) (fun ax a' w' hK hr => by
      obtain ⟨ρ', r2⟩ := hr;exact hQ _ _ _ hK ⟨H, ρ', r2.b, r2.e, r2.d, r2.n, by rw [bK]; (intro p hp; cases hp), r2.hm⟩) _ h r' (fun _ _ _ _ _ => rfl)
   rw [Ol, bj] at main;exact wp_region_held (Fm hT) main
 unfold CN at h
 split at h
 · rename_i nw ws _;cases nw with
   | true => exact key true _ _ (fun k hk => hk) (fun k hk => tC (xb hk)) h
   | false => exact key true _ _ (fun k hk => hk) (fun k hk => tC hk) h
 · split at h
   · exact key true _ _ (fun k hk => tC (xb hk)) (fun k hk => hk) h
   · exact key false _ [] (fun k hk => hk) (fun k hk => by cases hk) h
end
end Go.Proofs.YtehpbaiclfilaaaGreat

