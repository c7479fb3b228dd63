/- Parts of a proof. No conditions. -/

import Derived.Test.YticeaiiffeccmaaGreatG02
import Derived.Laws.BytesArg
import Derived.OrdersHeld
set_option linter.unusedSimpArgs false
set_option linter.unusedVariables false
namespace Go.Proofs.YticeaiiffeccmaaGreat
open Go
def SS.pO (σ : SS) (ks : List Nat) (k : Nat) (B : ar) : SS := { σ with ai := dj (fl σ.ai ks) k B }
def sN (tab : bj) (o : Oper) (σ : SS) (K : SS → Prop) : Prop :=
 match o.op, o.dst with
 | .buildSlice T n parts, some d =>
   match cR tab T, aQ σ.ai (8 * d) with
   | some (.sl E _ _), none =>
     match uP σ.ai E (parts.toList.map fun p => σ.ev p.2) with
     | some (xs, ks) => if xh 0 parts.toList = true ∧ parts.toList.length = n ∧ n * E.sz ≤ 16777216 ∧ eB ks = true then K ((σ.pO ks (8 * d) (.own E xs false)).put (some d) (.c (.own (8 * d)))) else False
     | none => False
   | _, _ => False
 | .call c, some d =>
   match c.callee, c.args.toList, c.argTypes.toList with
   | .builtin .len, _, _ => pL tab o σ K
   | .builtin .append, [x, y], [T, T2] =>
     match cR tab T, aQ σ.ai (8 * d) with
     | some (.sl E _ bytes), none =>
       match oC σ.ai E (σ.ev x), zN tab T2 σ.ai E (σ.ev y) with
       | some (xs, k1), some (ys, k2) =>
         if eB (k1 ++ k2) = true ∧ 0 < bytes then
          Ob (fun _ => ((xs ()).length + (ys ()).length) * bytes ≤ 140737488355328) fun _ => K ((σ.pO (k1 ++ k2) (8 * d) (.own E (fun _ => xs () ++ ys ()) false)).put (some d) (.c (.own (8 * d))))
         else False
       | _, _ => False
     | _, _ => False
   | _, _, _ => False
 | .makeSlice T l c, some d =>
   match cR tab T, aQ σ.ai (8 * d), σ.ev l, σ.ev c with
   | some (.sl E _ bytes), none, .c (.lf (.int _ i)), .c (.lf (.int _ j)) =>
     if 0 < bytes then
       Ob (fun _ => 0 ≤ i () ∧ i () ≤ j () ∧ j () * (bytes : Int) ≤ 140737488355328) fun _ => K ((σ.pO [] (8 * d) (.own E (fun _ => List.replicate (i ()).toNat E.nh) false)).put (some d) (.c (.own (8 * d))))
     else False
   | _, _, _, _ => False
 | .slice T x lo hi none, some d =>
   match cR tab T, aQ σ.ai (8 * d), σ.ev x with
   | some (.sl E _ _), none, .c (.own k) =>
     match oC σ.ai E (.c (.own k)) with
     | some (xs, ks) =>
       match ou (lo.map σ.ev) fun _ => 0, ou (hi.map σ.ev) fun _ => ((xs ()).length : Int) with
       | some l, some h => Ob (fun _ => 0 ≤ l () ∧ l () ≤ h () ∧ h () ≤ (xs ()).length) fun _ =>
          K ((σ.pO ks (8 * d) (.own E (fun _ => ((xs ()).take (h ()).toNat).drop (l ()).toNat) false)).put (some d) (.c (.own (8 * d))))
       | _, _ => False
     | none => False
   | _, _, _ => False
 | .convert S D x, some d =>
   match cR tab S, cR tab D, σ.ev x with
   | some (.sl .byte e _), some .ss, .c (.own k) =>
     match aQ σ.ai k, cR tab e with
     | some (.own E xs _), some (.it .u8) => (match pP .byte E xs with | some ys => K (σ.put (some d) (.c (.lf (.str ys)))) | none => False)
     | _, _ => False
   | _, _, _ => False
 | .store T p v, none =>
   match σ.ev p with
   | .c (.fj k E i off) => Ac tab σ K T k E i off (σ.ev v)
   | _ => pL tab o σ K
 | .load T x, some d =>
   match σ.ev x with
   | .c (.fj k E i off) => if xa tab T = true then Ab tab σ K T d k E i off else False
   | _ => False
 | _, _ => pL tab o σ K
section
variable {P : Program} {tab : bj} (hT : eW P tab = true) {Γ : Ctx} {H : Hp} {ρ : aL} {σ : SS} {a : Act} {w : World} (r : aM Γ H ρ σ a w)
include hT r
omit hT in
theorem sO {ks : List Nat} (hn : eB ks = true) (hu : fP σ.ai ks = true) {d : Nat} (hk : aQ σ.ai (8 * d) = none) {E : av} {xs : Unit → List E.α} {v : Value} {p : Nat → Nat} {w' : World}
  (hh : ∀ x, x < w.heap.size → bP ρ ks x = 0 → w'.heap[x]? = w.heap[x]?) (bg : Ext w w') (cN : bq w'.heap (.list E xs) v p)
  (hp : ∀ x, x < w.heap.size → p x ≤ bP ρ ks x) (d_ : ∀ x, w.heap.size ≤ x → p x ≤ 1) :
  ∃ ρ, aM Γ H ρ ((σ.pO ks (8 * d) (.own E xs false)).put (some d) (.c (.own (8 * d)))) (a.put (some d) v) w' := by
 obtain ⟨ρ', r1, h1, _⟩ := r.pO hn hu hk (p := (v, p)) hh bg cN cN.one hp d_;exact ⟨ρ', aM.put r1 (v := .c (.own (8 * d))) ⟨fO.2 (.inl rfl), h1.symm⟩ (some d)⟩
omit hT in
theorem uR {E : av} {v : V} {xs : Unit → List E.α} {ks : List Nat} {u : Value} (h : oC σ.ai E v = some (xs, ks)) (hv : RV H ρ (ax σ.ai) v u) :
   fP σ.ai ks = true ∧ bq w.heap (.list E xs) u (bP ρ ks) := by
 unfold oC at h
 split at h
 · cases h;simp only [RV, RC] at hv;subst hv;exact ⟨rfl, bq.nil rfl⟩
 · rename_i k
   split at h
   · rename_i E' pR hg
     split at h
     · rename_i ys hc;cases h;obtain ⟨_, rfl⟩ := hv;have := so r hg;rw [sF hc] at this;refine ⟨by simp [fP, hg], ?_⟩;have e : bP ρ [k] = (ρ k).2 := by funext x; simp [bP]
       rw [e]; exact this
     · cases h
   · cases h
 · cases h
omit hT r in
theorem Ag {E : av} {xs : Unit → List E.α} {u : Value} {p : Nat → Nat} (ho : bq w.heap (.list E xs) u p) : ∃ news S, iy w E (xs ()) u news S ∧ ∀ x, cg (xs ()).length E.sz S x ≤ p x := by
 rcases ho.fw with ⟨rfl, h0, rfl⟩ | ⟨b, off, c, vs, e, fz, S, rfl, rfl, hb, hf, hl, hm, dZ, hs⟩
 · rw [h0]; exact ⟨[], _, iy.nil none 0, fun x => by simp [cg, bY]⟩
 · obtain ⟨news, hN⟩ := iy.of (c := c) hb (by have := Nat.mul_le_mul_right E.sz hl; omega) hs;exact ⟨news, S, hN, fun x => by simp only [bT, cg]; exact Nat.le_add_left _ _⟩
omit hT in
theorem KL {E : av} {v : V} {xs : Unit → List E.α} {ks : List Nat} {u : Value} (h : zM σ.ai E v = some (xs, ks)) (hv : RV H ρ (ax σ.ai) v u) :
   fP σ.ai ks = true ∧ ∃ news S, iy w E (xs ()) u news S ∧ ∀ x, cg (xs ()).length E.sz S x ≤ bP ρ ks x := by
 unfold zM at h
 split at h
 · rename_i E' t
   split at h
   · rename_i hf
     split at h
     · rename_i ys hc;cases h;have hr : RL H (.list E' t) u := hv;rw [sF hc] at hr;refine ⟨rfl, ?_⟩;rcases hr.fw (h := w.heap) r.b.hh hf with ⟨a, c, rfl, h0⟩ | ⟨b, off, c, vs, e, fz, rfl, hb, ho, hm, hs⟩
       · rw [h0]; exact ⟨[], _, iy.nil a c, fun x => by simp [cg, bY]⟩
       · obtain ⟨news, hN⟩ := iy.of (c := c) hb ho hs;refine ⟨news, _, hN, fun x => ?_⟩;have : cg (xs ()).length E.sz (fun _ _ _ => 0) x = 0 := lB fun i _ => lB fun j _ => rfl;omega
     · cases h
   · cases h
 · rename_i k
   split at h
   · rename_i hf
     split at h
     · rename_i E' pR l hg
       split at h
       · rename_i ys hc;cases h;obtain ⟨_, rfl⟩ := hv;have ho := so r hg;rw [sF hc] at ho;obtain ⟨news, S, hN, _⟩ := Ag ho;refine ⟨rfl, news, fun _ _ _ => 0, ⟨hN.len, hN.one, hN.fw.flat hf, hN.val⟩, fun x => ?_⟩;have : cg (xs ()).length E.sz (fun _ _ _ => 0) x = 0 := lB fun i _ => lB fun j _ => rfl;omega
       · cases h
     · cases h
   · obtain ⟨h1, h2⟩ := uR r h hv;exact ⟨h1, Ag h2⟩
 · obtain ⟨h1, h2⟩ := uR r h hv;exact ⟨h1, Ag h2⟩
omit r in
theorem kh {T : TypeId} {E : av} {elem bytes : Nat} (h : cR tab T = some (.sl E elem bytes)) :
  P.underlying T = some (.slice elem) ∧ ∃ i z, P.info? elem = some i ∧ i.size = E.sz ∧ i.bytes = bytes ∧ i.zero = some z ∧ Z.gF (nk E) z.cells.toList = true ∧ z.cells.size = E.sz := by
 obtain ⟨h1, i, z, h2, h3, h4, h5, h6⟩ := mq (cA hT h);refine ⟨h1, i, z, h2, h3, h4, h5, h6, ?_⟩;have := Z.xi h6;rw [DU] at this;simpa using this
theorem Ef {T : TypeId} {E : av} {v : V} {xs : Unit → List E.α} {ks : List Nat} {u : Value} (h : zN tab T σ.ai E v = some (xs, ks)) (hv : RV H ρ (ax σ.ai) v u) :
   fP σ.ai ks = true ∧ ∃ news S, sG P w E (xs ()) T u news S ∧ ∀ x, cg (xs ()).length E.sz S x ≤ bP ρ ks x := by
 unfold zN at h
 split at h
 · rename_i ba;obtain ⟨hU, _⟩ := kh hT ba;obtain ⟨h1, news, S, h2, h3⟩ := KL r h hv;exact ⟨h1, news, S, h2.xf hU, h3⟩
 · rename_i ba;have hU := (mr (cA hT ba)).1
   split at h
   · rename_i t;cases h;have hr : RL H (.str t) u := hv;obtain ⟨rfl, _⟩ := RL.kS hr;refine ⟨rfl, _, _, sG.str hU _, fun x => ?_⟩;have : cg (t ()).length (av.byte).sz (fun _ _ _ => 0) x = 0 := lB fun i _ => lB fun j _ => rfl;rw [this]; exact Nat.zero_le _
   · cases h
 · cases h
theorem KM {o : Oper} {K : SS → Prop} {Q : Exit → Act → World → Prop} (hw : gG tab o = true → Γ.hd = []) (h : sN tab o σ K) :
   o.wp P a w (fun a' w' => ∃ aD, K aD ∧ pK Γ H (gG tab o) w aD a' w') Q := by
 have ev := j_ r.e;unfold sN at h
 split at h
 · -- a literal
   rename_i T n parts d aZ hd
   split at h
   · rename_i E elem bytes ba hg
     split at h
     · rename_i xs ks hm
       split at h
       · rename_i hc;obtain ⟨lF, lG, xc, uS⟩ := hc;obtain ⟨hU, i, z, hi, bg, gT, hz, pC, q_⟩ := kh hT ba
         obtain ⟨g1, g2, g3, g4, S, g5, g6⟩ := DS r hm (us := parts.toList.map fun p => a.eval p.2) (by simp) fun j v u hj cO => by
           rw [List.getElem?_map, Option.map_eq_some_iff] at hj cO;obtain ⟨p, h1, rfl⟩ := hj;obtain ⟨p', h2, rfl⟩ := cO;rw [h1] at h2;cases h2;exact ev _
         have hlen : (parts.toList.map fun p => a.eval p.2).length = n := by simpa using lG
         generalize nz : (parts.toList.map fun p => a.eval p.2) = us at g1 g2 g3 g5 g6 hlen;generalize fc : (us.flatMap fun u => u.cells.toList) = cl at g3 g5
         have cI : (Instr.buildSlice T n (parts.map fun p => (p.1, a.eval p.2))).run P w = .ok (.slice (some ⟨w.heap.size, 0, none⟩) n n) (w.alloc (.cells cl.toArray elem)) := by
           have oq : (parts.map fun p => (p.1, a.eval p.2)).toList = (us.zipIdx 0).map fun x => (x.2, x.1) := by
             rw [Array.toList_map, DR (f := a.eval) lF, nz]
           rcases Nat.eq_zero_or_pos n with h0 | h0
           · subst h0;have : us = [] := List.length_eq_zero_iff.1 hlen;subst this;simp only [List.flatMap_nil] at fc;subst fc;have KN : parts = #[] := Array.toList_inj.1 (List.length_eq_zero_iff.1 lG);subst KN;simp [Instr.buildSlice, run_underlying hU, sizeOf, typeInfo, hi, Instr.fill, newRow];have KO : Array.map (fun _ : Nat => (default : Value)) (Array.range 0) = #[] := by simp [Array.range]
             rw [KO]
           · refine run_buildSlice w T elem n _ _ i z hU hi hz (by rw [bg]; omega) (by rw [bg]; have := Nat.mul_pos h0 (ub E); omega) ?_;rw [oq, bg, ← fc];refine Great.fill_whole (ub E) us _ g2 ?_;simp [hlen]
         refine jN (v := .slice (some ⟨w.heap.size, 0, none⟩) n n) (w' := w.alloc (.cells cl.toArray elem)) ?_ ⟨_, h, ?_, fun _ => gS.alloc w _⟩
         · simp only [execOp, aZ, Sem.run_bind, cI, Result.andThen_ok]; rfl
         · rw [hd]
           have cN := (bG.mono (h' := (w.alloc (.cells cl.toArray elem)).heap) (g5.cells (ds := fun q => cl.toArray.getD (0 + q) Go.undef) fun q hq => by
               rw [Nat.zero_add, Array.getD_eq_getD_getElem?, List.getElem?_toArray, List.getD_eq_getElem?_getD]) fun x hx => by
               rw [g1, g6] at hx;have := my (ρ := ρ) ks uS (fun k hk => by obtain ⟨E, xs, hg⟩ := nu g4 k hk; exact fN hg) x;exact alloc_old w _ x (r.lt (by omega))).own (b := w.heap.size) (c := n) (fz := (0, 0)) (sv w _) (mw _) (by omega) (by unfold cE; have := Nat.le_mul_of_pos_right n (ub E); omega)
               (by rw [Nat.zero_add, List.size_toArray, g3, hlen]; exact Nat.le_refl _)
           rw [g1, hlen] at cN;refine sO r uS g4 hg (fun x hx _ => alloc_old w _ x hx) (qT w _ _) cN (fun x hx => ?_) fun x hx => ?_
           · simp only [bT];rw [if_neg (Nat.ne_of_lt hx)];have := g6 x;rw [hlen] at this;simp only [cg] at this;omega
           · have h1 := g6 x;have h2 := my (ρ := ρ) ks uS (fun k hk => by obtain ⟨E, xs, hg⟩ := nu g4 k hk; exact fN hg) x;have h3 := (r.su hx).2;rw [hlen] at h1;simp only [cg] at h1;simp only [bT]
             split <;> omega
       · cases h
     · cases h
   · cases h
 · -- append
   rename_i c d aZ hd
   split at h
   · exact zJ hT r h
   · rename_i x y T T2 fu dO Ah
     split at h
     · rename_i E elem bytes ba hg
       split at h
       · rename_i xs k1 ys k2 hx hy
         split at h
         · rename_i hc;obtain ⟨lF, lG⟩ := hc;obtain ⟨Ai, hk⟩ := h;obtain ⟨hU, i, z, hi, bg, gT, hz, pC, q_⟩ := kh hT ba;obtain ⟨u1, ox⟩ := uR r hx (ev x);obtain ⟨u2, news, S2, hN, Aj⟩ := Ef hT r hy (ev y);have lK : ∀ k ∈ k1 ++ k2, ax σ.ai k := fun k hk => by obtain ⟨E, xs, hg⟩ := nu (re u1 u2) k hk; exact fN hg
           have hle : ∀ x, bP ρ k1 x + bP ρ k2 x ≤ aS ρ σ.ai x := fun x => by rw [← oF]; exact my (ρ := ρ) _ lF lK x
           obtain ⟨v, p, w', r1, r2, r3, r4, r5, r6⟩ := uL (P := P) (T := T) (T2 := T2) (ty := o.type) (E := E) (xs := xs ()) (ys := ys ()) ox hN Aj (fun x => Nat.le_trans (hle x) (r.b.sum x)) (fun x hx => r.lt (Nat.lt_of_lt_of_le hx (hle x)))
             hU hi hz bg q_ (by omega) (by rw [gT]; exact Ai)
           refine jN (v := v) (w' := w') ?_ ⟨_, hk, ?_, fun hw => by simp [gG, aZ, fu] at hw⟩
           · have e1 : c.args = #[x, y] := by rw [← Array.toArray_toList (xs := c.args), dO]
             have e2 : c.argTypes = #[T, T2] := by rw [← Array.toArray_toList (xs := c.argTypes), Ah]
             obtain ⟨callee, args, argTypes⟩ := c;simp only at fu e1 e2;subst fu e1 e2;simp [execOp, aZ, resolve, invoke, builtin, r1, Result.andThen]
           · rw [hd];refine sO r lF (re u1 u2) hg (fun x hx h0 => ?_) r3 r2 (fun x hx => ?_) r6
             · rw [oF] at h0;exact r4 x hx (by omega)
             · rw [oF]; exact r5 x hx
         · cases h
       · cases h
     · cases h
   · cases h
 · -- make
   rename_i T l c d aZ hd
   split at h
   · rename_i E elem bytes kl i kc j ba hg hl nv
     split at h
     · rename_i hb;obtain ⟨⟨o1, o2, o3⟩, hk⟩ := h;obtain ⟨hU, ii, z, hi, bg, gT, hz, pC, q_⟩ := kh hT ba;have el := ev l;have ec := ev c;rw [hl] at el;rw [nv] at ec;obtain ⟨el, _⟩ := RL.of_int el;obtain ⟨ec, _⟩ := RL.of_int ec
       have Rf : j () ≤ 140737488355328 := by
         have : j () * 1 ≤ j () * (bytes : Int) := Int.mul_le_mul_of_nonneg_left (by omega) (by omega);omega
       have cI := run_make (P := P) w T elem ii z hU hi hz kl kc (i ()) (j ()) o1 o2 (by rw [gT, Int.mul_comm]; omega) (by omega);refine jN (v := _) (w' := _) (by simp only [execOp, aZ, el, ec, Sem.run_bind, cI, Result.andThen_ok]; rfl) ⟨_, hk, ?_, fun _ => gS.alloc w _⟩;rw [hd];have hlen : (List.replicate (i ()).toNat E.nh).length = (i ()).toNat := by simp
       have ct : bG (w.alloc (.cells (madeCells z.cells ((j ()).toNat * ii.size)) elem)).heap E (List.replicate (i ()).toNat E.nh) (fun q => (madeCells z.cells ((j ()).toNat * ii.size)).getD (0 + q) Go.undef) fun _ _ _ => 0 := by
         rw [bg];intro q x hx jj ll hj;refine Kg pC (j ()).toNat q x ?_ jj ll hj;have := bK hx;rw [hlen] at this;rw [List.getElem?_replicate, if_pos this] at hx;rw [List.getElem?_replicate, if_pos (by omega)];exact hx
       have cN := ct.own (b := w.heap.size) (c := (j ()).toNat) (fz := (0, 0)) (sv w _) (mw _) (by rw [hlen]; omega) (by rw [hlen]; unfold cE; omega) (by rw [size_madeCells, bg]; omega);rw [hlen] at cN
       have uT : ∀ x, bT w.heap.size (i ()).toNat E.sz (fun _ _ _ => 0) x = if x = w.heap.size then 1 else 0 := fun x => by
         simp only [bT];rw [lB fun i _ => lB fun j _ => rfl];rfl
       refine sO r (ks := []) rfl rfl hg (fun x hx _ => alloc_old w _ x hx) (qT w _ _) cN (fun x hx => ?_) fun x hx => ?_
       · rw [uT, if_neg (Nat.ne_of_lt hx)]; exact Nat.zero_le _
       · rw [uT]; split <;> omega
     · cases h
   · cases h
 · -- a part of a list
   rename_i T x lo hi d aZ hd
   split at h
   · rename_i E elem bytes k ba hg oB
     split at h
     · rename_i xs ks hm
       split at h
       · rename_i l hh hl pD;obtain ⟨⟨o1, o2, o3⟩, hk⟩ := h;obtain ⟨hU, ii, z, ed, bg, _⟩ := kh hT ba;have uU := ev x;rw [oB] at uU;obtain ⟨hu, ho⟩ := uR r hm uU
         have jl : ks = [k] := by
           simp only [oC] at hm
           split at hm
           · split at hm
             · cases hm; rfl
             · cases hm
           · cases hm
         subst jl;obtain ⟨L, hL⟩ := Int.eq_ofNat_of_zero_le o1;obtain ⟨U, mv⟩ := Int.eq_ofNat_of_zero_le (show 0 ≤ hh () by omega)
         have e1 : (lo.map a.eval = none ∧ L = 0) ∨ ∃ k, lo.map a.eval = some (.int k (L : Int)) := by
           rcases sq hl ev with ⟨h1, h2⟩ | ⟨k, h1⟩
           · refine .inl ⟨h1, ?_⟩; rw [h2] at hL; simp at hL; omega
           · exact .inr ⟨k, by rw [h1, hL]⟩
         have e2 : (hi.map a.eval = none ∧ U = (xs ()).length) ∨ ∃ k, hi.map a.eval = some (.int k (U : Int)) := by
           rcases sq pD ev with ⟨h1, h2⟩ | ⟨k, h1⟩
           · refine .inl ⟨h1, ?_⟩; rw [h2] at mv; simp at mv; omega
           · exact .inr ⟨k, by rw [h1, mv]⟩
         have zo : L ≤ U := by omega
         have JM : U ≤ (xs ()).length := by omega
         have eL : (l ()).toNat = L := by omega
         have eU : (hh ()).toNat = U := by omega
         have hlen : (((xs ()).take U).drop L).length = U - L := by simp; omega
         have cI : ∀ (bb : Option Addr) (cc : Nat), (xs ()).length ≤ cc → a.eval x = .slice bb (xs ()).length cc → (execOp a.eval o).run P w =
             .ok (.value (.slice (if cc = L then bb else bb.map (·.add (L * E.sz))) (U - L) (cc - L))) w := fun bb cc wZ hv => by
           simp only [execOp, aZ, Option.map_none, hv, Instr.sliceAt, Sem.run_bind, ic w hU, Result.andThen_ok, Instr.slice];rw [zm true w e1 e2 zo (by omega)];simp only [Result.andThen_ok, lD w ed, bg, Sem.run_pure]
         rcases ho.fw with ⟨hv, h0, hp⟩ | ⟨b, off, c, vs, e, fz, S, hv, hp, hb, hf, Eg, sr, dZ, hs⟩
         · have KP : (xs ()).length = 0 := by rw [h0]; rfl
           refine jN (cI none 0 (by omega) (by rw [hv, KP])) ⟨_, hk, ?_, fun _ => gS.refl w⟩;rw [hd];have : (if 0 = L then none else Option.map (fun x : Addr => x.add (L * E.sz)) none) = none := by split <;> rfl
           rw [this, show U - L = 0 by omega, Nat.zero_sub];exact sO r rfl hu hg (fun _ _ _ => rfl) (Ext.refl _) (bq.nil (by rw [eL, eU, h0]; simp)) (fun _ _ => Nat.zero_le _) fun _ _ => Nat.zero_le _
         · refine jN (cI _ c Eg hv) ⟨_, hk, ?_, fun _ => gS.refl w⟩;rw [hd]
           have dE : ∀ x, cg (U - L) E.sz (fun i => S (L + i)) x ≤ cg (xs ()).length E.sz S x := fun x => by
             have h1 : cg (xs ()).length E.sz S x = cg L E.sz S x + cg ((xs ()).length - L) E.sz (fun i => S (L + i)) x := by
               have : (xs ()).length = L + ((xs ()).length - L) := by omega
               rw [this];unfold cg;rw [uI];simp
             have h2 : cg ((xs ()).length - L) E.sz (fun i => S (L + i)) x = cg (U - L) E.sz (fun i => S (L + i)) x + cg ((xs ()).length - U) E.sz (fun i => S (L + (U - L + i))) x := by
               have : (xs ()).length - L = (U - L) + ((xs ()).length - U) := by omega
               rw [this];unfold cg;rw [uI]
             omega
           have ct : ∀ o', o' = off + L * E.sz → bG w.heap E (((xs ()).take (hh ()).toNat).drop (l ()).toNat) (fun q => vs.getD (o' + q) Go.undef) fun i => S (L + i) := by
             intro o' Ak i y hy j l' hj;subst Ak;rw [eL, eU, List.getElem?_drop, List.getElem?_take] at hy
             split at hy
             · have := hs (L + i) y hy j l' hj;simp only [Nat.add_mul] at this;simp only;rw [show off + L * E.sz + (i * E.sz + j) = off + (L * E.sz + i * E.sz + j) by omega];exact this
             · cases hy
           have wZ : L * E.sz ≤ c * E.sz := Nat.mul_le_mul_right _ (by omega)
           have fin : ∀ (o' : Nat) (p' : Nat → Nat), bq w.heap (.list E fun _ => ((xs ()).take (hh ()).toNat).drop (l ()).toNat) (.slice (some ⟨b, o', none⟩) (U - L) (c - L)) p' → (∀ x, p' x ≤ bT b (xs ()).length E.sz S x) →
               ∃ ρ, aM Γ H ρ ((σ.pO [k] (8 * d) (.own E (fun _ => ((xs ()).take (hh ()).toNat).drop (l ()).toNat) false)).put (some d) (.c (.own (8 * d)))) (a.put (some d) (.slice (some ⟨b, o', none⟩) (U - L) (c - L))) w := fun o' p' h1 h2 => by
             have hq : ∀ x, p' x ≤ bP ρ [k] x := fun x => by rw [hp]; exact h2 x
             refine sO r rfl hu hg (fun _ _ _ => rfl) (Ext.refl _) h1 (fun x _ => hq x) fun x _ => ?_;have h3 := my (ρ := ρ) [k] rfl (fun k' bC => by obtain ⟨E, xs, hg⟩ := nu hu k' bC; exact fN hg) x;have h4 := r.b.sum x;have h5 := hq x;omega
           have uT : ∀ x, bT b (U - L) E.sz (fun i => S (L + i)) x ≤ bT b (xs ()).length E.sz S x := fun x => by
             have := dE x;simp only [cg] at this;simp only [bT]; omega
           by_cases fc : c = L
           · rw [if_pos fc];have zb : ((xs ()).take (hh ()).toNat).drop (l ()).toNat = [] := List.length_eq_zero_iff.1 (by rw [eL, eU, hlen]; omega);have w3 : U - L = 0 := by omega
             refine fin off (bT b 0 E.sz fun i => S (L + i)) ?_ fun x => ?_
             · have h7 := bG.own (h := w.heap) (E := E) (xs := []) (S := fun i => S (L + i)) (b := b) (off := off) (c := c - L) (vs := vs) (e := e) (fz := fz) bG.nil hb hf (by simp) (by simp) (by
                have : (c - L) * E.sz ≤ c * E.sz := Nat.mul_le_mul_right _ (Nat.sub_le _ _);omega)
               rw [w3, zb];exact h7
             · have := uT x;rw [w3] at this;exact this
           · rw [if_neg fc];simp only [Option.map_some, eI];refine fin (off + L * E.sz) (bT b (U - L) E.sz fun i => S (L + i)) ?_ uT
             have h7 := (ct _ rfl).own (b := b) (c := c - L) (e := e) (fz := fz) hb hf (by rw [eL, eU, hlen]; omega) (by rw [eL, eU, hlen]; omega) (by
               have : L * E.sz + (c - L) * E.sz = c * E.sz := by rw [← Nat.add_mul]; congr 1; omega
               omega)
             rw [eL, eU, hlen] at h7;rw [eL, eU];exact h7
       · cases h
     · cases h
   · cases h
 · -- bytes to a string
   rename_i S D x d aZ hd
   split at h
   · rename_i e bytes k ba hD oB
     split at h
     · rename_i E xs qM hg KQ
       split at h
       · rename_i ys hc;obtain ⟨hU, _⟩ := kh hT ba;have Eh := (oh (cA hT KQ)).1;have Ei := (mr (cA hT hD)).1;have uU := ev x;rw [oB] at uU;obtain ⟨_, jI⟩ := uU;have ho := so r hg;rw [sF hc] at ho
         have cI : (convert S D (a.eval x)).run P w = .ok (.string ⟨(ys ()).toArray⟩) w ∧ (ys ()).length ≤ cE := by
           rw [jI];rcases ho.fw with ⟨hv, h0, hp⟩ | ⟨b, off, c, vs, e', fz, SS, hv, hp, hb, hf, Eg, sr, dZ, hs⟩
           · rw [hv, h0];exact ⟨run_convert_bytes_nil w S e hU Eh 0 0 D Ei, by simp⟩
           · rw [hv]
             have := run_convert_bytes_arg w S e hU Eh b off (ys ()).length c ((ys ()).map fun y => (y.toNat : Int)) (by simp) (fun i hi => by
               have h1 := hs i _ (List.getElem?_eq_getElem hi) 0 _ rfl;simp only [av.sz, Nat.mul_one, Nat.add_zero] at h1;have h2 : (⟨b, off + i, none⟩ : Addr) = ⟨b, off + i, none⟩ := rfl;rw [cell_of hb (getD_some (show off + i < vs.size by simp only [av.sz, Nat.mul_one] at dZ; omega))];generalize vs.getD (off + i) Go.undef = u, SS i 0 = T at h1;cases h1 with
               | int hr => simp [List.getD_eq_getElem?_getD, hi]) D Ei
             rw [this];refine ⟨?_, sr⟩
             congr 2
             unfold strOfNums;rw [List.map_map];refine congrArg (fun l : List UInt8 => (⟨l.toArray⟩ : ByteArray)) ?_;refine Eq.trans (List.map_congr_left fun y _ => ?_) (List.map_id _);simp
         refine jN (v := .string ⟨(ys ()).toArray⟩) (w' := w) (by simp only [execOp, aZ, Sem.run_bind, cI.1, Result.andThen_ok]; rfl) ⟨_, h, ⟨ρ, ?_⟩, fun _ => gS.refl w⟩;rw [hd];exact aM.put r (v := .c (.lf (.str ys))) (RL.str cI.2) (some d)
       · cases h
     · cases h
   · cases h
 · -- an element is stored
   rename_i T p v aZ hd
   split at h
   · rename_i k E i off hp;have ep := ev p;rw [hp] at ep;obtain ⟨aD, w', ρ', h1, h2, h3⟩ := KF hT r (hw (by simp [gG, aZ])) h ep (ev v);refine xb (w' := w') ?_ hd ⟨_, h1, ⟨ρ', h2⟩, fun hw => by simp [gG, aZ] at hw⟩;simp only [execOp, aZ, Sem.run_bind, h3, Result.andThen_ok];rfl
   · exact zJ hT r h
 · -- an element is loaded
   rename_i T x d aZ hd
   split at h
   · rename_i k E i off hp
     split at h
     · rename_i KR;have ep := ev x;rw [hp] at ep;obtain ⟨aD, y, ρ', h1, h2, h3⟩ := KE hT r (hw (by simp [gG, aZ, KR])) h ep;refine jN (v := y) (w' := w) ?_ ⟨_, h1, ⟨ρ', by rw [hd]; exact h2⟩, fun _ => gS.refl w⟩;simp only [execOp, aZ, Sem.run_bind, h3, Result.andThen_ok];rfl
     · cases h
   · cases h
 · exact zJ hT r h
omit hT r in
theorem KS {bs : List (Nat × ar)} {E : av} {v : V} {xs : Unit → List E.α} {ks : List Nat} (h : oC bs E v = some (xs, ks)) : ks = [] ∨ ∃ k, v = .c (.own k) ∧ ks = [k] := by
 unfold oC at h
 split at h
 · cases h; exact .inl rfl
 · split at h
   · split at h
     · cases h; exact .inr ⟨_, rfl, rfl⟩
     · cases h
   · cases h
 · cases h
theorem KU {o : Oper} {K : SS → Prop} {Q : Exit → Act → World → Prop} {c : Call} {x y : Operand} (aZ : o.op = .call c) (fu : c.callee = .builtin .append) (dO : c.args.toList = [x, y]) (h : sN tab o σ K) :
   o.wp P a w (fun a' w' => ∃ aD, K aD ∧ (∃ ρ', aM Γ H ρ' aD a' w') ∧ ∀ b, b < w.heap.size → (∀ k, σ.ev x = .c (.own k) → (ρ k).2 b = 0) → w'.heap[b]? = w.heap[b]?) Q := by
 have ev := j_ r.e;unfold sN at h;rw [aZ] at h;cases hd : o.dst with
 | none => rw [hd] at h; simp only [pL, aZ, hd] at h
 | some d =>
   rw [hd] at h;simp only [fu, dO] at h
   split at h
   · rename_i _ _ heq; cases heq
   · rename_i x' y' T T2 _ KV Ah;cases KV
     split at h
     · rename_i E elem bytes ba hg
       split at h
       · rename_i xs k1 ys k2 hx hy
         split at h
         · rename_i hc;obtain ⟨lF, lG⟩ := hc;obtain ⟨Ai, hk⟩ := h;obtain ⟨hU, i, z, hi, bg, gT, hz, pC, q_⟩ := kh hT ba;obtain ⟨u1, ox⟩ := uR r hx (ev x);obtain ⟨u2, news, S2, hN, Aj⟩ := Ef hT r hy (ev y);have lK : ∀ k ∈ k1 ++ k2, ax σ.ai k := fun k hk => by obtain ⟨E, xs, hg⟩ := nu (re u1 u2) k hk; exact fN hg
           have hle : ∀ x, bP ρ k1 x + bP ρ k2 x ≤ aS ρ σ.ai x := fun x => by rw [← oF]; exact my (ρ := ρ) _ lF lK x
           obtain ⟨v, p, w', r1, r2, r3, r4, r5, r6⟩ := uL (P := P) (T := T) (T2 := T2) (ty := o.type) (E := E) (xs := xs ()) (ys := ys ()) ox hN Aj (fun x => Nat.le_trans (hle x) (r.b.sum x)) (fun x hx => r.lt (Nat.lt_of_lt_of_le hx (hle x)))
             hU hi hz bg q_ (by omega) (by rw [gT]; exact Ai)
           refine jN (v := v) (w' := w') ?_ ⟨_, hk, ?_, fun b hb hz => ?_⟩
           · have e1 : c.args = #[x, y] := by rw [← Array.toArray_toList (xs := c.args), dO]
             have e2 : c.argTypes = #[T, T2] := by rw [← Array.toArray_toList (xs := c.argTypes), Ah]
             obtain ⟨callee, args, argTypes⟩ := c;simp only at fu e1 e2;subst fu e1 e2;simp [execOp, aZ, resolve, invoke, builtin, r1, Result.andThen]
           · rw [hd];refine sO r lF (re u1 u2) hg (fun x hx h0 => ?_) r3 r2 (fun x hx => ?_) r6
             · rw [oF] at h0;exact r4 x hx (by omega)
             · rw [oF]; exact r5 x hx
           · refine r4 b hb ?_;rcases KS hx with e | ⟨k, e1, e2⟩
             · rw [e]; rfl
             · rw [e2];have := hz k e1;simp only [bP];omega
         · cases h
       · cases h
     · cases h
   · cases h
end
def xp (bs : List (Nat × ar)) : C → Option Lf
 | .lf l => some l
 | .bl b => some (.bool fun _ => b)
 | .own k => match aQ bs k with | some (.own E xs _) => some (.list E xs) | some (.view E xs) => some (.list E xs) | _ => none
 | _ => none
def uV (bs : List (Nat × ar)) : List C → Option (List Lf)
 | [] => some []
 | c :: cs => match xp bs c, uV bs cs with | some l, some ls => some (l :: ls) | _, _ => none
def uW (bs : List (Nat × ar)) (k : Nat) : Option (List Lf) :=
 match aQ bs k with
 | some (.box cs) => uV bs cs
 | _ => none
def pW (bs : List (Nat × ar)) : Cp → Cp
 | .ptr k off => match uW bs k with | some ls => .b0 ls off | none => .ptr k off
 | c => c
def pX (bs : List (Nat × ar)) (z : Z) : C → C
 | .nil => match z with | .nl E => .lf (.list E fun _ => []) | _ => .undef
 | .own k => match xp bs (.own k) with | some l => .lf l | none => .undef
 | .ptr k off => match uW bs k with | some ls => .b0 ls off | none => .undef
 | .fj _ _ _ _ => .undef
 | .fn f l => .fn f (l.map (pW bs))
 | c => c
def lL (bs : List (Nat × ar)) : List Z → List C → List C
 | _, [] => []
 | [], c :: cs => pX bs .un c :: lL bs [] cs
 | z :: zs, c :: cs => pX bs z c :: lL bs zs cs
def xq (tab : bj) (bs : List (Nat × ar)) (T : TypeId) : V → V
 | .c x => .c (pX bs (match cR tab T with | some (.sl E _ _) => .nl E | _ => .un) x)
 | .agg cs => .agg (lL bs (match cR tab T with | some (.st _ _ z _) => z | _ => []) cs)
 | .aT _ => .c .undef
def kV (tab : bj) (bs : List (Nat × ar)) : List TypeId → List V → List V
 | _, [] => []
 | [], _ :: vs => .c .undef :: kV tab bs [] vs
 | T :: Ts, v :: vs => xq tab bs T v :: kV tab bs Ts vs
def sP (bs : List (Nat × ar)) (c : Cp) : V :=
 match pW bs c with
 | .el E x off => .c (.el E x off)
 | .b0 ls off => .c (.b0 ls off)
 | .ptr _ _ => .c .undef
def Al (bs : List (Nat × ar)) (l : List Cp) : Bool := l.all fun c => match pW bs c with | .ptr _ _ => false | _ => true
def C.oJ (bs : List (Nat × ar)) : C → Bool
 | .fn _ l => Al bs l
 | _ => true
def V.oJ (bs : List (Nat × ar)) : V → Bool
 | .c x => x.oJ bs
 | .agg cs => cs.all (C.oJ bs)
 | .aT _ => true
structure xr (w : World) (H H1 : Hp) (ρ : aL) (D : Nat → Prop) (bs : List (Nat × ar)) : Prop where
 hH : ∀ b o, H b = some o → H1 b = some o
 ai : ∀ k B, aQ bs k = some B → cQ w.heap H ρ D B (ρ k) ∧ ∀ x, 0 < (ρ k).2 x → H1 x = w.heap[x]?
theorem aM.Ej {Γ : Ctx} {H : Hp} {ρ : aL} {σ : SS} {a : Act} {w : World} (r : aM Γ H ρ σ a w) : xr w H (fun b => w.heap[b]?) ρ (ax σ.ai) σ.ai :=
 ⟨r.b.hh, fun k B hk => ⟨r.b.ai k B (di hk), fun _ _ => rfl⟩⟩
section
variable {w : World} {H H1 : Hp} {ρ ρ1 : aL} {D D1 : Nat → Prop} {bs : List (Nat × ar)} (L : xr w H H1 ρ D bs)
include L
theorem Ek {c : C} {l : Lf} {v : Value} (h : xp bs c = some l) (hv : RC H ρ D c v) : RL H1 l v := by
 unfold xp at h
 split at h
 · cases h; exact RL.mono hv L.hH
 · cases h; simp only [RC] at hv; subst hv; exact RL.bool (t := fun _ => _)
 · rename_i k
   split at h
   · rename_i E xs l hg;cases h;obtain ⟨_, rfl⟩ := hv;obtain ⟨h1, h2⟩ := L.ai k _ hg;exact bq.rl h1 h2
   · rename_i E xs hg;cases h;obtain ⟨_, rfl⟩ := hv;obtain ⟨h1, h2⟩ := L.ai k _ hg;exact h1.1.mono L.hH
   · cases h
 · cases h
theorem El : ∀ {cs : List C} {ls : List Lf} {f : Nat → Value}, uV bs cs = some ls → (∀ (j : Nat) c, cs[j]? = some c → RC H ρ D c (f j)) → ls.length = cs.length ∧ ∀ (j : Nat) l, ls[j]? = some l → RL H1 l (f j)
 | [], ls, f, h, _ => by simp only [uV, Option.some.injEq] at h; subst h; exact ⟨rfl, fun j l hj => by simp at hj⟩
 | c :: cs, ls, f, h, hc => by
   simp only [uV] at h
   split at h
   · rename_i l oG h1 h2;cases h;obtain ⟨g1, g2⟩ := El (f := fun j => f (j + 1)) h2 fun j c hj => hc (j + 1) c (by simpa using hj);refine ⟨by simp [g1], fun j l' hj => ?_⟩;cases j with
     | zero => simp at hj; subst hj; exact Ek L h1 (hc 0 c rfl)
     | succ j => exact g2 j l' (by simpa using hj)
   · cases h
theorem Em {k off : Nat} {ls : List Lf} {v : Value} (h : uW bs k = some ls) (hv : dM H ρ D (.ptr k off) v) :
   dM H1 ρ1 D1 (.b0 ls off) v := by
 unfold uW at h
 split at h
 · rename_i cs hg;obtain ⟨_, b, h1, rfl⟩ := hv;obtain ⟨⟨b', vs, e, fz, h2, h3, h4, h5, h6⟩, h0⟩ := L.ai k _ hg;rw [h1] at h2;simp only [Value.pointer.injEq, Option.some.injEq, Addr.mk.injEq, and_true] at h2;subst h2;obtain ⟨g1, g2⟩ := El (f := fun j => vs.getD j Go.undef) L h h6.2;refine ⟨b, off, vs, e, fz, by rw [h0 b (by simp [h3, one])]; exact h4, rfl, fun j l hj => ⟨?_, g2 _ _ hj⟩⟩;have := bK hj;rw [h6.1, ← g1]; exact this
 · cases h
theorem dM.En {E : av} {x : Unit → E.α} {off : Nat} {v : Value} (hv : dM H ρ D (.el E x off) v) : dM H1 ρ1 D1 (.el E x off) v := by
 obtain ⟨b, o, cs, e, fz, h1, h2, h3⟩ := hv;exact ⟨b, o, cs, e, fz, L.hH _ _ h1, h2, fun j l hj => ⟨(h3 j l hj).1, (h3 j l hj).2.mono L.hH⟩⟩
theorem dM.Eo {ls : List Lf} {off : Nat} {v : Value} (hv : dM H ρ D (.b0 ls off) v) : dM H1 ρ1 D1 (.b0 ls off) v := by
 obtain ⟨b, o, cs, e, fz, h1, h2, h3⟩ := hv;exact ⟨b, o, cs, e, fz, L.hH _ _ h1, h2, fun j l hj => ⟨(h3 j l hj).1, (h3 j l hj).2.mono L.hH⟩⟩
theorem Ep {c : Cp} {v : Value} (hv : dM H ρ D c v) (ho : (match pW bs c with | .ptr _ _ => false | _ => true) = true) :
   dM H1 ρ1 D1 (pW bs c) v := by
 cases c with
 | ptr k off =>
   cases ht : uW bs k with
   | some t => simp only [pW, ht]; exact Em L ht hv
   | none => simp [pW, ht] at ho
 | el E x off => exact dM.En (ρ1 := ρ1) (D1 := D1) L hv
 | b0 ls off => exact dM.Eo (ρ1 := ρ1) (D1 := D1) L hv
theorem Er {c : C} {v : Value} (z : Z) (hv : RC H ρ D c v) (ho : c.oJ bs = true) : RC H1 ρ1 D1 (pX bs z c) v := by
 cases c with
 | lf l => exact RL.mono hv L.hH
 | bl b => exact hv
 | nil =>
   simp only [pX]
   split
   · simp only [RC] at hv; subst hv; exact RL.nil rfl
   · trivial
 | own k =>
   simp only [pX]
   split
   · rename_i l hl; exact Ek L hl hv
   · trivial
 | ptr k off =>
   simp only [pX]
   split
   · rename_i t ht; exact Em (ρ1 := ρ1) (D1 := D1) L ht hv
   · trivial
 | el E x off => exact dM.En (ρ1 := ρ1) (D1 := D1) L hv
 | b0 ls off => exact dM.Eo (ρ1 := ρ1) (D1 := D1) L hv
 | fj k E i off => trivial
 | fn f l =>
   obtain ⟨vs, h1, h2, h3⟩ := hv;refine ⟨vs, h1, by simpa using h2, fun j c hj => ?_⟩;rw [List.getElem?_map, Option.map_eq_some_iff] at hj;obtain ⟨c0, hj, rfl⟩ := hj;exact Ep L (h3 j c0 hj) (List.all_eq_true.1 ho c0 (List.mem_of_getElem? hj))
 | undef => trivial
omit L in
theorem Am {bs : List (Nat × ar)} : ∀ {cs : List C} {zs : List Z} {j : Nat} {c : C}, (lL bs zs cs)[j]? = some c → ∃ c0 z, cs[j]? = some c0 ∧ c = pX bs z c0
 | [], zs, j, c, h => by cases zs <;> simp [lL] at h
 | c0 :: cs, [], 0, c, h => by simp [lL] at h; exact ⟨c0, _, rfl, h.symm⟩
 | c0 :: cs, [], j + 1, c, h => by simp only [lL, List.getElem?_cons_succ] at h ⊢; exact Am h
 | c0 :: cs, z :: zs, 0, c, h => by simp [lL] at h; exact ⟨c0, _, rfl, h.symm⟩
 | c0 :: cs, z :: zs, j + 1, c, h => by simp only [lL, List.getElem?_cons_succ] at h ⊢; exact Am h
omit L in
theorem An {bs : List (Nat × ar)} : ∀ {cs : List C} {zs : List Z}, (lL bs zs cs).length = cs.length
 | [], zs => by cases zs <;> rfl
 | c0 :: cs, [] => by simp [lL, An (cs := cs)]
 | c0 :: cs, z :: zs => by simp [lL, An (cs := cs)]
theorem Es {tab : bj} {T : TypeId} {c : V} {v : Value} (hv : RV H ρ D c v) (ho : c.oJ bs = true) : RV H1 ρ1 D1 (xq tab bs T c) v := by
 cases c with
 | c x => exact Er L _ hv ho
 | agg cs =>
   obtain ⟨vs, h1, h2⟩ := hv;refine ⟨vs, h1, by rw [An]; exact h2.1, fun j c hj => ?_⟩;obtain ⟨c0, z, h3, rfl⟩ := Am hj;exact Er L z (h2.2 j c0 h3) (List.all_eq_true.1 ho c0 (List.mem_of_getElem? h3))
 | aT cs => trivial
theorem Et {c : Cp} {v : Value} (hv : dM H ρ D c v) (ho : (match pW bs c with | .ptr _ _ => false | _ => true) = true) : RV H1 ρ1 D1 (sP bs c) v := by
 have h := Ep (ρ1 := ρ1) (D1 := D1) L hv ho;unfold sP
 split
 · rename_i E x off heq; rw [heq] at h; exact h
 · rename_i ls off heq; rw [heq] at h; exact h
 · trivial
end
inductive ag (P : Program) (f : FuncId) (as : List V) (K : V → List ar → Prop) : Prop where
 | mk (post : V → List ar → Prop) (hs : Spec P f as post) (hk : ∀ r nb, post r nb → K r nb)
def pY : List (Nat × ar) → Nat → List ar → List (Nat × ar)
 | bs, _, [] => bs
 | bs, k, B :: nb => pY (dj bs k B) (k + 1) nb
def sQ (bs : List (Nat × ar)) (d : Nat) : Bool := bs.all fun p => p.1 < 8 * d || 8 * d + 8 ≤ p.1
theorem aM.pY {Γ : Ctx} {H : Hp} {a : Act} {w' : World} {H' : Hp} {ρ' : aL} : ∀ (nb : List ar) (j k : Nat) {ρ : aL} {σ : SS} {w : World}, aM Γ H ρ σ a w →
   (∀ b o, H b = some o → w'.heap[b]? = w.heap[b]?) → (∀ b, 0 < aS ρ σ.ai b → w'.heap[b]? = w.heap[b]?) → Ext w w' →
   (∀ i B, nb[i]? = some B → cQ w'.heap H' ρ' (fun _ => False) B (ρ' (j + i)) ∧ ownB B = true) → (∀ i, i < nb.length → (ρ' (j + i)).1.oneCell' = true) →
   (∀ i x, i < nb.length → 0 < (ρ' (j + i)).2 x → H x = none ∧ aS ρ σ.ai x = 0) → (∀ x, aS ρ' (num j nb) x ≤ 1) → (∀ i, i < nb.length → aQ σ.ai (k + i) = none) →
   ∃ rf, aM Γ H rf { σ with ai := pY σ.ai k nb } a w' ∧ (∀ i, i < nb.length → ax (pY σ.ai k nb) (k + i) ∧ (rf (k + i)).1 = (ρ' (j + i)).1) ∧ (∀ i, ax σ.ai i → ax (pY σ.ai k nb) i ∧ rf i = ρ i)
 | [], j, k, ρ, σ, w, r, h1, h2, h3, _, _, _, _, _ => by
   refine ⟨ρ, ⟨⟨r.b.oc, r.b.nd, r.b.h0, fun b o hb => ?_, fun k B hk => ?_, r.b.sum, r.b.fresh, r.b.gY⟩, r.e, r.d, r.n.trans h3, r.hd, r.hm⟩, fun i hi => by simp at hi, fun i hi => ⟨hi, rfl⟩⟩
   · rw [h1 b o hb]; exact r.b.hh b o hb
   · exact (r.b.ai k B hk).mono (jE.refl _ _ _) fun b hb => h2 b (Nat.lt_of_lt_of_le hb (mo hk b))
 | B :: nb, j, k, ρ, σ, w, r, h1, h2, h3, h4, h5, h6, h7, h8 => by
   have hk : aQ σ.ai k = none := h8 0 (by simp);obtain ⟨hB, cN⟩ := h4 0 B rfl
   have hle : ∀ x, (ρ' j).2 x ≤ 1 := fun x => by
     have := h7 x;simp only [num, aS] at this;omega
   have r1 := r.qS (w' := w') (k := k) (B := B) (p := ρ' j) hk h1 h2 h3 (h5 0 (by simp)) (fun x hx => h6 0 x (by simp) hx) hle
     (by cases B with
       | own E xs l => exact hB
       | dead => simp [ownB] at cN
       | box cs => simp [ownB] at cN
       | view E xs => simp [ownB] at cN
       | mp m => simp [ownB] at cN
       | ca E xs i fs => simp [ownB] at cN) (by rintro rfl; simp [ownB] at cN)
   have gm := jm hk;have aX : ∀ i, ax σ.ai i → i ≠ k := fun i hi he => gm (he ▸ hi);have e1 : ∀ i, j + 1 + i = j + (i + 1) := fun i => by omega
   have e2 : ∀ i, k + 1 + i = k + (i + 1) := fun i => by omega
   obtain ⟨rf, r2, g1, g2⟩ := aM.pY nb (j + 1) (k + 1) r1 (fun _ _ _ => rfl) (fun _ _ => rfl) (Ext.refl _)
     (fun i A hi => by rw [e1]; exact h4 (i + 1) A (by simpa using hi)) (fun i hi => by rw [e1]; exact h5 (i + 1) (by simpa using hi))
     (fun i x hi hx => by
       rw [e1] at hx;obtain ⟨g1, g2⟩ := h6 (i + 1) x (by simpa using hi) hx;refine ⟨g1, ?_⟩;show aS (dB ρ k (ρ' j)) (dj σ.ai k B) x = 0;rw [wJ, dN, uh (ρ := ρ) (ρ' := dB ρ k (ρ' j)) (fun i hi => dC (aX i hi)), g2];have h9 := h7 x;simp only [num, aS] at h9;have bM := mo (ρ := ρ') (bs := num (j + 1) nb) (k := j + (i + 1)) (B := nb[i]) (pG.2 ⟨by omega, by rw [show j + (i + 1) - (j + 1) = i by omega]; exact List.getElem?_eq_getElem hi⟩) x;omega)
     (fun x => by have := h7 x; simp only [num, aS] at this; omega)
     (fun i hi => by
       rw [e2];have h9 := h8 (i + 1) (by simpa using hi)
       have : ∀ bs : List (Nat × ar), aQ bs (k + (i + 1)) = none → aQ (dj bs k B) (k + (i + 1)) = none := by
        intro bs
        induction bs with
        | nil => intro _; simp [dj, aQ]
        | cons p bs ih =>
          intro h;simp only [aQ] at h
          split at h
          · cases h
          · rename_i hp;simp only [dj]
            split
            · simp only [aQ];rw [if_neg (by omega), if_neg hp]; exact h
            · simp only [aQ];rw [if_neg hp]; exact ih h
       exact this _ h9)
   refine ⟨rf, r2, fun i hi => ?_, fun i hi => ?_⟩
   · cases i with
     | zero =>
       obtain ⟨g3, g4⟩ := g2 k (fO.2 (.inl rfl));exact ⟨g3, by rw [Nat.add_zero, g4, dN]; rfl⟩
     | succ i =>
       have := g1 i (by simpa using hi);rw [e1, e2] at this;exact this
   · obtain ⟨g3, g4⟩ := g2 i (fO.2 (.inr hi));exact ⟨g3, by rw [g4, dC (aX i hi)]⟩
def g_ (σ : SS) (o : Oper) : Option (V × Call) :=
 match o.op with
 | .call c => match c.callee with
   | .value x => some (σ.ev x, c)
   | _ => none
 | _ => none
def Ao (P : Program) (tab : bj) (σ : SS) (v : V) (c : Call) (dst : Option Nat) (K : SS → Prop) : Prop :=
 match v, dst with
 | .c (.fn f l), some d =>
   if sQ σ.ai d = true ∧ Al σ.ai l = true ∧ (c.args.toList.map σ.ev).all (V.oJ σ.ai) = true ∧ c.argTypes.size = c.args.size then
    ag P f (kV tab σ.ai c.argTypes.toList (c.args.toList.map σ.ev) ++ l.map (sP σ.ai)) fun r nb =>
     nb.length ≤ 8 ∧ K (({ σ with ai := pY σ.ai (8 * d) nb } : SS).put (some d) (r.c_ (8 * d + ·)))
   else False
 | _, _ => False
theorem sR {tab : bj} {bs : List (Nat × ar)} : ∀ {vs : List V} {Ts : List TypeId}, (kV tab bs Ts vs).length = vs.length
 | [], Ts => by cases Ts <;> rfl
 | v :: vs, [] => by simp [kV, sR (vs := vs)]
 | v :: vs, T :: Ts => by simp [kV, sR (vs := vs)]
section
variable {P : Program} {tab : bj} {Γ : Ctx} {H : Hp} {ρ : aL} {σ : SS} {a : Act} {w : World} (r : aM Γ H ρ σ a w)
include r
theorem Ap : ∀ {vs : List V} {Ts : List TypeId} {us : List Value}, (∀ (j : Nat) c v, vs[j]? = some c → us[j]? = some v → RV H ρ (ax σ.ai) c v) → vs.all (V.oJ σ.ai) = true → vs.length = us.length →
   ∀ (j : Nat) c v, (kV tab σ.ai Ts vs)[j]? = some c → us[j]? = some v → RV (fun b => w.heap[b]?) (fun _ => default) (fun _ => False) c v
 | [], Ts, us, _, _, _, j, c, v, h, _ => by cases Ts <;> simp [kV] at h
 | x :: vs, [], us, hv, ho, hl, j, c, v, h, h' => by
   cases us with
   | nil => simp at hl
   | cons u us =>
     simp only [List.all_cons, Bool.and_eq_true] at ho;cases j with
     | zero => simp [kV] at h; subst h; trivial
     | succ j =>
       simp only [kV, List.getElem?_cons_succ] at h h';exact Ap (Ts := []) (fun j c v g1 g2 => hv (j + 1) c v (by simpa using g1) (by simpa using g2)) ho.2 (by simpa using hl) j c v h h'
 | x :: vs, T :: Ts, us, hv, ho, hl, j, c, v, h, h' => by
   cases us with
   | nil => simp at hl
   | cons u us =>
     simp only [List.all_cons, Bool.and_eq_true] at ho;cases j with
     | zero =>
       simp [kV] at h h'; subst h h';exact Es r.Ej (hv 0 x u rfl rfl) ho.1
     | succ j =>
       simp only [kV, List.getElem?_cons_succ] at h h';exact Ap (Ts := Ts) (fun j c v g1 g2 => hv (j + 1) c v (by simpa using g1) (by simpa using g2)) ho.2 (by simpa using hl) j c v h h'
theorem KW {o : Oper} {v : V} {c : Call} {K : SS → Prop} {Q : Exit → Act → World → Prop} (hc : g_ σ o = some (v, c)) (h : Ao P tab σ v c o.dst K) :
   o.wp P a w (fun a' w' => ∃ aD, K aD ∧ pK Γ H (gG tab o) w aD a' w') Q := by
 unfold g_ at hc
 split at hc
 · rename_i c0 aZ
   split at hc
   · rename_i x fu;cases hc;unfold Ao at h
     split at h
     · rename_i f l d hx hd
       split at h
       · rename_i qR;obtain ⟨hC, Aq, z5, zp⟩ := qR;obtain ⟨post, ⟨⟨fn, oK, lM, As⟩, hs⟩, hk⟩ := h;have ev := j_ r.e x;rw [hx] at ev;obtain ⟨vs, e1, e2, e3⟩ := ev
         have cI : (execOp a.eval o).run P w = .ok (.enter f (c.args.map a.eval ++ vs)) w := by
          simp only [execOp, aZ, resolve, fu, Deferred.ofValue, e1, Sem.run_bind, Sem.run_pure, Result.andThen_ok, invoke, callFunc, run_program, oK, lM, As];simp
         have dO : args (fun b => w.heap[b]?) (fun _ => default) (fun _ => False) (kV tab σ.ai c.argTypes.toList (c.args.toList.map σ.ev) ++ l.map (sP σ.ai)) (c.args.map a.eval ++ vs) := by
          refine ⟨by simp [sR, e2], fun j cv hj => ?_⟩;rw [Array.getD_eq_getD_getElem?]
          by_cases aR : j < c.args.size
          · rw [List.getElem?_append_left (by simpa [sR] using aR)] at hj;rw [Array.getElem?_append_left (by simpa using aR)];have h1 : (c.args.map a.eval).toList[j]? = some (a.eval c.args[j]) := by simp [aR]
            have h2 := Ap r (uu r c.args) z5 (by simp) j cv _ hj h1;simpa [aR] using h2
          · rw [List.getElem?_append_right (by simpa [sR] using Nat.le_of_not_lt aR)] at hj;rw [Array.getElem?_append_right (by simpa using Nat.le_of_not_lt aR)];simp only [sR, List.length_map, Array.length_toList, Array.size_map, List.getElem?_map, Option.map_eq_some_iff] at hj ⊢;obtain ⟨c0, h1, rfl⟩ := hj;have h2 := e3 _ c0 h1;have h3 := List.all_eq_true.1 Aq c0 (List.mem_of_getElem? h1);rw [← Array.getD_eq_getD_getElem?];exact Et r.Ej h2 h3
         unfold Oper.wp;rw [cI];simp only [Oper.upon];refine (hs w _ dO).mono fun e w' he => ?_;obtain ⟨v, rv, nb, H', ρ', rfl, hp, cN, hB, hv, bg⟩ := he;obtain ⟨hlen, hK⟩ := hk rv nb hp;have mA : ∀ x o, w.heap[x]? = some o → w'.heap[x]? = some o := fun x o hx => hB.hh x o (hB.h0 x o hx);have oL : ∀ x, x < w.heap.size → w'.heap[x]? = w.heap[x]? := fun x hx => by rw [Array.getElem?_eq_getElem hx]; exact mA x _ (Array.getElem?_eq_getElem hx)
         have nB : ∀ i, i < nb.length → aQ σ.ai (8 * d + i) = none := fun i hi => by
          have : ∀ bs : List (Nat × ar), sQ bs d = true → aQ bs (8 * d + i) = none := by
            intro bs
            induction bs with
            | nil => intro _; rfl
            | cons p bs ih =>
              intro uX;simp only [sQ, List.all_cons, Bool.and_eq_true, Bool.or_eq_true, decide_eq_true_eq] at uX;simp only [aQ];rw [if_neg (by omega)];exact ih uX.2
          exact this _ hC
         have Eu : ∀ (i : Nat) B, nb[i]? = some B → (i, B) ∈ num 0 nb := fun i B hi => pG.2 ⟨Nat.zero_le _, by simpa using hi⟩
         obtain ⟨rf, r1, g1, g2⟩ := aM.pY (H' := H') (ρ' := ρ') (w' := w') nb 0 (8 * d) r (fun b o hb => oL b (jJ (r.b.hh b o hb))) (fun b hb => oL b (r.lt hb)) bg
          (fun i B hi => by
            have h1 := hB.ai i B (Eu i B hi);rw [Nat.zero_add];have h2 := List.all_eq_true.1 cN B (List.mem_of_getElem? hi);refine ⟨?_, h2⟩;cases B with
            | own E xs l => exact h1
            | dead => cases h2
            | box cs => cases h2
            | view E xs => cases h2
            | mp m => cases h2
            | ca E xs i fs => cases h2)
          (fun i hi => by rw [Nat.zero_add]; exact hB.oc i (nr.2 ⟨Nat.zero_le _, by omega⟩))
          (fun i x hi hx => by
            rw [Nat.zero_add] at hx;have h1 := hB.fresh i _ (Eu i _ (List.getElem?_eq_getElem hi)) x hx;refine r.su ?_;rcases Nat.lt_or_ge x w.heap.size with h2 | h2
            · rw [Array.getElem?_eq_getElem h2] at h1; cases h1
            · exact h2)
          hB.sum nB
         refine ⟨_, hK, ⟨rf, ?_⟩, fun _ => mA⟩;rw [hd];refine aM.put r1 (RV.c_ (m := fun i => 8 * d + i) (D := ax (num 0 nb)) (ρ := ρ') (fun i hi => ?_) (hv.grow (H' := H) (ρ' := ρ') (D' := ax (num 0 nb)) ⟨(fun _ _ h => by cases h), (fun _ h => ⟨h, rfl⟩)⟩)) (some d);obtain ⟨_, hi⟩ := nr.1 hi;have := g1 i (by omega);rw [Nat.zero_add] at this;exact this
       · cases h
     · cases h
   · cases hc
 · cases hc
end
def C.nm : C → List Nat
 | .own k => [k]
 | .ptr k _ => [k]
 | _ => []
def uY : List C → List Nat
 | [] => []
 | c :: cs => c.nm ++ uY cs
def V.nm : V → List Nat
 | .c x => x.nm
 | .agg cs => uY cs
 | .aT _ => []
def C.pass : C → Bool
 | .own _ | .ptr _ _ | .bl _ | .nil | .undef => true
 | .lf l => l.sc
 | _ => false
def V.pass : V → Bool
 | .c x => x.pass
 | .agg cs => cs.all C.pass
 | .aT _ => false
def pZ (ks : List Nat) : List Nat → List Nat
 | [] => ks
 | x :: xs => if ks.contains x then pZ ks xs else pZ (ks ++ [x]) xs
def KX : Option ar → List Nat
 | some (.box cs) => uY cs
 | _ => []
def lN : List Bool → List V → List Nat
 | true :: ms, v :: vs => v.nm ++ lN ms vs
 | false :: ms, _ :: vs => lN ms vs
 | _, _ => []
def Ev (bs : List (Nat × ar)) : List Nat → List Nat
 | [] => []
 | k :: ks => KX (aQ bs k) ++ Ev bs ks
def kW (bs : List (Nat × ar)) (ms : List Bool) (vs : List V) : List Nat :=
 pZ (pZ [] (lN ms vs)) (Ev bs (pZ [] (lN ms vs)))
def lO (ks : List Nat) : List (Nat × ar) → List (Nat × ar)
 | [] => []
 | p :: bs => if ks.contains p.1 then lO ks bs else p :: lO ks bs
def C.box (ks : List Nat) : C → Bool
 | .own k => ks.contains k
 | .lf l => l.sc
 | .bl _ | .nil | .undef => true
 | _ => false
def sS (ks : List Nat) : Option ar → Option ar
 | some (.own E xs false) => some (.own E xs false)
 | some (.view E xs) => some (.view E xs)
 | some (.box cs) => if cs.all (C.box ks) = true then some (.box (jK (place ks) cs)) else none
 | _ => none
def uZ (bs : List (Nat × ar)) (ks : List Nat) : List Nat → Option (List ar)
 | [] => some []
 | k :: r => match sS ks (aQ bs k), uZ bs ks r with | some B, some l => some (B :: l) | _, _ => none
def iB (tab : bj) (bs : List (Nat × ar)) (ks : List Nat) : List Bool → List TypeId → List V → List V
 | _, _, [] => []
 | true :: ms, Ts, v :: vs => v.c_ (place ks) :: iB tab bs ks ms Ts.tail vs
 | ms, T :: Ts, v :: vs => xq tab bs T v :: iB tab bs ks ms.tail Ts vs
 | ms, [], _ :: vs => .c .undef :: iB tab bs ks ms.tail [] vs
def oM (bs : List (Nat × ar)) : List Bool → List V → Bool
 | _, [] => true
 | true :: ms, v :: vs => v.pass && oM bs ms vs
 | ms, v :: vs => v.oJ bs && oM bs ms.tail vs
def ju (ks : List Nat) (d j : Nat) : Nat := if j < 100 then ks.getD j 0 else 8 * d + (j - 100)
def ar.c_ (m : Nat → Nat) : ar → ar
 | .box cs => .box (jK m cs)
 | B => B
def lP (bs : List (Nat × ar)) (k : Nat) (B : ar) : List (Nat × ar) :=
 match aQ bs k with
 | some _ => cd bs k B
 | none => dj bs k B
def p5 (m : Nat → Nat) : List (Nat × ar) → List (Nat × ar) → List (Nat × ar)
 | [], bs => bs
 | (_, .dead) :: r, bs => p5 m r bs
 | (j, B) :: r, bs => p5 m r (lP bs (m j) (B.c_ m))
def kX (bs : List (Nat × ar)) : List Nat → List (Nat × ar) → List (Nat × ar)
 | [], cs => cs
 | k :: ks, cs => match aQ bs k with
   | some (.view E xs) => (match aQ cs k with | some .dead => kX bs ks (cd cs k (.view E xs)) | _ => kX bs ks cs)
   | _ => kX bs ks cs
def C.bk (n : Nat) : C → Bool
 | .own k => decide (k < n)
 | .lf l => l.sc
 | .bl _ | .nil | .undef => true
 | _ => false
def u3 (n : Nat) (p : Nat × ar) : Bool :=
 (decide (p.1 < n) || (decide (100 ≤ p.1) && decide (p.1 < 108))) &&
  match p.2 with
  | .own _ _ false => true
  | .box cs => cs.all (C.bk n)
  | .dead => decide (p.1 < n)
  | _ => false
inductive bB (P : Program) (f : FuncId) (as : List V) (bs : List (Nat × ar)) (K : V → List (Nat × ar) → Prop) : Prop where
 | mk (post : V → List (Nat × ar) → Prop) (hs : cB P f as bs post) (hk : ∀ r cf, post r cf → K r cf)
def At (P : Program) (tab : bj) (σ : SS) (f : FuncId) (l : List Cp) (ms : List Bool) (c : Call) (d : Nat) (K : SS → Prop) : Prop :=
 match uZ σ.ai (kW σ.ai ms (c.args.toList.map σ.ev)) (kW σ.ai ms (c.args.toList.map σ.ev)) with
 | some nb =>
   if sQ σ.ai d = true ∧ nb.length ≤ 100 ∧ eB (kW σ.ai ms (c.args.toList.map σ.ev)) = true ∧ Al (lO (kW σ.ai ms (c.args.toList.map σ.ev)) σ.ai) l = true ∧ c.argTypes.size = c.args.size ∧
     oM (lO (kW σ.ai ms (c.args.toList.map σ.ev)) σ.ai) ms (c.args.toList.map σ.ev) = true then
    bB P f (iB tab (lO (kW σ.ai ms (c.args.toList.map σ.ev)) σ.ai) (kW σ.ai ms (c.args.toList.map σ.ev)) ms c.argTypes.toList (c.args.toList.map σ.ev) ++ l.map (sP (lO (kW σ.ai ms (c.args.toList.map σ.ev)) σ.ai))) (num 0 nb) fun r cf =>
     (cf.all (u3 nb.length) = true ∧ r.cl = true) ∧
      K (({ σ with ai := kX σ.ai (kW σ.ai ms (c.args.toList.map σ.ev)) (p5 (ju (kW σ.ai ms (c.args.toList.map σ.ev)) d) cf (fl σ.ai (kW σ.ai ms (c.args.toList.map σ.ev)))) } : SS).put (some d) (r.c_ (ju (kW σ.ai ms (c.args.toList.map σ.ev)) d)))
   else False
 | none => False
def Au (P : Program) (tab : bj) (σ : SS) (v : V) (c : Call) (dst : Option Nat) (K : SS → Prop) : Prop :=
 match v, dst with
 | .c (.fn f l), some d =>
   match C1 tab f with
   | some ms => At P tab σ f l ms c d K
   | none => Ao P tab σ v c dst K
 | _, _ => False
theorem KY {ks : List Nat} {bs : List (Nat × ar)} {k : Nat} {B : ar} (h : aQ (lO ks bs) k = some B) : aQ bs k = some B ∧ k ∉ ks := by
 induction bs with
 | nil => simp [lO, aQ] at h
 | cons p bs ih =>
   simp only [lO] at h
   split at h
   · rename_i hc;obtain ⟨h1, h2⟩ := ih h;refine ⟨?_, h2⟩;simp only [aQ];rw [if_neg fun he => h2 (by rw [← he]; simpa using hc)];exact h1
   · rename_i hc;simp only [aQ] at h ⊢
     split at h
     · rename_i he;cases h;rw [if_pos he];exact ⟨rfl, by rw [← he]; simpa using hc⟩
     · rename_i he;rw [if_neg he];exact ih h
theorem Av {bs : List (Nat × ar)} {k : Nat} {B : ar} {j : Nat} : ax (lP bs k B) j ↔ j = k ∨ ax bs j := by
 unfold lP
 split
 · rename_i hk;rw [eV];exact ⟨.inr, fun h => by rcases h with rfl | h; exact fN hk; exact h⟩
 · exact fO
theorem KZ {l : List Nat} (h : eB l = true) : l.Nodup := by
 induction l with
 | nil => simp
 | cons x l ih => obtain ⟨h1, h2⟩ := uB h; exact List.nodup_cons.2 ⟨h1, ih h2⟩
section
variable {Γ : Ctx} {H : Hp} {a : Act} {w w' : World}
theorem aM.move {ρ : aL} {σ : SS} (r : aM Γ H ρ σ a w) (h1 : ∀ b o, H b = some o → w'.heap[b]? = w.heap[b]?) (h2 : ∀ b, 0 < aS ρ σ.ai b → w'.heap[b]? = w.heap[b]?) (h3 : Ext w w') : aM Γ H ρ σ a w' := by
 refine ⟨⟨r.b.oc, r.b.nd, r.b.h0, fun b o hb => ?_, fun k B hk => ?_, r.b.sum, r.b.fresh, r.b.gY⟩, r.e, r.d, r.n.trans h3, r.hd, r.hm⟩
 · rw [h1 b o hb]; exact r.b.hh b o hb
 · exact (r.b.ai k B hk).mono (jE.refl _ _ _) fun b hb => h2 b (Nat.lt_of_lt_of_le hb (mo hk b))
theorem Ew {bs : List (Nat × ar)} {k : Nat} {B : ar} : ax (cd bs k B) = ax bs := by funext j; exact propext eV
theorem aM.K0 (bN : Γ.hd = []) {ρ : aL} {σ : SS} (r : aM Γ H ρ σ a w) {k : Nat} {B : ar} {p : Value × (Nat → Nat)} (hk : aQ σ.ai k = none ∨ (aQ σ.ai k = some .dead ∧ p.1 = (ρ k).1)) (dS : p.1.oneCell' = true)
   (dD : ∀ x, 0 < p.2 x → H x = none ∧ aS ρ σ.ai x = 0) (hle : ∀ x, p.2 x ≤ 1) (hB : ∀ ρ' : aL, ∀ D' : Nat → Prop, (∀ q, q ≠ k → ρ' q = ρ q) → (ρ' k).1 = p.1 → (∀ q, ax σ.ai q → D' q) → D' k → cQ w.heap H ρ' D' B p) (uw : B ≠ .dead)
   (qY : ∀ x, fL B p x → 0 < p.2 x) :
   ∃ ρ', aM Γ H ρ' { σ with ai := lP σ.ai k B } a w ∧ (∀ q, q ≠ k → ρ' q = ρ q) ∧ ρ' k = p := by
 rcases hk with hk | ⟨hk, hp⟩
 · have r1 := r.qS (w' := w) (k := k) (B := B) (p := p) hk (fun _ _ _ => rfl) (fun _ _ => rfl) (Ext.refl _) dS dD hle (hB _ _ (fun q hq => dC hq) (by rw [dN]) (fun q hq => fO.2 (.inr hq)) (fO.2 (.inl rfl))) uw;refine ⟨_, ?_, fun q hq => dC hq, dN _ _ _⟩;unfold lP;rw [hk];exact r1
 · have hz : ∀ x, (ρ k).2 x = 0 := fun x => by
    have := r.b.ai k _ (di hk);rw [this]
   obtain ⟨pv, ps⟩ := p;simp only at hp;subst hp
   have r1 := r.zX (w' := w) bN (k := k) (B := B) (p := ps) (fN hk) hz (fun _ _ _ => rfl) (Ext.refl _)
    (hB (dB ρ k ((ρ k).1, ps)) (ax (cd σ.ai k B)) (fun q hq => dC hq) (by rw [dN]) (fun q hq => eV.2 hq) (eV.2 (fN hk))) qY dD hle
   refine ⟨_, ?_, fun q hq => dC hq, dN _ _ _⟩;unfold lP;rw [hk];exact r1
theorem aM.K1 {ρ : aL} {σ : SS} (r : aM Γ H ρ σ a w) {k : Nat} {E : av} {xs : Unit → List E.α} (hk : aQ σ.ai k = some .dead) (hv : RL H (.list E xs) (ρ k).1) : aM Γ H ρ { σ with ai := cd σ.ai k (.view E xs) } a w := by
 have hz : (ρ k).2 = fun _ => 0 := r.b.ai k _ (di hk);have hd : ax (cd σ.ai k (.view E xs)) = ax σ.ai := Ew;refine ⟨⟨fun j hj => r.b.oc j (hd ▸ hj), by rw [sb]; exact r.b.nd, r.b.h0, r.b.hh, fun j B hj => ?_, fun x => ?_, fun j B hj x hx => ?_, fun j B hj x hx => ?_⟩, ?_, r.d, r.n, fun p hp => ?_, fun p hp => ?_⟩
 · show cQ w.heap H ρ (ax (cd σ.ai k (.view E xs))) B (ρ j);rw [hd];rcases lC r.b.nd hj with ⟨rfl, rfl⟩ | ⟨_, h⟩
   · exact ⟨hv, hz⟩
   · exact r.b.ai j B h
 · have h1 := sd (ρ := ρ) (ρ' := ρ) r.b.nd (B := .view E xs) (fN hk) (fun _ _ => rfl) x;have h2 := r.b.sum x;show aS ρ (cd σ.ai k (.view E xs)) x ≤ 1;omega
 · rcases lC r.b.nd hj with ⟨rfl, rfl⟩ | ⟨_, h⟩
   · rw [hz] at hx; simp at hx
   · exact r.b.fresh j B h x hx
 · rcases lC r.b.nd hj with ⟨rfl, rfl⟩ | ⟨_, h⟩
   · exact hx.elim
   · exact r.b.gY j B h x hx
 · show oa H ρ (ax (cd σ.ai k (.view E xs))) σ.env a.tmps;rw [hd]; exact r.e
 · have := r.hd p hp;exact ⟨by show ax (cd σ.ai k (.view E xs)) p.1; rw [hd]; exact this.1, this.2⟩
 · have := r.hm p hp;exact ⟨by show ax (cd σ.ai k (.view E xs)) p.1; rw [hd]; exact this.1, this.2⟩
theorem aM.kX {ρ : aL} {bs : List (Nat × ar)} : ∀ (ks : List Nat) {σ : SS}, aM Γ H ρ σ a w → (∀ k ∈ ks, ∀ (E : av) (xs : Unit → List E.α), aQ bs k = some (.view E xs) → RL H (.list E xs) (ρ k).1) →
   aM Γ H ρ { σ with ai := Go.Proofs.YticeaiiffeccmaaGreat.kX bs ks σ.ai } a w ∧ ax (Go.Proofs.YticeaiiffeccmaaGreat.kX bs ks σ.ai) = ax σ.ai
 | [], σ, r, _ => ⟨r, rfl⟩
 | k :: ks, σ, r, h => by
   have h' := fun j hj => h j (List.mem_cons_of_mem _ hj);simp only [Go.Proofs.YticeaiiffeccmaaGreat.kX]
   split
   · rename_i E xs hg
     split
     · rename_i hk;obtain ⟨q1, q2⟩ := aM.kX ks (r.K1 hk (h k List.mem_cons_self E xs hg)) h';exact ⟨q1, q2.trans Ew⟩
     · exact aM.kX ks r h'
   · exact aM.kX ks r h'
theorem aM.Aw (bN : Γ.hd = []) {m : Nat → Nat} {n : Nat} {H' : Hp} {ρ2 : aL} {D2 : Nat → Prop} : ∀ (l : List (Nat × ar)) {ρ : aL} {σ : SS}, aM Γ H ρ σ a w →
   (l.all (u3 n) = true) → (∀ j B, (j, B) ∈ l → cQ w.heap H' ρ2 D2 B (ρ2 j) ∧ (ρ2 j).1.oneCell' = true ∧ (aQ σ.ai (m j) = none ∨ (aQ σ.ai (m j) = some .dead ∧ (ρ2 j).1 = (ρ (m j)).1))) →
   (∀ j B, (j, B) ∈ l → ∀ x, 0 < (ρ2 j).2 x → H x = none ∧ aS ρ σ.ai x = 0) → (∀ x, aS ρ2 l x ≤ 1) → ((l.map fun p => m p.1).Nodup) → (∀ j, j < n → D2 j → ax σ.ai (m j) ∧ (ρ2 j).1 = (ρ (m j)).1) → (∀ j B, (j, B) ∈ l → D2 j) →
   ∃ ρ', aM Γ H ρ' { σ with ai := p5 m l σ.ai } a w ∧ (∀ q, ax σ.ai q → ax (p5 m l σ.ai) q) ∧ (∀ q, q ∉ l.map (fun p => m p.1) → ρ' q = ρ q) ∧ (∀ j B, (j, B) ∈ l → ax (p5 m l σ.ai) (m j) ∧ ρ' (m j) = ρ2 j)
 | [], ρ, σ, r, _, _, _, _, _, _, _ => ⟨ρ, r, fun q hq => hq, fun q _ => rfl, fun j B hj => by cases hj⟩
 | (j, B) :: l, ρ, σ, r, du, iO, dD, fx, iL, hF, hD => by
   by_cases lK : B = .dead
   · subst lK;simp only [List.all_cons, Bool.and_eq_true] at du;simp only [List.map_cons, List.nodup_cons] at iL
     obtain ⟨ρ', r', g3, g4, g5⟩ := aM.Aw bN (m := m) (n := n) (H' := H') (ρ2 := ρ2) (D2 := D2) l r du.2 (fun j' B' h => iO j' B' (List.mem_cons_of_mem _ h)) (fun j' B' h => dD j' B' (List.mem_cons_of_mem _ h))
       (fun x => by have := fx x; simp only [aS] at this; omega) iL.2 hF (fun j' B' h => hD j' B' (List.mem_cons_of_mem _ h))
     refine ⟨ρ', r', g3, fun q hq => g4 q fun h => hq (List.mem_cons_of_mem _ h), fun j' B' h => ?_⟩;rcases List.mem_cons.1 h with h | h
     · cases h;obtain ⟨hB, _, hk⟩ := iO j .dead List.mem_cons_self
       have hj : j < n := by
         have := du.1;simp only [u3, Bool.and_eq_true, decide_eq_true_eq] at this;exact this.2
       obtain ⟨q1, q2⟩ := hF j hj (hD j _ List.mem_cons_self);rcases hk with hk | ⟨hk, _⟩
       · exact (jm hk q1).elim
       · refine ⟨g3 _ q1, ?_⟩;rw [g4 _ iL.1];have e1 : (ρ (m j)).2 = fun _ => 0 := r.b.ai _ _ (di hk);have e2 : (ρ2 j).2 = fun _ => 0 := hB;exact Prod.ext q2.symm (by rw [e1, e2])
     · exact g5 j' B' h
   have eg : ∀ bs, p5 m ((j, B) :: l) bs = p5 m l (lP bs (m j) (B.c_ m)) := fun bs => by
     cases B with
     | dead => exact (lK rfl).elim
     | _ => rfl
   simp only [eg];simp only [List.all_cons, Bool.and_eq_true] at du;simp only [List.map_cons, List.nodup_cons] at iL;obtain ⟨hB, dS, hk⟩ := iO j B List.mem_cons_self;have hle : ∀ x, (ρ2 j).2 x ≤ 1 := fun x => by have := fx x; simp only [aS] at this; omega
   have mE := du.1;unfold u3 at mE;simp only [Bool.and_eq_true] at mE
   obtain ⟨ρ1, r1, g1, g2⟩ := r.K0 (B := B.c_ m) (p := ρ2 j) bN hk dS (dD j B List.mem_cons_self) hle (fun ρ' D' h1 K2 h2 h3 => by
       cases B with
       | own E xs l => exact hB
       | box cs =>
         obtain ⟨b, vs, e, fz, e1, e2, e3, e4, e5⟩ := hB;refine ⟨b, vs, e, fz, e1, e2, e3, e4, by rw [sx]; exact e5.1, fun q c hq => ?_⟩;obtain ⟨c0, hG, rfl⟩ := sw hq;have hc := e5.2 q c0 hG;have nC := List.all_eq_true.1 mE.2 c0 (List.mem_of_getElem? hG);cases c0 with
         | own k =>
           simp only [C.bk, decide_eq_true_eq] at nC;obtain ⟨f1, f2⟩ := hc;obtain ⟨f3, f4⟩ := hF k nC f1;refine ⟨h2 _ f3, ?_⟩;rw [f2]
           by_cases oI : m k = m j
           · rw [oI, K2, f4, oI];rcases hk with hk | ⟨hk, bC⟩
             · exact (jm hk (oI ▸ f3)).elim
             · exact bC.symm
           · rw [h1 _ oI]; exact f4
         | lf l => cases l <;> first | exact (RC.cl (H' := H) (ρ := ρ') (D := D') (c := .lf _) (by first | exact hc) rfl) | exact (by cases nC)
         | bl b => exact hc
         | nil => exact hc
         | undef => trivial
         | ptr k off => cases nC
         | el E x off => cases nC
         | b0 ls off => cases nC
         | fj k E i off => cases nC
         | fn f l => cases nC
       | dead => exact (lK rfl).elim
       | view E xs => cases mE.2
       | mp m => cases mE.2
       | ca E xs i fs => cases mE.2) (by cases B <;> simp [ar.c_] at mE lK ⊢) (fun x hx => by
       cases B with
       | own E xs l => cases l with
         | false => exact hx
         | true => cases mE.2
       | box cs => exact hx
       | dead => exact (lK rfl).elim
       | view E xs => cases mE.2
       | mp m => cases mE.2
       | ca E xs i fs => cases mE.2)
   have de : ∀ j' B', (j', B') ∈ l → m j' ≠ m j := fun j' B' h he => iL.1 (by rw [← he]; exact List.mem_map.2 ⟨_, h, rfl⟩)
   have fV : ∀ x, aS ρ1 (lP σ.ai (m j) (B.c_ m)) x = aS ρ σ.ai x + (ρ2 j).2 x := fun x => by
     unfold lP
     split
     · rename_i A hA;have h1 := sd (ρ := ρ) (ρ' := ρ1) r.b.nd (B := B.c_ m) (fN hA) (fun q hq => g1 q hq) x;rw [g2] at h1
       have h2 : (ρ (m j)).2 x = 0 := by
         rcases hk with hk | ⟨hk, _⟩
         · rw [hk] at hA; cases hA
         · have := r.b.ai _ _ (di hk); rw [this]
       omega
     · rename_i hA;rw [wJ, g2, uh (ρ := ρ) (ρ' := ρ1) fun q hq => g1 q fun he => jm hA (he ▸ hq)];omega
   obtain ⟨ρ', r', g3, g4, g5⟩ := aM.Aw bN (m := m) (n := n) (H' := H') (ρ2 := ρ2) (D2 := D2) l r1 du.2
     (fun j' B' cO => by
       obtain ⟨q1, q2, q3⟩ := iO j' B' (List.mem_cons_of_mem _ cO);have aX := de j' B' cO;refine ⟨q1, q2, ?_⟩
       have eJ : aQ (lP σ.ai (m j) (B.c_ m)) (m j') = aQ σ.ai (m j') := by
         unfold lP
         split
         · have : ∀ bs : List (Nat × ar), aQ (cd bs (m j) (B.c_ m)) (m j') = aQ bs (m j') := by
             intro bs
             induction bs with
             | nil => rfl
             | cons p bs ih =>
               simp only [cd]
               split
               · rename_i hp;simp only [aQ, hp, if_neg (Ne.symm aX)]
               · simp only [aQ, ih]
           exact this _
         · have : ∀ bs : List (Nat × ar), aQ (dj bs (m j) (B.c_ m)) (m j') = aQ bs (m j') := by
             intro bs
             induction bs with
             | nil => simp only [dj, aQ, if_neg (Ne.symm aX)]
             | cons p bs ih =>
               simp only [dj]
               split
               · simp only [aQ, if_neg (Ne.symm aX)]
               · simp only [aQ, ih]
           exact this _
       rw [eJ, g1 _ aX];exact q3)
     (fun j' B' cO x hx => by
       obtain ⟨q1, q2⟩ := dD j' B' (List.mem_cons_of_mem _ cO) x hx;refine ⟨q1, ?_⟩;show aS ρ1 (lP σ.ai (m j) (B.c_ m)) x = 0;rw [fV, q2];have h1 := fx x;have h2 := mo (ρ := ρ2) cO x;simp only [aS] at h1;omega)
     (fun x => by have := fx x; simp only [aS] at this; omega) iL.2
     (fun q hq hD => by
       obtain ⟨q1, q2⟩ := hF q hq hD;refine ⟨Av.2 (.inr q1), ?_⟩
       by_cases he : m q = m j
       · rw [he, g2];rw [q2, he];rcases hk with hk | ⟨_, hk⟩
         · exact (jm hk (he ▸ q1)).elim
         · exact hk.symm
       · rw [g1 _ he]; exact q2) (fun j' B' h => hD j' B' (List.mem_cons_of_mem _ h))
   refine ⟨ρ', r', fun q hq => g3 q (Av.2 (.inr hq)), fun q hq => ?_, fun j' B' cO => ?_⟩
   · simp only [List.map_cons, List.mem_cons, not_or] at hq;rw [g4 q hq.2, g1 q hq.1]
   · rcases List.mem_cons.1 cO with h | h
     · cases h;exact ⟨g3 _ (Av.2 (.inl rfl)), by rw [g4 _ iL.1, g2]⟩
     · exact g5 j' B' h
end
theorem K3 {bs : List (Nat × ar)} {k j : Nat} {B : ar} (h : j ≠ k) : aQ (cd bs k B) j = aQ bs j := by
 induction bs with
 | nil => rfl
 | cons p bs ih =>
   simp only [cd]
   split
   · rename_i hp;simp only [aQ, hp, if_neg (Ne.symm h)]
   · simp only [aQ, ih]
theorem Ex : ∀ {ks : List Nat} {bs : List (Nat × ar)} {k : Nat}, ax bs k → (k ∈ ks ∨ aQ bs k = some .dead) → aQ (fl bs ks) k = some .dead
 | [], bs, k, _, h => h.resolve_left (by simp)
 | j :: ks, bs, k, hd, h => by
   simp only [fl];refine Ex (eV.2 hd) ?_
   by_cases hk : k = j
   · subst hk; exact .inr (zW hd)
   · rw [K3 hk];rcases h with h | h
     · rcases List.mem_cons.1 h with h | h
       · exact (hk h).elim
       · exact .inl h
     · exact .inr h
theorem Ey : ∀ {ks r : List Nat} {bs : List (Nat × ar)} {nb : List ar}, uZ bs ks r = some nb → nb.length = r.length ∧ ∀ (j : Nat) B, nb[j]? = some B → ∃ k A, r[j]? = some k ∧ aQ bs k = some A ∧ sS ks (some A) = some B
 | ks, [], bs, nb, h => by simp only [uZ, Option.some.injEq] at h; subst h; exact ⟨rfl, fun j B hj => by simp at hj⟩
 | ks, k :: r, bs, nb, h => by
   simp only [uZ] at h
   split at h
   · rename_i B l h1 h2;cases h;obtain ⟨g1, g2⟩ := Ey h2;refine ⟨by simp [g1], fun j B' hj => ?_⟩;cases j with
     | zero =>
       simp at hj; subst hj;cases hg : aQ bs k with
       | none => rw [hg] at h1; simp [sS] at h1
       | some A => exact ⟨k, A, rfl, hg, by rw [← hg]; exact h1⟩
     | succ j => simpa using g2 j B' (by simpa using hj)
   · cases h
theorem Ax {ks : List Nat} {A B : ar} (h : sS ks (some A) = some B) : (∃ E xs, A = .own E xs false ∧ B = .own E xs false) ∨ (∃ cs, A = .box cs ∧ cs.all (C.box ks) = true ∧ B = .box (jK (place ks) cs)) ∨ ∃ E xs, A = .view E xs ∧ B = .view E xs := by
 unfold sS at h
 split at h
 · rename_i E xs hA; cases hA; cases h; exact .inl ⟨E, xs, rfl, rfl⟩
 · rename_i E xs hA; cases hA; cases h; exact .inr (.inr ⟨E, xs, rfl, rfl⟩)
 · rename_i cs hA;cases hA
   split at h
   · rename_i hc; cases h; exact .inr (.inl ⟨cs, rfl, hc, rfl⟩)
   · cases h
 · cases h
theorem Ez {ks xs : List Nat} {k : Nat} (h : k ∈ ks ∨ k ∈ xs) : k ∈ pZ ks xs := by
 induction xs generalizing ks with
 | nil => simpa [pZ] using h
 | cons x xs ih =>
   simp only [pZ]
   split
   · rename_i hc;refine ih ?_;rcases h with h | h
     · exact .inl h
     · rcases List.mem_cons.1 h with rfl | h
       · exact .inl (by simpa using hc)
       · exact .inr h
   · refine ih ?_;rcases h with h | h
     · exact .inl (List.mem_append_left _ h)
     · rcases List.mem_cons.1 h with rfl | h
       · exact .inl (List.mem_append_right _ List.mem_cons_self)
       · exact .inr h
theorem K4 {cs : List C} {c : C} {k : Nat} (hc : c ∈ cs) (hk : k ∈ c.nm) : k ∈ uY cs := by
 induction cs with
 | nil => cases hc
 | cons x cs ih =>
   simp only [uY, List.mem_append];cases hc with
   | head => exact .inl hk
   | tail _ hc => exact .inr (ih hc)
section
variable {H H1 : Hp} {ρ ρ1 : aL} {D D1 : Nat → Prop} {ks : List Nat}
theorem RC.hand (jl : ∀ k, k ∈ ks → D1 (place ks k) ∧ (ρ1 (place ks k)).1 = (ρ k).1) {c : C} {v : Value} (h : RC H ρ D c v) (hp : c.pass = true) (hn : ∀ k ∈ c.nm, k ∈ ks) : RC H1 ρ1 D1 (c.c_ (place ks)) v := by
 cases c with
 | own k =>
   obtain ⟨_, h1⟩ := h;have := jl k (hn k (by simp [C.nm]));exact ⟨this.1, by rw [this.2]; exact h1⟩
 | ptr k off =>
   obtain ⟨_, b, h1, h2⟩ := h;have := jl k (hn k (by simp [C.nm]));exact ⟨this.1, b, by rw [this.2]; exact h1, h2⟩
 | lf l => cases l <;> first | exact (RC.cl (H' := H1) (ρ := ρ1) (D := D1) (c := .lf _) (by first | exact h) rfl) | exact (by cases hp)
 | bl b => exact h
 | nil => exact h
 | undef => trivial
 | el E x off => cases hp
 | b0 ls off => cases hp
 | fj k E i off => cases hp
 | fn f l => cases hp
theorem RV.hand (jl : ∀ k, k ∈ ks → D1 (place ks k) ∧ (ρ1 (place ks k)).1 = (ρ k).1) {c : V} {v : Value} (h : RV H ρ D c v) (hp : c.pass = true) (hn : ∀ k ∈ c.nm, k ∈ ks) : RV H1 ρ1 D1 (c.c_ (place ks)) v := by
 cases c with
 | c x => exact RC.hand jl h hp hn
 | agg cs =>
   obtain ⟨vs, h1, h2⟩ := h;refine ⟨vs, h1, by rw [sx]; exact h2.1, fun j c hj => ?_⟩;obtain ⟨c0, hG, rfl⟩ := sw hj;exact RC.hand jl (h2.2 j c0 hG) (List.all_eq_true.1 hp c0 (List.mem_of_getElem? hG)) fun k hk => hn k (K4 (List.mem_of_getElem? hG) hk)
 | aT cs => cases hp
theorem sU {tab : bj} {bs : List (Nat × ar)} : ∀ {vs : List V} {ms : List Bool} {Ts : List TypeId}, (iB tab bs ks ms Ts vs).length = vs.length
 | [], ms, Ts => by cases ms <;> simp [iB]
 | v :: vs, ms, Ts => by
   rcases ms with _ | ⟨m, ms⟩
   · cases Ts <;> simp [iB, sU (vs := vs)]
   · cases m <;> cases Ts <;> simp [iB, sU (vs := vs)]
def Ay (tab : bj) (bs : List (Nat × ar)) (x : V) : List TypeId → V
 | T :: _ => xq tab bs T x
 | [] => .c .undef
theorem EA {w : World} {tab : bj} {bs : List (Nat × ar)} (L : xr w H H1 ρ D bs) (jl : ∀ k, k ∈ ks → D1 (place ks k) ∧ (ρ1 (place ks k)).1 = (ρ k).1) :
   ∀ {vs : List V} {ms : List Bool} {Ts : List TypeId} {us : List Value}, (∀ (j : Nat) c v, vs[j]? = some c → us[j]? = some v → RV H ρ D c v) → oM bs ms vs = true → (∀ k ∈ lN ms vs, k ∈ ks) → vs.length = us.length →
   ∀ (j : Nat) c v, (iB tab bs ks ms Ts vs)[j]? = some c → us[j]? = some v → RV H1 ρ1 D1 c v
 | [], ms, Ts, us, _, _, _, _, j, c, v, h, _ => by rcases ms with _ | ⟨m, ms⟩ <;> simp [iB] at h
 | x :: vs, ms, Ts, [], _, _, _, hl, _, _, _, _, _ => by simp at hl
 | x :: vs, ms, Ts, u :: us, hv, ho, hn, hl, j, c, v, h, h' => by
   have rest : ∀ {ms' : List Bool} {Ts' : List TypeId}, oM bs ms' vs = true → (∀ k ∈ lN ms' vs, k ∈ ks) → ∀ (j : Nat) c v, (iB tab bs ks ms' Ts' vs)[j]? = some c → us[j]? = some v → RV H1 ρ1 D1 c v := fun g1 g2 =>
     EA L jl (fun j c v q1 q2 => hv (j + 1) c v (by simpa using q1) (by simpa using q2)) g1 g2 (by simpa using hl)
   have ro : ∀ {ms' : List Bool}, x.oJ bs = true → oM bs ms' vs = true → (∀ k ∈ lN ms' vs, k ∈ ks) → iB tab bs ks ms Ts (x :: vs) = Ay tab bs x Ts :: iB tab bs ks ms' Ts.tail vs → RV H1 ρ1 D1 c v := by
     intro ms' g1 g2 g3 ge;rw [ge] at h;cases j with
     | zero =>
       simp only [List.getElem?_cons_zero, Option.some.injEq] at h h';subst h; subst h';cases Ts with
       | nil => trivial
       | cons T Ts => exact Es L (hv 0 x u rfl rfl) g1
     | succ j => exact rest g2 g3 j c v (by simpa using h) (by simpa using h')
   rcases ms with _ | ⟨m, ms⟩
   · simp only [oM, Bool.and_eq_true] at ho;refine ro (ms' := []) ho.1 ho.2 (fun k hk => by cases vs <;> simp [lN] at hk) ?_;cases Ts <;> simp [iB, Ay]
   · cases m with
     | false =>
       simp only [oM, Bool.and_eq_true, List.tail_cons] at ho;refine ro (ms' := ms) ho.1 ho.2 (fun k hk => hn k (by simpa [lN] using hk)) ?_;cases Ts <;> simp [iB, Ay]
     | true =>
       simp only [oM, Bool.and_eq_true] at ho;cases j with
       | zero =>
         simp only [iB, List.getElem?_cons_zero, Option.some.injEq] at h h';subst h; subst h';exact RV.hand jl (hv 0 x u rfl rfl) ho.1 fun k hk => hn k (by simp [lN, hk])
       | succ j => exact rest (ms' := ms) (Ts' := Ts.tail) ho.2 (fun k hk => hn k (by simp [lN, hk])) j c v (by simpa [iB] using h) (by simpa using h')
end
theorem EB {m : Nat → Nat} : ∀ {l : List (Nat × ar)}, (l.map (·.1)).Nodup → (∀ p ∈ l, ∀ q ∈ l, m p.1 = m q.1 → p.1 = q.1) → (l.map fun p => m p.1).Nodup
 | [], _, _ => by simp
 | p :: l, hn, hi => by
   simp only [List.map_cons, List.nodup_cons] at hn ⊢;refine ⟨fun hm => ?_, EB hn.2 fun a ha b hb => hi a (List.mem_cons_of_mem _ ha) b (List.mem_cons_of_mem _ hb)⟩;obtain ⟨q, hq, he⟩ := List.mem_map.1 hm;refine hn.1 (List.mem_map.2 ⟨q, hq, ?_⟩);exact hi q (List.mem_cons_of_mem _ hq) p List.mem_cons_self he
section
variable {P : Program} {tab : bj} {Γ : Ctx} {H : Hp} {ρ : aL} {σ : SS} {a : Act} {w : World} (r : aM Γ H ρ σ a w)
include r
theorem K5 (bN : Γ.hd = []) {o : Oper} {f : FuncId} {l : List Cp} {ms : List Bool} {c : Call} {d : Nat} {K : SS → Prop} {Q : Exit → Act → World → Prop} (hc : g_ σ o = some (.c (.fn f l), c)) (hd : o.dst = some d) (h : At P tab σ f l ms c d K) :
   o.wp P a w (fun a' w' => ∃ aD, K aD ∧ ∃ ρ', aM Γ H ρ' aD a' w') Q := by
 unfold At at h;generalize jl : kW σ.ai ms (c.args.toList.map σ.ev) = ks at h
 split at h
 · rename_i nb zz
   split at h
   · rename_i qR;obtain ⟨hC, Rg, xt, Aq, zp, du⟩ := qR;obtain ⟨hlen, eJ⟩ := Ey zz
     have K6 : ∀ k ∈ lN ms (c.args.toList.map σ.ev), k ∈ ks := fun k hk => by
       rw [← jl]; exact Ez (.inl (Ez (.inr hk)))
     let lQ : aL := fun j => ρ (ks.getD j 0)
     have xu : ∀ (j k : Nat), ks[j]? = some k → lQ (0 + j) = ρ k := fun j k hj => by
       simp only [lQ, Nat.zero_add, List.getD_eq_getElem?_getD, hj, Option.getD_some]
     have EC : ∀ k ∈ ks, ∃ A, aQ σ.ai k = some A ∧ ((∃ E xs, A = .own E xs false) ∨ (∃ cs, A = .box cs) ∨ ∃ E xs, A = .view E xs) := fun k hk => by
       obtain ⟨j, hj, oy⟩ := List.getElem_of_mem hk;obtain ⟨B, hB⟩ : ∃ B, nb[j]? = some B := ⟨_, List.getElem?_eq_getElem (by omega)⟩;obtain ⟨k', A, h1, h2, h3⟩ := eJ j B hB;rw [List.getElem?_eq_getElem hj, oy] at h1;cases h1;refine ⟨A, h2, ?_⟩;rcases Ax h3 with ⟨E, xs, rfl, _⟩ | ⟨cs, rfl, _⟩ | ⟨E, xs, rfl, _⟩
       · exact .inl ⟨E, xs, rfl⟩
       · exact .inr (.inl ⟨cs, rfl⟩)
       · exact .inr (.inr ⟨E, xs, rfl⟩)
     have iN : ∀ k ∈ ks, ax σ.ai k := fun k hk => by obtain ⟨A, h1, _⟩ := EC k hk; exact fN h1
     have K7 : ∀ k ∈ ks, ∀ x, 0 < (ρ k).2 x → H x = none := fun k hk x hx => by
       obtain ⟨A, h1, h2⟩ := EC k hk;rcases h2 with ⟨E, xs, rfl⟩ | ⟨cs, rfl⟩ | ⟨E, xs, rfl⟩
       · exact r.b.gY k _ (di h1) x hx
       · exact r.b.gY k _ (di h1) x hx
       · rw [(r.b.ai k _ (di h1)).2] at hx; simp at hx
     have ED : ∀ x, 0 < bP ρ ks x → H x = none := fun x hx => by
       obtain ⟨k, hk, h1⟩ := xe hx;exact K7 k hk x h1
     have Az : ∀ x, aS lQ (num 0 nb) x = bP ρ ks x := fun x => zx hlen xu
     have EE : ∀ k ∈ ks, ax (num 0 nb) (place ks k) ∧ (lQ (place ks k)).1 = (ρ k).1 := fun k hk => by
       have h1 := zy hk;refine ⟨nr.2 ⟨Nat.zero_le _, by rw [Nat.zero_add, hlen]; exact bK h1⟩, ?_⟩;have := xu _ _ h1;rw [Nat.zero_add] at this;rw [this]
     let H1 : Hp := fD w (aS lQ (num 0 nb))
     have xv : ∀ x, bP ρ ks x = 0 → H1 x = w.heap[x]? := fun x hx => by
       simp only [H1, fD, Az, hx, if_true]
     have EF : ∀ x o, H1 x = some o → w.heap[x]? = some o ∧ bP ρ ks x = 0 := fun x o hx => by
       simp only [H1, fD, Az] at hx
       split at hx
       · rename_i h0; exact ⟨hx, h0⟩
       · cases hx
     have AA : ∀ b o, H b = some o → H1 b = some o := fun b o hb => by
       rw [xv b ?_]
       · exact r.b.hh b o hb
       · rcases Nat.eq_zero_or_pos (bP ρ ks b) with h0 | h0
         · exact h0
         · rw [ED b h0] at hb; cases hb
     have EG : xr w H H1 ρ (ax σ.ai) (lO ks σ.ai) := ⟨AA, fun k B hk => by
       obtain ⟨h1, h2⟩ := KY hk;refine ⟨r.b.ai k B (di h1), fun x hx => xv x ?_⟩;have h3 := my (ρ := ρ) (k :: ks) (bs := σ.ai) (by simp [eB, h2, xt]) (fun j hj => by rcases List.mem_cons.1 hj with rfl | hj; exact fN h1; exact iN j hj) x;have h4 := r.b.sum x;simp only [bP] at h3;omega⟩
     have K8 : fM w.heap H1 H1 lQ (num 0 nb) := by
       have dS : ∀ j B, (j, B) ∈ num 0 nb → ∃ k A, ks[j]? = some k ∧ aQ σ.ai k = some A ∧ sS ks (some A) = some B ∧ lQ j = ρ k := fun j B hj => by
         obtain ⟨_, h1⟩ := pG.1 hj;obtain ⟨k, A, h2, h3, h4⟩ := eJ j B (by simpa using h1);exact ⟨k, A, h2, h3, h4, by have := xu j k h2; rwa [Nat.zero_add] at this⟩
       have EH : ∀ j B x, (j, B) ∈ num 0 nb → 0 < (lQ j).2 x → H1 x = none := fun j B x hj hx => by
         have h1 := mo (ρ := lQ) hj x;simp only [H1, fD];rw [if_neg (by omega)]
       refine ⟨fun j hj => ?_, zw, fun _ _ h => h, fun b o hb => (EF b o hb).1, fun j B hj => ?_, fun x => ?_, fun j B hj x hx => EH j B x hj hx, fun j B hj x hx => EH j B x hj ?_⟩
       · obtain ⟨⟨j', B⟩, uD, rfl⟩ := List.mem_map.1 hj;obtain ⟨k, A, _, h2, _, h4⟩ := dS j' B uD;simp only;rw [h4]; exact r.b.oc k (fN h2)
       · obtain ⟨k, A, h1, h2, h3, h4⟩ := dS j B hj;have hA := r.b.ai k A (di h2);rw [h4];rcases Ax h3 with ⟨E, xs, rfl, rfl⟩ | ⟨cs, rfl, dA, rfl⟩ | ⟨E, xs, rfl, rfl⟩;rotate_right
         · exact ⟨hA.1.mono AA, hA.2⟩
         · exact hA
         · obtain ⟨b, vs, e, fz, e1, e2, e3, e4, e5⟩ := hA;refine ⟨b, vs, e, fz, e1, e2, e3, e4, by rw [sx]; exact e5.1, fun q cq hq => ?_⟩;obtain ⟨c0, hG, rfl⟩ := sw hq;have hb := List.all_eq_true.1 dA c0 (List.mem_of_getElem? hG);have K9 := e5.2 q c0 hG;refine RC.hand (fun k hk => EE k hk) K9 ?_ ?_
           · cases c0 <;> first | rfl | exact hb | exact (by cases hb)
           · intro k hk;cases c0 with
             | own k' =>
               simp only [C.nm, List.mem_singleton] at hk;subst hk;simpa [C.box] using hb
             | ptr k' off => cases hb
             | _ => simp [C.nm] at hk
       · rw [Az];exact Nat.le_trans (my ks xt iN x) (r.b.sum x)
       · obtain ⟨k, A, h1, h2, h3, h4⟩ := dS j B hj;rcases Ax h3 with ⟨E, xs, rfl, rfl⟩ | ⟨cs, rfl, dA, rfl⟩ | ⟨E, xs, rfl, rfl⟩
         · exact hx
         · exact hx
         · exact hx.elim
     unfold g_ at hc
     split at hc
     · rename_i c0 aZ
       split at hc
       · rename_i x fu;simp only [Option.some.injEq, Prod.mk.injEq] at hc;obtain ⟨hx, rfl⟩ := hc;obtain ⟨post, ⟨⟨fn, oK, lM, As⟩, hs⟩, hk⟩ := h;have ev := j_ r.e x;rw [hx] at ev;obtain ⟨vs, e1, e2, e3⟩ := ev
         have cI : (execOp a.eval o).run P w = .ok (.enter f (c0.args.map a.eval ++ vs)) w := by
           simp only [execOp, aZ, resolve, fu, Deferred.ofValue, e1, Sem.run_bind, Sem.run_pure, Result.andThen_ok, invoke, callFunc, run_program, oK, lM, As];simp
         have dO : args H1 lQ (ax (num 0 nb)) (iB tab (lO ks σ.ai) ks ms c0.argTypes.toList (c0.args.toList.map σ.ev) ++ l.map (sP (lO ks σ.ai))) (c0.args.map a.eval ++ vs) := by
           refine ⟨by simp [sU, e2], fun j cv hj => ?_⟩;rw [Array.getD_eq_getD_getElem?]
           by_cases aR : j < c0.args.size
           · rw [List.getElem?_append_left (by simpa [sU] using aR)] at hj;rw [Array.getElem?_append_left (by simpa using aR)];have h1 : (c0.args.map a.eval).toList[j]? = some (a.eval c0.args[j]) := by simp [aR]
             have h2 := EA EG EE (uu r c0.args) du K6 (by simp) j cv _ hj h1;simpa [aR] using h2
           · rw [List.getElem?_append_right (by simpa [sU] using Nat.le_of_not_lt aR)] at hj;rw [Array.getElem?_append_right (by simpa using Nat.le_of_not_lt aR)];simp only [sU, List.length_map, Array.length_toList, Array.size_map, List.getElem?_map, Option.map_eq_some_iff] at hj ⊢;obtain ⟨c1, h1, rfl⟩ := hj;have h2 := e3 _ c1 h1;have h3 := List.all_eq_true.1 Aq c1 (List.mem_of_getElem? h1);rw [← Array.getD_eq_getD_getElem?];exact Et EG h2 h3
         unfold Oper.wp;rw [cI];simp only [Oper.upon];refine (hs w _ lQ K8 dO).mono fun e w' he => ?_;obtain ⟨v, rv, cf, H', ρ2, rfl, hp, hB, hv, K_, La⟩ := he;obtain ⟨⟨EI, fc⟩, hK⟩ := hk rv cf hp;have Lb : ∀ x o, H1 x = some o → w'.heap[x]? = some o := fun x o hx => hB.hh x o (hB.h0 x o hx)
         have oL : ∀ x, x < w.heap.size → bP ρ ks x = 0 → w'.heap[x]? = w.heap[x]? := fun x hx h0 => by
           rw [Array.getElem?_eq_getElem hx];exact Lb x _ (by rw [xv x h0, Array.getElem?_eq_getElem hx])
         have EJ := fun x => uK (ρ := ρ) (x := x) r.b.nd xt iN;have r1 := r.fl iN
         have r2 := r1.move (w' := w') (fun b o hb => by
             have h0 := (EF b o (AA b o hb)).2;exact oL b (jJ (r.b.hh b o hb)) h0) (fun b hb => by
             have h1 := EJ b;have h2 := r.b.sum b;have fy : 0 < aS (ij ρ ks) (Go.Proofs.YticeaiiffeccmaaGreat.fl σ.ai ks) b := hb;exact oL b (r.lt (by omega)) (by omega)) K_
         have p6 : ∀ j, j < nb.length → ju ks d j ∈ ks ∧ ks[j]? = some (ju ks d j) := fun j hj => by
           have h1 : ks[j]? = some ks[j] := List.getElem?_eq_getElem (by omega)
           have h2 : ju ks d j = ks[j] := by
             simp only [ju];rw [if_pos (by omega), List.getD_eq_getElem?_getD, h1, Option.getD_some]
           exact ⟨by rw [h2]; exact List.getElem_mem _, by rw [h2]; exact h1⟩
         have eM : ∀ j, j < nb.length → ax cf j → (ρ2 j).1 = (ij ρ ks (ju ks d j)).1 := fun j hj hD => by
           rw [nt, La j hD (nr.2 ⟨Nat.zero_le _, by omega⟩)];have := xu j _ (p6 j hj).2;rw [Nat.zero_add] at this;rw [this]
         have sa : ∀ j B, (j, B) ∈ cf → j < nb.length ∨ (100 ≤ j ∧ j < 108) := fun j B hj => by
           have := List.all_eq_true.1 EI _ hj;simp only [u3, Bool.and_eq_true, Bool.or_eq_true, decide_eq_true_eq] at this;exact this.1
         have eO : ∀ i, i < 8 → aQ σ.ai (8 * d + i) = none := fun i hi => by
           have : ∀ bs : List (Nat × ar), sQ bs d = true → aQ bs (8 * d + i) = none := by
             intro bs
             induction bs with
             | nil => intro _; rfl
             | cons p bs ih =>
               intro uX;simp only [sQ, List.all_cons, Bool.and_eq_true, Bool.or_eq_true, decide_eq_true_eq] at uX;simp only [aQ];rw [if_neg (by omega)];exact ih uX.2
           exact this _ hC
         have sV : ∀ j, 100 ≤ j → j < 108 → ju ks d j = 8 * d + (j - 100) ∧ aQ σ.ai (ju ks d j) = none := fun j h1 h2 => by
           have : ju ks d j = 8 * d + (j - 100) := by simp only [ju]; rw [if_neg (by omega)]
           exact ⟨this, by rw [this]; exact eO _ (by omega)⟩
         have Lc : ∀ j1 B1 j2 B2, (j1, B1) ∈ cf → (j2, B2) ∈ cf → ju ks d j1 = ju ks d j2 → j1 = j2 := fun j1 B1 j2 B2 h1 h2 he => by
           rcases sa j1 B1 h1 with k1 | ⟨k1, sW⟩ <;> rcases sa j2 B2 h2 with k2 | ⟨k2, EK⟩
           · have q1 := (p6 j1 k1).2;have q2 := (p6 j2 k2).2;rw [← he] at q2;have iL := KZ xt;exact (List.getElem?_inj (i := j1) (j := j2) (by omega) iL).1 (q1.trans q2.symm)
           · have q1 := iN _ (p6 j1 k1).1;have q2 := (sV j2 k2 EK).2;rw [← he] at q2;exact (jm q2 q1).elim
           · have q1 := iN _ (p6 j2 k2).1;have q2 := (sV j1 k1 sW).2;rw [he] at q2;exact (jm q2 q1).elim
           · rw [(sV j1 k1 sW).1, (sV j2 k2 EK).1] at he;omega
         obtain ⟨ρ', r3, g1, g2, g3⟩ := aM.Aw bN (m := ju ks d) (n := nb.length) (H' := H') (ρ2 := ρ2) (D2 := ax cf) cf r2 EI
           (fun j B hj => by
             refine ⟨hB.ai j B hj, hB.oc j (qX hj), ?_⟩;rcases sa j B hj with k1 | ⟨k1, sW⟩
             · exact .inr ⟨Ex (iN _ (p6 j k1).1) (.inl (p6 j k1).1), eM j k1 (qX hj)⟩
             · exact .inl (zL (sV j k1 sW).2))
           (fun j B hj x hx => by
             have h1 := hB.fresh j B hj x hx;have h2 := EJ x;have h3 := r.b.sum x;rcases Nat.lt_or_ge x w.heap.size with h4 | h4
             · have h5 : 0 < bP ρ ks x := by
                rcases Nat.eq_zero_or_pos (bP ρ ks x) with h0 | h0
                · rw [show fD w (aS lQ (num 0 nb)) x = H1 x from rfl, xv x h0, Array.getElem?_eq_getElem h4] at h1;cases h1
                · exact h0
               exact ⟨ED x h5, by show aS (ij ρ ks) (Go.Proofs.YticeaiiffeccmaaGreat.fl σ.ai ks) x = 0; omega⟩
             · have h5 := r.su h4;exact ⟨h5.1, by show aS (ij ρ ks) (Go.Proofs.YticeaiiffeccmaaGreat.fl σ.ai ks) x = 0; omega⟩)
           hB.sum
           (EB hB.nd fun p hp q hq he => Lc p.1 p.2 q.1 q.2 hp hq he)
           (fun j hj hD => ⟨uJ.2 (iN _ (p6 j hj).1), eM j hj hD⟩) (fun j B hj => qX hj)
         have xj : ∀ k ∈ ks, (ρ' k).1 = (ρ k).1 := fun k hk => by
           by_cases hm : k ∈ cf.map fun p => ju ks d p.1
           · obtain ⟨⟨j, B⟩, hj, rfl⟩ := List.mem_map.1 hm;rw [(g3 j B hj).2];rcases sa j B hj with k1 | ⟨k1, sW⟩
             · rw [eM j k1 (qX hj), nt]
             · exact (jm (sV j k1 sW).2 (iN _ hk)).elim
           · rw [g2 k hm, nt]
         obtain ⟨r4, g4⟩ := aM.kX ks r3 fun k hk E xs hg => by
           rw [xj k hk];exact (r.b.ai k _ (di hg)).1
         refine ⟨_, hK, ρ', ?_⟩;rw [hd];refine aM.put r4 (RV.c_ (m := ju ks d) (D := ax cf) (ρ := ρ2) (fun i hi => ?_) (hv.grow (H' := H) (ρ' := ρ2) (D' := ax cf) ⟨(fun _ _ h => by cases h), (fun _ h => ⟨h, rfl⟩)⟩)) (some d);obtain ⟨⟨i', B⟩, Ld, rfl⟩ := List.mem_map.1 hi;obtain ⟨q1, q2⟩ := g3 i' B Ld;exact ⟨by show ax (Go.Proofs.YticeaiiffeccmaaGreat.kX _ _ _) _; rw [g4]; exact q1, by rw [q2]⟩
       · cases hc
     · cases hc
   · cases h
 · cases h
theorem Le {o : Oper} (Lg : gG tab o = true → Γ.hd = []) {v : V} {c : Call} {K : SS → Prop} {Q : Exit → Act → World → Prop} (hc : g_ σ o = some (v, c)) (h : Au P tab σ v c o.dst K) :
   o.wp P a w (fun a' w' => ∃ aD, K aD ∧ pK Γ H (gG tab o) w aD a' w') Q := by
 generalize EL : o.dst = dst at h;unfold Au at h
 split at h
 · rename_i f l d
   split at h
   · rename_i ms Lh
     have hw : gG tab o = true := by
      unfold g_ at hc;unfold gG
      split at hc
      · rename_i c0 aZ
        split at hc
        · rename_i x fu;simp only [Option.some.injEq, Prod.mk.injEq] at hc;obtain ⟨hx, rfl⟩ := hc;rw [aZ];simp only [fu]
          split
          · cases ‹Callee.value x = _›
          · rename_i g heq;cases heq;simp only [SS.ev, V.c.injEq, C.fn.injEq] at hx;rw [hx.1, Lh]; rfl
          · rfl
        · cases hc
      · cases hc
     exact Oper.wp_mono (fun a' w' ⟨aD, h1, ρ', h2⟩ => ⟨aD, h1, ⟨ρ', h2⟩, fun hh => by rw [hw] at hh; cases hh⟩) (K5 r (Lg hw) hc EL h)
   · exact KW r hc (by rw [EL]; exact h)
 · cases h
end
def xw : V → Bool
 | .c (.own _) => true
 | _ => false
def AB : V → Bool
 | .c (.fj _ _ _ _) => true
 | _ => false
def lS (tab : bj) (σ : SS) (o : Oper) : Bool :=
 match o.op with
 | .load T x => AB (σ.ev x) && xa tab T
 | .box _ _ | .alloc _ | .buildSlice _ _ _ | .store _ _ _ | .makeSlice _ _ _ => true
 | .slice _ x _ _ _ => xw (σ.ev x)
 | .convert _ _ x => xw (σ.ev x)
 | .makeMap _ _ | .lookup _ _ _ _ | .mapUpdate _ _ _ _ => true
 | .call c => match c.callee with | .builtin .append => true | .builtin .copy => true | .builtin .clear => true | .builtin .len => (match c.argTypes.toList with | [T] => (match cR tab T with | some (.mp _ _) => true | _ => false) | _ => false) | _ => false
 | _ => false
def iP (P : Program) (tab : bj) (o : Oper) (σ : SS) (K : SS → Prop) : Prop :=
 match g_ σ o with
 | some (v, c) => Au P tab σ v c o.dst K
 | none => if lS tab σ o then sN tab o σ K else zl tab o σ fun v => K (σ.put o.dst v)
def oO : V := .aT []
def SS.gH (σ : SS) (d : Nat) (v : V) : SS := { σ with env := σ.env.set d v }
def xx (all : List Oper) (j : Nat) : Option Nat := (all[j]?).bind (·.dst)
def nD (P : Program) (tab : bj) (all : List Oper) : List Oper → SS → (SS → Prop) → Prop
 | [], σ, K => K σ
 | o :: rest, σ, K =>
   match o.guard with
   | none => iP P tab o σ fun aD => nD P tab all rest aD K
   | some (j, want) =>
     match xx all j with
     | some d =>
       match σ.env.getD d (.c .undef) with
       | .c (.bl b) => if b = want then iP P tab o σ fun aD => nD P tab all rest aD K else nD P tab all rest (σ.put o.dst oO) K
       | .aT [] => nD P tab all rest (σ.put o.dst oO) K
       | .c (.lf (.bool t)) => Br t fun b =>
        if b = want then iP P tab o (σ.gH d (.c (.bl b))) fun aD => nD P tab all rest aD K else nD P tab all rest ((σ.gH d (.c (.bl b))).put o.dst oO) K
       | _ => False
     | none => False
inductive p7 where
 | env (slot : Nat) (E : av) (key : Nat)
 | box (bk cell : Nat) (E : av) (key : Nat)
def EM : V → Bool
 | .c .nil => true
 | _ => false
def EN : C → Bool
 | .nil => true
 | _ => false
def SS.sX (σ : SS) : p7 → Option SS
 | .env s E k =>
   match σ.env[s]?, aQ σ.ai k with
   | some v, none => if EM v then some { env := σ.env.set s (.c (.own k)), ai := dj σ.ai k (.own E (fun _ => []) false) } else none
   | _, _ => none
 | .box bk c E k =>
   match aQ σ.ai bk, aQ σ.ai k with
   | some (.box cs), none =>
     match cs[c]? with
     | some x => if EN x then some { σ with ai := cd (dj σ.ai k (.own E (fun _ => []) false)) bk (.box (cs.set c (.own k))) } else none
     | none => none
   | _, _ => none
def SS.oP (σ : SS) : List p7 → Option SS
 | [] => some σ
 | m :: ms => match σ.sX m with | some aD => aD.oP ms | none => none
def lk : List (Nat × Nat) → Nat → Option Nat
 | [], _ => none
 | p :: r, k => if p.1 = k then some p.2 else lk r k
def Cp.rd : Cp → Bool
 | .ptr _ _ => false
 | _ => true
def C.dP (m : List (Nat × Nat)) : C → C
 | .own k => match lk m k with | some k' => .own k' | none => .undef
 | .ptr k off => match lk m k with | some k' => .ptr k' off | none => .undef
 | .fj k E i off => match lk m k with | some k' => .fj k' E i off | none => .undef
 | .fn f l => if l.all Cp.rd = true then .fn f l else .undef
 | c => c
def lU (m : List (Nat × Nat)) : List C → List C
 | [] => []
 | c :: cs => c.dP m :: lU m cs
def V.dP (m : List (Nat × Nat)) : V → V
 | .c x => .c (x.dP m)
 | .agg cs => .agg (lU m cs)
 | .aT [] => .aT []
 | .aT _ => .c .undef
def lV (m : List (Nat × Nat)) : List (Option Nat) → List (Option Nat)
 | [] => []
 | none :: fs => none :: lV m fs
 | some k :: fs => lk m k :: lV m fs
def nE (m : List (Nat × Nat)) : List (Option Nat) → Bool
 | [] => true
 | none :: fs => nE m fs
 | some k :: fs => match lk m k with | some _ => nE m fs | none => false
def EO : List (Option Nat) → Bool
 | [] => false
 | none :: fs => EO fs
 | some _ :: _ => true
def ar.dP (m : List (Nat × Nat)) : ar → ar
 | .box cs => .box (lU m cs)
 | .ca E xs i fs => .ca E xs i (lV m fs)
 | B => B
def ar.xy (m : List (Nat × Nat)) : ar → Bool
 | .ca _ _ _ fs => !nE m fs
 | _ => false
def oQ (L : List Nat) (m : List (Nat × Nat)) : Nat → List V → List V
 | _, [] => []
 | j, v :: vs => (if L.contains j then v.dP m else .c .undef) :: oQ L m (j + 1) vs
def nF (bs : List (Nat × ar)) (m : List (Nat × Nat)) : List (Nat × Nat) → Option (List (Nat × ar))
 | [] => some []
 | p :: r => match aQ bs p.1, nF bs m r with | some B, some l => if B.xy m = true then none else some ((p.2, B.dP m) :: l) | _, _ => none
structure Norm where
 ms : List p7
 L : List Nat
 nm : List (Nat × Nat)
def lW (bs : List (Nat × ar)) (k : Nat) : List (Nat × ar) :=
 match aQ bs k with
 | some (.ca _ _ _ _) => (match sJ bs k with | some cf => cf | none => bs)
 | _ => bs
def closeAll : List Nat → List (Nat × ar) → List (Nat × ar)
 | [], bs => bs
 | k :: ks, bs => closeAll ks (lW bs k)
def Li (m : List (Nat × Nat)) (bs : List (Nat × ar)) (k : Nat) : Bool :=
 match aQ bs k with
 | some (.ca _ _ _ fs) => EO fs && nE m fs && (match lk m k with | some _ => true | none => false)
 | _ => false
def nG (m : List (Nat × Nat)) : List Nat → List (Nat × ar) → List (Nat × ar)
 | [], bs => bs
 | k :: ks, bs => match Li m bs k with
   | true => nG m ks bs
   | false => nG m ks (lW bs k)
def xz (m : List (Nat × Nat)) : List Nat → Bool
 | [] => true
 | k :: ks => (match lk m k with | some k' => k' == k | none => false) && xz m ks
def SS.norm (σ : SS) (pk : List Nat) (N : Norm) : Option SS :=
 match σ.oP N.ms with
 | some aD =>
   match nF (nG N.nm (aD.ai.map (·.1)) aD.ai) N.nm N.nm with
   | some bs => if eB (N.nm.map (·.1)) = true ∧ eB (N.nm.map (·.2)) = true ∧ xz N.nm pk = true then some { env := oQ N.L N.nm 0 aD.env, ai := bs } else none
   | none => none
 | none => none
def Sub (pk : List Nat) (σ τ : SS) : Prop := ∀ (Γ : Ctx) (a : Act) (w : World), Γ.hd = [] → (∀ p ∈ Γ.hm, p.1 ∈ pk) → Rel Γ σ a w → Rel Γ τ a w
inductive aP (pk : List Nat) (X : Type) (st : X → SS) (φ : X → Prop) (m : X → Unit → Nat) (n : Unit → Nat) (σ : SS) : Prop where
 | mk (x : X) (hm : m x () < n ()) (EP : φ x) (hs : Sub pk σ (st x))
inductive aU (pk : List Nat) (σ : SS) (R : SS → (SS → Prop) → Prop) : Prop where
 | mk (X : Type) (st : X → SS) (φ : X → Prop) (m : X → Unit → Nat) (x0 : X) (h0 : φ x0) (hs : Sub pk σ (st x0)) (hr : ∀ x, φ x → R (st x) fun aD => aP pk X st φ m (m x) aD)
def kY (P : Program) (tab : bj) (all : List Oper) (o : Oper) (σ : SS) (K : SS → Prop) : Prop :=
 match o.guard with
 | none => iP P tab o σ K
 | some (j, want) =>
   match xx all j with
   | some d =>
     match σ.env.getD d (.c .undef) with
     | .c (.bl b) => if b = want then iP P tab o σ K else K (σ.put o.dst oO)
     | .aT [] => K (σ.put o.dst oO)
     | .c (.lf (.bool t)) => Br t fun b => if b = want then iP P tab o (σ.gH d (.c (.bl b))) K else K ((σ.gH d (.c (.bl b))).put o.dst oO)
     | _ => False
   | none => False
def oR (b : Bool) (pt rd : List Nat) : Bool :=
 match b with
 | true => rd.all pt.contains
 | false => rd.isEmpty
def AD : Option ar → Bool
 | some (.box _) => true
 | _ => false
def okW (tab : bj) (nm0 pt : List Nat) (σ : SS) (o : Oper) : Bool :=
 !gG tab o || ((g_ σ o).isNone && !lS tab σ o) ||
  (match o.op, o.dst, o.guard with
  | .store _ p _, none, none => (match σ.ev p with | .c (.ptr k _) => (nm0.contains k && !pt.contains k) || (!pt.contains k && pt.all fun j => AD (aQ σ.ai j)) | _ => false)
  | .call c, _, _ => (match c.callee, c.args.toList with
    | .builtin .append, [x, _] => (match σ.ev x with | .c .nil => true | .c (.own k) => !pt.contains k && pt.all fun j => AD (aQ σ.ai j) | _ => false)
    | _, _ => false)
  | _, _, _ => false)
def findD (t : Nat) : List Oper → Option Oper
 | [] => none
 | o :: os => match o.dst with
   | some d => (match Nat.beq d t with | true => some o | false => findD t os)
   | none => findD t os
def rh (tab : bj) (all : List Oper) (σ : SS) : Nat → Operand → V
 | 0, _ => .c .undef
 | n + 1, .tmp t => match findD t all with
   | some o => (match o.op with
     | .move x => rh tab all σ n x
     | .fieldAddr T x i => (match wV tab T i (rh tab all σ n x) with | some v => v | none => .c .undef)
     | .load T x => (match sg tab σ.ai T (rh tab all σ n x) with | some v => v | none => .c .undef)
     | .indexAddr _ x _ => (match rh tab all σ n x with | .c (.lf (.list E _)) => .c (.el E (fun _ => E.nh) 0) | _ => .c .undef)
     | .nilCheck x => rh tab all σ n x
     | _ => .c .undef)
   | none => σ.ev (.tmp t)
 | _, x => σ.ev x
def AE (all : List Oper) : Nat → Operand → Bool
 | 0, _ => false
 | n + 1, .tmp t => match findD t all with
   | some o => (match o.op with | .fieldAddr _ x _ => AE all n x | .nilCheck x => AE all n x | .alloc _ => true | .box _ _ => true | _ => false)
   | none => false
 | _, _ => false
def ER (all : List Oper) : Nat → Operand → Bool
 | 0, _ => false
 | _, .const _ => true
 | n + 1, .tmp t => match findD t all with
   | some o => (match o.op with
     | .buildSlice _ _ _ => true
     | .makeSlice _ _ _ => true
     | .call c => (match c.callee, c.args.toList with
       | .builtin .append, [x, _] => ER all n x
       | .builtin _, _ => false
       | _, _ => true)
     | _ => false)
   | none => false
 | _, _ => false
def nH (tab : bj) (all : List Oper) (σ : SS) : List Oper → Option (Bool × List Nat)
 | [] => some (false, [])
 | o :: os => match o.op, o.dst, o.guard with
   | .store _ p _, none, none => (match AE all 5 p with
     | true => (match nH tab all σ os with | some (_, l) => some (true, l) | none => none)
     | false => (match rh tab all σ 9 p, nH tab all σ os with | .c (.ptr k _), some (b, l) => some (b, k :: l) | _, _ => none))
   | .load T x, _, _ => (match xa tab T with
     | true => (match rh tab all σ 9 x with | .c (.ptr _ _) | .c (.el _ _ _) | .c (.b0 _ _) => nH tab all σ os | _ => none)
     | false => nH tab all σ os)
   | .call c, _, _ => (match c.callee with
     | .builtin .len | .builtin .max | .builtin .min => nH tab all σ os
     | .builtin .append => (match c.args.toList with
       | [x, _] => (match ER all 9 x with
         | true => (match nH tab all σ os with | some (_, l) => some (true, l) | none => none)
         | false => none)
       | _ => none)
     | _ => if gG tab o then none else nH tab all σ os)
   | _, _, _ => if gG tab o then none else nH tab all σ os
def sY (bs : List (Nat × ar)) : List Nat → List Nat
 | [] => []
 | k :: ks => if AD (aQ bs k) then k :: sY bs ks else sY bs ks
def p8 (l : List Nat) : List Nat → List Nat
 | [] => []
 | k :: ks => if l.contains k then p8 l ks else k :: p8 l ks
def ri (tab : bj) (b : Bool) (nm0 : List Nat) (σ : SS) (o : Oper) : Bool :=
 (g_ σ o).isNone && !lS tab σ o && oR b nm0 (pB o σ)
def AF : List Nat → (Nat → Prop) → Prop
 | [], _ => True
 | [i], p => p i
 | i :: j :: is, p => p i ∧ AF (j :: is) p
def sZ (tab : bj) (ops : Array Oper) (b : Bool) (nm0 : List Nat) (listed : Array Bool) (σ : SS) : List Nat → Option Nat
 | [] => none
 | i :: is => match ops[i]? with
   | some o => if (ri tab b nm0 σ o && Region.free .any ops listed i) = true then some i else sZ tab ops b nm0 listed σ is
   | none => sZ tab ops b nm0 listed σ is
inductive Pz (p : Unit → Prop) : Prop where
 | mk (h : p ())
def ES (b : Bool) (p : Unit → Prop) : Prop :=
 match b with
 | true => Pz p
 | false => p ()
theorem Lj {b : Bool} {p : Unit → Prop} (h : ES b p) : p () := by
 cases b with
 | true => exact h.1
 | false => exact h
def p9 (P : Program) (tab : bj) (ops : Array Oper) (b : Bool) (nm0 pt : List Nat) : Nat → Array Bool → SS → (SS → Prop) → Prop
 | 0, listed, σ, K => match Region.ready .any ops listed with | [] => K σ | _ => False
 | n + 1, listed, σ, K => ES (decide (30 < ops.size) && n % 4 == 0) fun _ =>
   match Region.ready .any ops listed with
   | [] => K σ
   | r :: rs =>
     match sZ tab ops b pt listed σ (r :: rs) with
     | some i => (match ops[i]? with | some o => kY P tab ops.toList o σ fun aD => p9 P tab ops b nm0 pt n (listed.setIfInBounds i true) aD K | none => False)
     | none => AF (r :: rs) fun i => match ops[i]? with
       | some o => if (!b || okW tab nm0 pt σ o) = true then kY P tab ops.toList o σ fun aD => p9 P tab ops b nm0 pt n (listed.setIfInBounds i true) aD K else False
       | none => False
def AG (P : Program) (tab : bj) (ops : Array Oper) (σ : SS) (K : SS → Prop) : Prop :=
 match nH tab ops.toList σ ops.toList with
 | some (nw, ws) => p9 P tab ops true (σ.ai.map (·.1)) (match nw with | true => sY σ.ai (p8 ws (σ.ai.map (·.1))) | false => p8 ws (σ.ai.map (·.1))) ops.size (Array.replicate ops.size false) σ K
 | none => p9 P tab ops false (σ.ai.map (·.1)) [] ops.size (Array.replicate ops.size false) σ K
def mF : List Bool → Nat → Bool
 | [], _ => false
 | b :: _, 0 => b
 | _ :: bs, n + 1 => mF bs n
def iC : List Bool → Nat → List Bool
 | [], _ => []
 | _ :: bs, 0 => true :: bs
 | b :: bs, n + 1 => b :: iC bs n
def ki : List Bool → Bool
 | [] => true
 | b :: bs => match b with | true => ki bs | false => false
def rj : List Oper → List Bool
 | [] => []
 | _ :: os => false :: rj os
def jO (l : List Bool) : List Edge → Bool
 | [] => true
 | e :: es => match Region.binds .any e with
   | true => (match mF l e.on with | true => jO l es | false => false)
   | false => jO l es
def mG (tab : bj) (b : Bool) (pt : List Nat) (l0 : List Bool) (σ : SS) : List Oper → List Bool → Nat → Option (Nat × Oper)
 | o :: os, l :: ls, i => match l with
   | true => mG tab b pt l0 σ os ls (i + 1)
   | false => match jO l0 o.after.toList with
     | true => (match ri tab b pt σ o with | true => some (i, o) | false => mG tab b pt l0 σ os ls (i + 1))
     | false => mG tab b pt l0 σ os ls (i + 1)
 | _, _, _ => none
def kj (l0 : List Bool) : List Oper → List Bool → Nat → List (Nat × Oper)
 | o :: os, l :: ls, i => match l with
   | true => kj l0 os ls (i + 1)
   | false => match jO l0 o.after.toList with
     | true => (i, o) :: kj l0 os ls (i + 1)
     | false => kj l0 os ls (i + 1)
 | _, _, _ => []
def xA : List (Nat × Oper) → (Nat → Oper → Prop) → Prop
 | [], _ => True
 | [p], q => q p.1 p.2
 | p :: r :: rs, q => q p.1 p.2 ∧ xA (r :: rs) q
structure Row where
 t : Bool
 i : Nat
 es : List Edge
 d : Option Nat
 v : V
 nw : List (Nat × ar)
 ch : List (Nat × ar)
 gone : List Nat
def AH (bs : List (Nat × ar)) : List (Nat × ar) → List (Nat × ar)
 | [] => []
 | p :: r => match aQ bs p.1 with
   | none => p :: AH bs r
   | some _ => AH bs r
def ET : Option ar → Bool
 | some .dead => true
 | _ => false
def xB (bs : List (Nat × ar)) : List (Nat × ar) → List Nat
 | [] => []
 | p :: r => match ET (some p.2) with
   | true => (match ET (aQ bs p.1) with | true => xB bs r | false => p.1 :: xB bs r)
   | false => xB bs r
def xC (bs : List (Nat × ar)) : List (Nat × ar) → List (Nat × ar)
 | [] => []
 | p :: r => match p.2 with
   | .ca _ _ _ _ => (match aQ bs p.1 with | some (.own _ _ _) => p :: xC bs r | _ => xC bs r)
   | _ => xC bs r
def rowOf (t : Bool) (i : Nat) (o : Oper) (σ aD : SS) : Row :=
 ⟨t, i, o.after.toList, o.dst, match o.dst with | some d => aD.env.getD d (.c .undef) | none => .c .undef, AH σ.ai aD.ai, xC σ.ai aD.ai, xB σ.ai aD.ai⟩
def EU : List (Nat × ar) → List (Nat × ar) → List (Nat × ar)
 | bs, [] => bs
 | bs, p :: r => EU (dj bs p.1 p.2) r
def EV : List (Nat × ar) → List (Nat × ar) → List (Nat × ar)
 | bs, [] => bs
 | bs, p :: r => EV (cd bs p.1 p.2) r
def u4 (l : List Bool) : List Row → SS → SS
 | [], σ => σ
 | r :: rs, σ => match mF l r.i with
   | true => u4 l rs { env := (σ.put r.d r.v).env, ai := fl (EV (EU σ.ai r.nw) r.ch) r.gone }
   | false => u4 l rs σ
def u5 (rows : List Row) (σ rk : SS) (l : List Bool) : SS :=
 match ki l with
 | true => rk
 | false => u4 l rows σ
def rm : List Bool → List Bool → Bool
 | [], [] => true
 | b :: bs, c :: cs => match b, c with
   | true, true => rm bs cs
   | false, false => rm bs cs
   | _, _ => false
 | _, _ => false
def oS : List Row → List Bool → List Bool → Bool
 | [], l, l' => rm l l'
 | r :: rs, l, l' => match jO l r.es with
   | false => oS rs l l'
   | true => match r.t with
     | true => oS rs (iC l r.i) l'
     | false => match mF l' r.i with
       | true => oS rs (iC l r.i) l'
       | false => oS rs l l'
def km : List Bool → Nat
 | [] => 0
 | b :: bs => match b with | true => km bs | false => km bs + 1
def u6 (P : Program) (tab : bj) (all : List Oper) (b : Bool) (pt : List Nat) : Nat → List Bool → SS → (List Bool → SS → Prop) → Prop
 | 0, l, σ, J => J l σ
 | n + 1, l, σ, J => match mG tab b pt l σ all l 0 with
   | some (i, o) => kY P tab all o σ fun aD => u6 P tab all b pt n (iC l i) aD J
   | none => J l σ
def s6 (P : Program) (tab : bj) (all : List Oper) (b : Bool) (pt : List Nat) : Nat → List Bool → SS → List Row → (List Row → SS → Prop) → Prop
 | 0, l, σ, rs, J => match ki l with
   | true => J rs σ
   | false => False
 | n + 1, l, σ, rs, J => match ki l with
   | true => J rs σ
   | false => match mG tab b pt l σ all l 0 with
     | some (i, o) => kY P tab all o σ fun aD => s6 P tab all b pt n (iC l i) aD (rs ++ [rowOf true i o σ aD]) J
     | none => match kj l all l 0 with
       | [] => False
       | (i, o) :: _ => match o.guard with
         | none => iP P tab o σ fun aD => s6 P tab all b pt n (iC l i) aD (rs ++ [rowOf false i o σ aD]) J
         | some _ => False
def AI (P : Program) (tab : bj) (all : List Oper) (b : Bool) (nm0 pt : List Nat) (nodes : List Bool → Bool) (st : List Bool → SS) (l : List Bool) : Prop :=
 match ki l with
 | true => True
 | false => match kj l all l 0 with
   | [] => False
   | r :: rs => xA (r :: rs) fun i o => if (!b || okW tab nm0 pt (st l) o) = true then
      kY P tab all o (st l) fun aD => u6 P tab all b pt (km l) (iC l i) aD fun l' s7 => match nodes l' with
       | true => s7 = st l'
       | false => False
     else False
def rn : List Row → List Bool → (List Bool → Prop) → Prop
 | [], l, p => Pz fun _ => p l
 | r :: rs, l, p => match jO l r.es with
   | false => rn rs l p
   | true => match r.t with
     | true => rn rs (iC l r.i) p
     | false => (Pz fun _ => rn rs (iC l r.i) p) ∧ Pz fun _ => rn rs l p
inductive bx (k : Prop) (ok : Unit → Bool) (p : Unit → Prop) : Prop where
 | mk (hk : k) (hb : ok () = true) (ht : p ())
def xD (l : List Bool) : List Row → Bool
 | [] => true
 | r :: rs => match mF l r.i with
   | true => false
   | false => xD l rs
def EW (P : Program) (tab : bj) (all : List Oper) (b : Bool) (nm0 pt : List Nat) (n : Nat) (l : List Bool) (σ : SS) (K : SS → Prop) : Prop :=
 s6 P tab all b pt n l σ [] fun rows rk =>
  bx (K rk) (fun _ => oS rows l l && (Nat.ble (km l) n && xD l rows)) (fun _ => rn rows l (AI P tab all b nm0 pt (oS rows l) (u5 rows σ rk)))
def Lk : List (Nat × Oper) → Bool
 | _ :: _ :: _ :: _ :: _ => true
 | _ => false
def p_ (P : Program) (tab : bj) (all : List Oper) (b : Bool) (nm0 pt : List Nat) : Nat → List Bool → SS → (SS → Prop) → Prop
 | 0, l, σ, K => match ki l with | true => K σ | false => False
 | n + 1, l, σ, K =>
   match ki l with
   | true => K σ
   | false =>
     match mG tab b pt l σ all l 0 with
     | some (i, o) => kY P tab all o σ fun aD => p_ P tab all b nm0 pt n (iC l i) aD K
     | none =>
       match kj l all l 0 with
       | [] => False
       | r :: rs => match Lk (r :: rs) with
         | true => EW P tab all b nm0 pt (n + 1) l σ K
         | false => xA (r :: rs) fun i o => if (!b || okW tab nm0 pt σ o) = true then kY P tab all o σ fun aD => p_ P tab all b nm0 pt n (iC l i) aD K else False
def AJ (P : Program) (tab : bj) (ops : Array Oper) (σ : SS) (K : SS → Prop) : Prop :=
 match nH tab ops.toList σ ops.toList with
 | some (nw, ws) => p_ P tab ops.toList true (σ.ai.map (·.1)) (match nw with | true => sY σ.ai (p8 ws (σ.ai.map (·.1))) | false => p8 ws (σ.ai.map (·.1))) ops.toList.length (rj ops.toList) σ K
 | none => p_ P tab ops.toList false (σ.ai.map (·.1)) [] ops.toList.length (rj ops.toList) σ K
def EX (ops : Array Oper) (i : Nat) : Bool :=
 match ops[i]? with
 | none => true
 | some oi => (List.range ops.size).all fun j => j == i || match ops[j]? with
  | some oj => oj.after.any (fun e => Region.binds .any e && e.on == i) || oi.after.any (fun e => Region.binds .any e && e.on == j) || oi.apart ops oj
  | none => true
def nI (ops : Array Oper) : Bool := (List.range ops.size).all (EX ops) && Region.noSelect ops
def fW : Code → Bool
 | .region _ ops draw => !draw || nI ops
 | .seq x y => fW x && fW y
 | .cond _ x y => fW x && fW y
 | .block _ x => fW x
 | .loop x => fW x
 | _ => true
def lX (P : Program) (tab : bj) (fr : Bool) (pk : List Nat) : Code → SS → (Exit → SS → Prop) → Prop
 | .skip, σ, K => K .normal σ
 | .region _ ops draw, σ, K => match draw with
   | false => nD P tab ops.toList ops.toList σ fun aD => K .normal aD
   | true => match fr with
     | true => AJ P tab ops σ fun aD => K .normal aD
     | false => if Region.noSelect ops = true then AG P tab ops σ fun aD => K .normal aD else False
 | .seq x y, σ, K => lX P tab fr pk x σ fun e aD => match e with
   | .normal => lX P tab fr pk y aD K
   | e => K e aD
 | .cond c x y, σ, K => match σ.ev c with
   | .c (.bl true) => lX P tab fr pk x σ K
   | .c (.bl false) => lX P tab fr pk y σ K
   | .c (.lf (.bool t)) => Br t fun b => match b with
     | true => lX P tab fr pk x σ K
     | false => lX P tab fr pk y σ K
   | _ => False
 | .block id x, σ, K => lX P tab fr pk x σ fun e aD => match e with
   | .exit i => if i = id then K .normal aD else K (.exit i) aD
   | e => K e aD
 | .loop x, σ, K => aU pk σ fun aD J => lX P tab fr pk x aD fun e s7 => match e with
   | .normal => J s7
   | e => K e s7
 | .exit id, σ, K => K (.exit id) σ
 | .ret, σ, K => K .ret σ
 | _, _, _ => False
section
variable {P : Program} {tab : bj} (hT : eW P tab = true) {Γ : Ctx}
include hT
theorem xE {H : Hp} {ρ : aL} {σ : SS} {a : Act} {w : World} {o : Oper} {K : SS → Prop} {Q : Exit → Act → World → Prop} (hw : gG tab o = true → Γ.hd = []) (h : iP P tab o σ K) (r : aM Γ H ρ σ a w) :
   o.wp P a w (fun a' w' => ∃ aD, K aD ∧ pK Γ H (gG tab o) w aD a' w') Q := by
 unfold iP at h
 split at h
 · rename_i v c hc; exact Le r hw hc h
 · split at h
   · exact KM hT r hw h
   · obtain ⟨v, y, hk, hv, cI⟩ := zq hT r h;exact jN (cI w (nn.refl r _)) ⟨_, hk, ⟨ρ, r.put hv _⟩, fun _ => gS.refl w⟩
theorem Ll (bN : Γ.hd = []) {σ : SS} {a : Act} {w : World} {o : Oper} {K : SS → Prop} {Q : Exit → Act → World → Prop} (h : iP P tab o σ K) (r : Rel Γ σ a w) :
  o.wp P a w (fun a' w' => ∃ aD, K aD ∧ Rel Γ aD a' w') Q := by
 obtain ⟨H, ρ, r⟩ := r;exact Oper.wp_mono (fun a' w' ⟨aD, h1, h2⟩ => ⟨aD, h1, h2.rel⟩) (xE hT (fun _ => bN) h r)
omit hT in
theorem aM.gH {H : Hp} {ρ : aL} {σ : SS} {a : Act} {w : World} (r : aM Γ H ρ σ a w) {d : Nat} {t : Unit → Bool} (hd : σ.env.getD d (.c .undef) = .c (.lf (.bool t))) : aM Γ H ρ (σ.gH d (.c (.bl (t ())))) a w := by
 refine ⟨r.b, ⟨by simpa [SS.gH] using r.e.size, fun j c hj => ?_⟩, r.d, r.n, r.hd, r.hm⟩;simp only [SS.gH] at hj;rw [List.getElem?_set] at hj
 split at hj
 · rename_i jP
   split at hj
   · cases hj;have := uC r d;rw [hd] at this;have h2 := RL.of_bool this;rw [← jP];exact h2
   · cases hj
 · exact r.e.get j c hj
omit hT in
theorem Rel.gH {σ : SS} {a : Act} {w : World} (r : Rel Γ σ a w) {d : Nat} {t : Unit → Bool} (hd : σ.env.getD d (.c .undef) = .c (.lf (.bool t))) : Rel Γ (σ.gH d (.c (.bl (t ())))) a w := by
 obtain ⟨H, ρ, r⟩ := r;exact ⟨H, ρ, r.gH hd⟩
omit hT in
theorem s8 {σ : SS} {a : Act} {w : World} (r : Rel Γ σ a w) {all : Array Oper} {j d : Nat} (hg : xx all.toList j = some d) :
   (∀ b, σ.env.getD d (.c .undef) = .c (.bl b) → yielded all a.tmps j = some b) ∧ (σ.env.getD d (.c .undef) = .aT [] → yielded all a.tmps j = none) := by
 obtain ⟨H, ρ, r⟩ := r;have xd : (all[j]?).bind (·.dst) = some d := by simpa [xx] using hg
 have he := uC r d
 have aR : ∀ c, σ.env.getD d (.c .undef) = c → c ≠ .c .undef → a.tmps[d]? = some (a.tmps.getD d Go.undef) := fun c hc aX => by
   refine getD_some ?_;rw [r.e.size];rcases Nat.lt_or_ge d σ.env.length with h | h
   · exact h
   · rw [List.getD_eq_getElem?_getD, List.getElem?_eq_none h] at hc;exact (aX hc.symm).elim
 refine ⟨fun b hb => ?_, fun hb => ?_⟩
 · have h1 := aR _ hb (by simp);rw [hb] at he;simp only [RV, RC] at he;unfold yielded;rw [xd, Option.bind_some, h1, he]
 · have h1 := aR _ hb (by simp);rw [hb] at he;obtain ⟨vs, h2, h3, _⟩ := he;unfold yielded;rw [xd, Option.bind_some, h1, h2]
omit hT in
theorem aM.skip {H : Hp} {ρ : aL} {σ : SS} {a : Act} {w : World} (r : aM Γ H ρ σ a w) (d : Option Nat) : aM Γ H ρ (σ.put d oO) (a.put d Go.undef) w := by
 have h : RV H ρ (ax σ.ai) (.aT []) Go.undef := ⟨#[], rfl, rfl, fun j p hj => by simp at hj⟩;exact r.put h d
omit hT in
theorem Rel.skip {σ : SS} {a : Act} {w : World} (r : Rel Γ σ a w) (d : Option Nat) : Rel Γ (σ.put d oO) (a.put d Go.undef) w := by
 obtain ⟨H, ρ, r⟩ := r;exact ⟨H, ρ, r.skip d⟩
theorem u7 (bN : Γ.hd = []) {all : Array Oper} {Q : Exit → Act → World → Prop} : ∀ (l : List Oper) {σ : SS} {a : Act} {w : World} {K : SS → Prop}, nD P tab all.toList l σ K → Rel Γ σ a w →
   (∀ aD a' w', K aD → Rel Γ aD a' w' → Q .normal a' w') → wpList P all Q l a w
 | [], σ, a, w, K, h, r, hQ => hQ σ a w h r
 | o :: rest, σ, a, w, K, h, r, hQ => by
   have go : ∀ {σ : SS}, iP P tab o σ (fun aD => nD P tab all.toList rest aD K) → Rel Γ σ a w → o.wp P a w (wpList P all Q rest) Q := fun h r =>
     Oper.wp_mono (fun a' w' ⟨aD, h1, h2⟩ => u7 bN rest h1 h2 hQ) (Ll hT bN h r)
   unfold wpList;unfold nD at h
   split at h
   · rename_i hg;rw [if_pos (by simp [Region.wanted, hg])];exact .inl (go h r)
   · rename_i j want hg
     split at h
     · rename_i d hd;obtain ⟨y1, y2⟩ := s8 r hd
       split at h
       · rename_i b hb
         split at h
         · rename_i gn;rw [if_pos (by simp [Region.wanted, hg, y1 b hb, gn])];exact .inl (go h r)
         · rename_i gn;rw [if_neg (by simp [Region.wanted, hg, y1 b hb, gn])];exact u7 bN rest h (r.skip _) hQ
       · rename_i hb;rw [if_neg (by simp [Region.wanted, hg, y2 hb])];exact u7 bN rest h (r.skip _) hQ
       · rename_i t hb;obtain ⟨h⟩ := h;have r' := r.gH hb
         have aR : d < σ.env.length := by
           rcases Nat.lt_or_ge d σ.env.length with h | h
           · exact h
           · rw [List.getD_eq_getElem?_getD, List.getElem?_eq_none h] at hb; cases hb
         have y3 := (s8 r' hd).1 (t ()) (by simp [SS.gH, List.getD_eq_getElem?_getD, aR])
         split at h
         · rename_i gn;rw [if_pos (by simp [Region.wanted, hg, y3, gn])];exact .inl (go h r')
         · rename_i gn;rw [if_neg (by simp [Region.wanted, hg, y3, gn])];exact u7 bN rest h (r'.skip _) hQ
       · cases h
     · cases h
omit hT in
theorem xF {σ : SS} {d : Nat} {t : Unit → Bool} {b : Bool} (hd : σ.env.getD d (.c .undef) = .c (.lf (.bool t))) (x : Operand) :
   (σ.gH d (.c (.bl b))).ev x = σ.ev x ∨ (∃ t, σ.ev x = .c (.lf (.bool t))) ∧ ∃ b', (σ.gH d (.c (.bl b))).ev x = .c (.bl b') := by
 cases x with
 | tmp j =>
   by_cases h : d = j
   · subst h;right;refine ⟨⟨t, hd⟩, b, ?_⟩
     have aR : d < σ.env.length := by
      rcases Nat.lt_or_ge d σ.env.length with h | h
      · exact h
      · rw [List.getD_eq_getElem?_getD, List.getElem?_eq_none h] at hd; cases hd
     simp [SS.ev, SS.gH, List.getD_eq_getElem?_getD, aR]
   · left;simp [SS.ev, SS.gH, List.getD_eq_getElem?_getD, h]
 | _ => left; rfl
omit hT in
theorem EY {σ aD : SS} {o : Oper} (h : g_ σ o = none) : g_ aD o = none := by
 cases aZ : o.op with
 | call c =>
   cases hc : c.callee with
   | value x => simp [g_, aZ, hc] at h
   | _ => simp [g_, aZ, hc]
 | _ => simp [g_, aZ]
omit hT in
theorem EZ {σ aD : SS} {o : Oper} (iK : ∀ x, aD.ev x = σ.ev x ∨ (∃ t, σ.ev x = .c (.lf (.bool t))) ∧ ∃ b', aD.ev x = .c (.bl b')) (h : lS tab σ o = false) : lS tab aD o = false := by
 have key : ∀ x, xw (aD.ev x) = xw (σ.ev x) := fun x => by
  rcases iK x with h | ⟨⟨t, h1⟩, b', h2⟩
  · rw [h]
  · rw [h1, h2]; rfl
 have Rh : ∀ x, AB (aD.ev x) = AB (σ.ev x) := fun x => by
  rcases iK x with h | ⟨⟨t, h1⟩, b', h2⟩
  · rw [h]
  · rw [h1, h2]; rfl
 unfold lS at h ⊢
 split at h <;> simp_all
omit hT in
theorem E0 {H : Hp} {ρ : aL} {ops : Array Oper} {i : Nat} {o : Oper} (hi : ops[i]? = some o) {σ : SS} {a : Act} {w : World} {K : SS → Prop} {Q : Exit → Act → World → Prop} {next : Act → World → Prop}
   (h : kY P tab ops.toList o σ K) (r : aM Γ H ρ σ a w) (go : ∀ {dK : SS}, iP P tab o dK K → aM Γ H ρ dK a w → (dK = σ ∨ ∃ d t, σ.env.getD d (.c .undef) = .c (.lf (.bool t)) ∧ dK = σ.gH d (.c (.bl (t ())))) → o.wp P a w next Q)
   (sk : ∀ {dK : SS}, K (dK.put o.dst oO) → aM Γ H ρ dK a w → next (a.put o.dst Go.undef) w) : wpOp P ops Q i next a w := by
 unfold wpOp;simp only [hi];unfold kY at h
 split at h
 · rename_i hg;rw [if_pos (by simp [Region.wanted, hg])];exact .inl (go h r (.inl rfl))
 · rename_i j want hg
   split at h
   · rename_i d hd;obtain ⟨y1, y2⟩ := s8 (⟨H, ρ, r⟩ : Rel Γ σ a w) hd
     split at h
     · rename_i b hb
       split at h
       · rename_i gn;rw [if_pos (by simp [Region.wanted, hg, y1 b hb, gn])];exact .inl (go h r (.inl rfl))
       · rename_i gn;rw [if_neg (by simp [Region.wanted, hg, y1 b hb, gn])];exact sk h r
     · rename_i hb;rw [if_neg (by simp [Region.wanted, hg, y2 hb])];exact sk h r
     · rename_i t hb;obtain ⟨h⟩ := h;have r' := r.gH hb
       have aR : d < σ.env.length := by
         rcases Nat.lt_or_ge d σ.env.length with h | h
         · exact h
         · rw [List.getD_eq_getElem?_getD, List.getElem?_eq_none h] at hb; cases hb
       have y3 := (s8 (⟨H, ρ, r'⟩ : Rel Γ _ a w) hd).1 (t ()) (by simp [SS.gH, List.getD_eq_getElem?_getD, aR])
       split at h
       · rename_i gn;rw [if_pos (by simp [Region.wanted, hg, y3, gn])];exact .inl (go h r' (.inr ⟨d, t, hb, rfl⟩))
       · rename_i gn;rw [if_neg (by simp [Region.wanted, hg, y3, gn])];exact sk h r'
     · cases h
   · cases h
theorem AK {H : Hp} {ρ : aL} {ops : Array Oper} {i : Nat} {o : Oper} (hw : gG tab o = true → Γ.hd = []) (hi : ops[i]? = some o) {σ : SS} {a : Act} {w : World} {K : SS → Prop} {Q : Exit → Act → World → Prop} {next : Act → World → Prop}
  (h : kY P tab ops.toList o σ K) (r : aM Γ H ρ σ a w) (hn : ∀ aD a' w', K aD → pK Γ H (gG tab o) w aD a' w' → next a' w') : wpOp P ops Q i next a w :=
 E0 hi h r (fun h r _ => Oper.wp_mono (fun a' w' ⟨aD, h1, h2⟩ => hn aD a' w' h1 h2) (xE hT hw h r)) (fun h r => hn _ _ _ h ⟨⟨ρ, r.skip _⟩, fun _ => gS.refl _⟩)
def gI (ρ0 : aL) (pt : List Nat) (w w' : World) : Prop := ∀ k ∈ pt, ∀ x, 0 < (ρ0 k).2 x → w'.heap[x]? = w.heap[x]?
theorem AL {H : Hp} {ρ ρ0 : aL} {nm0 pt : List Nat} {ops : Array Oper} {i : Nat} {o : Oper} (hi : ops[i]? = some o) {σ : SS} (du : okW tab nm0 pt σ o = true) {a : Act} {w : World} {K : SS → Prop} {Q : Exit → Act → World → Prop}
   {next : Act → World → Prop} (h : kY P tab ops.toList o σ K) (r : aM Γ H ρ σ a w) (eM : ∀ k ∈ nm0, (k, ρ0 k) ∈ Γ.hd) (eX : ∀ k ∈ pt, k ∈ nm0) (E2 : ∀ k ∈ pt, ∀ x, 0 < (ρ0 k).2 x → ∃ o, w.heap[x]? = some o)
   (jP : ∀ k ∈ nm0, ∀ j ∈ nm0, k ≠ j → ∀ x, (ρ0 k).2 x + (ρ0 j).2 x ≤ 1)
   (ko : ∀ k ∈ pt, ∀ b, (ρ0 k).1 = .pointer (some ⟨b, 0, none⟩) → (ρ0 k).2 = one b ∨ ∀ x, (ρ0 k).2 x = 0) (hn : ∀ aD a' w', K aD → (∃ ρ', aM Γ H ρ' aD a' w') → gI ρ0 pt w w' → next a' w') : wpOp P ops Q i next a w := by
 have kp : ∀ w', gS w w' → gI ρ0 pt w w' := fun w' hk k bC x hx => by
   obtain ⟨o, h3⟩ := E2 k bC x hx;rw [hk x _ h3, h3]
 refine E0 hi h r (fun {dK} h r hs => ?_) (fun h r => hn _ _ _ h ⟨ρ, r.skip _⟩ (kp _ (gS.refl _)));simp only [okW, Bool.or_eq_true] at du;rcases du with (du | du) | du
 · have E3 : gG tab o = false := by simpa using du
   exact Oper.wp_mono (fun a' w' ⟨aD, h1, h2, h3⟩ => hn aD a' w' h1 h2 (kp _ (h3 E3))) (xE hT (fun hw => by rw [E3] at hw; cases hw) h r)
 · simp only [Bool.and_eq_true, Bool.not_eq_true', Option.isNone_iff_eq_none] at du;obtain ⟨hc, hm⟩ := du
   have E4 : g_ dK o = none ∧ lS tab dK o = false := by
     rcases hs with rfl | ⟨d, t, hd, rfl⟩
     · exact ⟨hc, hm⟩
     · exact ⟨EY hc, EZ (xF hd) hm⟩
   unfold iP at h;simp only [E4.1, E4.2, Bool.false_eq_true, if_false] at h;obtain ⟨v, y, hk, hv, cI⟩ := zq hT r h;exact jN (cI w (nn.refl r _)) (hn _ _ _ hk ⟨ρ, r.put hv _⟩ (kp _ (gS.refl w)))
 · split at du
   · rename_i T p v aZ hd hg
     split at du
     · rename_i k off hp
       have pV : k ∉ pt := by
         simp only [Bool.or_eq_true, Bool.and_eq_true, Bool.not_eq_true'] at du;rcases du with h1 | h1
         · simpa using h1.2
         · simpa using h1.1
       have d_ : dK.ev p = .c (.ptr k off) := by
         rcases hs with rfl | ⟨d, t, hd, rfl⟩
         · exact hp
         · rcases xF (b := t ()) hd p with h1 | ⟨⟨t', h1⟩, _⟩
           · rw [h1]; exact hp
           · rw [hp] at h1; cases h1
       have fu : g_ dK o = none := by simp [g_, aZ]
       have de : lS tab dK o = true := by simp [lS, aZ]
       unfold iP at h;simp only [fu, de, if_true] at h;unfold sN at h;simp only [aZ, hd, d_] at h;refine Oper.wp_mono (fun a' w' ⟨aD, h1, h2, h3⟩ => hn aD a' w' h1 ⟨ρ, h2⟩ fun j hj x hx => h3 x ?_) (J0 hT r aZ hd d_ h);simp only [Bool.or_eq_true, Bool.and_eq_true, Bool.not_eq_true'] at du;rcases du with du | du
       · have gq : k ∈ nm0 := by simpa using du.1
         have h4 := (r.hd _ (eM k gq)).2.2 x;have h5 := jP k gq j (eX j hj) (fun he => pV (he ▸ hj)) x;simp only at h4;omega
       · have mH := List.all_eq_true.1 du.2 j hj
         have iO : dK.ai = σ.ai := by
           rcases hs with rfl | ⟨d, t, hd, rfl⟩ <;> rfl
         rw [← iO] at mH
         have iN : ax dK.ai k := by
           have := j_ r.e p;rw [d_] at this;exact this.1
         cases oT : aQ dK.ai j with
         | none => rw [oT] at mH; cases mH
         | some B =>
           rw [oT] at mH;cases B with
           | box cs =>
             obtain ⟨b, vs, e, fz, e1, e2, _⟩ := r.b.ai j _ (di oT);have h6 := (r.hd _ (eM j (eX j hj))).2.1;have h7 := ko j hj b (by rw [← e1]; exact h6.symm);have h8 := uG (ρ := ρ) iN (fN oT) (fun he => pV (he ▸ hj)) x;have h9 := r.b.sum x;rw [e2] at h8;rcases h7 with h7 | h7
             · rw [h7] at hx;omega
             · rw [h7] at hx;omega
           | _ => cases mH
     · cases du
   · rename_i c aZ
     split at du
     · rename_i x y fu dO;have Lm : g_ dK o = none := by simp [g_, aZ, fu]
       have Ln : lS tab dK o = true := by simp [lS, aZ, fu]
       unfold iP at h;simp only [Lm, Ln, if_true] at h
       have iK : ∀ k, dK.ev x = .c (.own k) → σ.ev x = .c (.own k) := fun k hk => by
         rcases hs with rfl | ⟨d, t, hd, rfl⟩
         · exact hk
         · rcases xF (b := t ()) hd x with h1 | ⟨_, b', h2⟩
           · rw [← h1]; exact hk
           · rw [h2] at hk; cases hk
       have iO : dK.ai = σ.ai := by
         rcases hs with rfl | ⟨d, t, hd, rfl⟩ <;> rfl
       refine Oper.wp_mono (fun a' w' ⟨aD, h1, h2, h3⟩ => hn aD a' w' h1 h2 fun j hj b hb => h3 b ?_ fun k hk => ?_) (KU hT r aZ fu dO h)
       · obtain ⟨o', Ak⟩ := E2 j hj b hb;exact jJ Ak
       · have gq := iK k hk;rw [gq] at du;simp only [Bool.and_eq_true, Bool.not_eq_true'] at du;have pV : k ∉ pt := by simpa using du.1
         have mH := List.all_eq_true.1 du.2 j hj;rw [← iO] at mH
         have iN : ax dK.ai k := by
           have := j_ r.e x;rw [hk] at this;exact this.1
         cases oT : aQ dK.ai j with
         | none => rw [oT] at mH; cases mH
         | some B =>
           rw [oT] at mH;cases B with
           | box cs =>
             obtain ⟨b', vs, e, fz, e1, e2, _⟩ := r.b.ai j _ (di oT);have h6 := (r.hd _ (eM j (eX j hj))).2.1;have h7 := ko j hj b' (by rw [← e1]; exact h6.symm);have h8 := uG (ρ := ρ) iN (fN oT) (fun he => pV (he ▸ hj)) b;have h9 := r.b.sum b;rw [e2] at h8;rcases h7 with h7 | h7
             · rw [h7] at hb;omega
             · rw [h7] at hb;omega
           | _ => cases mH
     · cases du
   · cases du
end
section
variable {P : Program} {tab : bj} (hT : eW P tab = true) {Γ : Ctx} {H : Hp}
include hT
omit hT in
theorem AM {ops : Array Oper} {b : Bool} {nm0 : List Nat} {listed : Array Bool} {σ : SS} : ∀ {l : List Nat} {i : Nat}, sZ tab ops b nm0 listed σ l = some i → i ∈ l ∧ ∃ o, ops[i]? = some o ∧ ri tab b nm0 σ o = true ∧ Region.free .any ops listed i = true
 | [], i, h => by simp [sZ] at h
 | j :: l, i, h => by
   unfold sZ at h
   split at h
   · rename_i o ho
     split at h
     · rename_i hc;cases h;simp only [Bool.and_eq_true] at hc;exact ⟨List.mem_cons_self, o, ho, hc.1, hc.2⟩
     · obtain ⟨h1, h2⟩ := AM h; exact ⟨List.mem_cons_of_mem _ h1, h2⟩
   · obtain ⟨h1, h2⟩ := AM h; exact ⟨List.mem_cons_of_mem _ h1, h2⟩
omit hT in
theorem E5 {p : Nat → Prop} : ∀ {l : List Nat}, AF l p → ∀ i ∈ l, p i
 | [], _, i, hi => by cases hi
 | [j], h, i, hi => by
   simp only [List.mem_singleton] at hi;subst hi; exact h
 | j :: k :: l, h, i, hi => by
   rcases List.mem_cons.1 hi with rfl | hi
   · exact h.1
   · exact E5 h.2 i hi
omit hT in
theorem Lo {σ aD : SS} {o : Oper} (iK : ∀ x, aD.ev x = σ.ev x ∨ (∃ t, σ.ev x = .c (.lf (.bool t))) ∧ ∃ b', aD.ev x = .c (.bl b')) : pB o aD = pB o σ := by
 unfold pB
 split
 · rename_i T x _;rcases iK x with h | ⟨⟨t, h1⟩, b', h2⟩
   · rw [h]
   · rw [h1, h2]; rfl
 · rfl
theorem xG {S : World → Prop} {ρ : aL} {ops : Array Oper} {o : Oper} {b : Bool} {pt : List Nat} {σ : SS} {a : Act} {w : World} {K : SS → Prop} (h : kY P tab ops.toList o σ K) (hd : ri tab b pt σ o = true) (r : aM Γ H ρ σ a w)
   (hS : ∀ w', S w' → ∀ rd : List Nat, oR b pt rd = true → nn H ρ rd w w') :
   ∃ v aD, YieldsIf P ops S o v a ∧ K aD ∧ aM Γ H ρ aD (a.put o.dst v) w := by
 simp only [ri, Bool.and_eq_true, Bool.not_eq_true', Option.isNone_iff_eq_none] at hd;obtain ⟨⟨hc, hm⟩, gJ⟩ := hd
 have go : ∀ {dK : SS}, iP P tab o dK K → aM Γ H ρ dK a w → g_ dK o = none → lS tab dK o = false → oR b pt (pB o dK) = true →
     ∃ v aD, (∀ w', S w' → (execOp a.eval o).run P w' = .ok (.value v) w') ∧ K aD ∧ aM Γ H ρ aD (a.put o.dst v) w := fun {dK} h r hc hm gJ => by
   unfold iP at h;simp only [hc, hm, Bool.false_eq_true, if_false] at h;obtain ⟨v, y, hk, hv, cI⟩ := zq hT r h;exact ⟨y, _, fun w' lY => cI w' (hS w' lY _ gJ), hk, r.put hv _⟩
 unfold kY at h
 split at h
 · rename_i hg;obtain ⟨v, aD, h1, h2, h3⟩ := go h r hc hm gJ;exact ⟨v, aD, .inl ⟨by simp [Region.wanted, hg], h1⟩, h2, h3⟩
 · rename_i j want hg
   split at h
   · rename_i d lK;obtain ⟨y1, y2⟩ := s8 (⟨H, ρ, r⟩ : Rel Γ σ a w) lK
     split at h
     · rename_i c hb
       split at h
       · rename_i gn;obtain ⟨v, aD, h1, h2, h3⟩ := go h r hc hm gJ;exact ⟨v, aD, .inl ⟨by simp [Region.wanted, hg, y1 c hb, gn], h1⟩, h2, h3⟩
       · rename_i gn;exact ⟨Go.undef, _, .inr ⟨by simp [Region.wanted, hg, y1 c hb, gn], rfl⟩, h, r.skip _⟩
     · rename_i hb;exact ⟨Go.undef, _, .inr ⟨by simp [Region.wanted, hg, y2 hb], rfl⟩, h, r.skip _⟩
     · rename_i t hb;obtain ⟨h⟩ := h;have r' := r.gH hb
       have aR : d < σ.env.length := by
         rcases Nat.lt_or_ge d σ.env.length with h | h
         · exact h
         · rw [List.getD_eq_getElem?_getD, List.getElem?_eq_none h] at hb; cases hb
       have y3 := (s8 (⟨H, ρ, r'⟩ : Rel Γ _ a w) lK).1 (t ()) (by simp [SS.gH, List.getD_eq_getElem?_getD, aR]);have iK := xF (b := t ()) hb
       split at h
       · rename_i gn;obtain ⟨v, aD, h1, h2, h3⟩ := go h r' (EY hc) (EZ iK hm) (by rw [Lo iK]; exact gJ);exact ⟨v, aD, .inl ⟨by simp [Region.wanted, hg, y3, gn], h1⟩, h2, h3⟩
       · rename_i gn;exact ⟨Go.undef, _, .inr ⟨by simp [Region.wanted, hg, y3, gn], rfl⟩, h, r'.skip _⟩
     · cases h
   · cases h
theorem xH {ops : Array Oper} {b : Bool} {nm0 pt : List Nat} {Q : Exit → Act → World → Prop} {w0 : World} {ρ0 : aL} {K : SS → Prop} (nJ : Region.noSelect ops = true)
   (mI : b = false → Γ.hd = []) (eM : b = true → ∀ k ∈ nm0, (k, ρ0 k) ∈ Γ.hd) (eX : ∀ k ∈ pt, k ∈ nm0) (aR : ∀ k ∈ nm0, ∀ x, 0 < (ρ0 k).2 x → x < w0.heap.size) (jP : ∀ k ∈ nm0, ∀ j ∈ nm0, k ≠ j → ∀ x, (ρ0 k).2 x + (ρ0 j).2 x ≤ 1)
   (ko : ∀ k ∈ pt, ∀ b, (ρ0 k).1 = .pointer (some ⟨b, 0, none⟩) → (ρ0 k).2 = one b ∨ ∀ x, (ρ0 k).2 x = 0) (kq : ∀ c a w, ¬ Q (.panic c) a w) (hQ : ∀ aD a' w', K aD → (∃ ρ, aM Γ H ρ aD a' w') → Q .normal a' w') :
   ∀ (n : Nat) {listed : Array Bool} {σ : SS} {a : Act} {w : World} {ρ : aL}, p9 P tab ops b nm0 pt n listed σ K → aM Γ H ρ σ a w → (b = true → gI ρ0 pt w0 w) →
     wpAnyH P .any ops Q (fun w' => (∀ x o, H x = some o → w'.heap[x]? = some o) ∧ (b = true → gI ρ0 pt w0 w')) n listed a w
 | 0, listed, σ, a, w, ρ, h, r, hk => by
   unfold p9 at h
   split at h
   · rename_i he;exact ⟨he, hQ _ _ _ h ⟨ρ, r⟩⟩
   · cases h
 | n + 1, listed, σ, a, w, ρ, h, r, hk => by
   unfold p9 at h;have h := Lj h
   split at h
   · rename_i he;exact wpAnyH_done he (hQ _ _ _ h ⟨ρ, r⟩) _
   · rename_i r0 rs he
     split at h
     · rename_i i hp;obtain ⟨hi, o, ho, hd, hf⟩ := AM hp;simp only [ho] at h
       obtain ⟨v, aD, hy, hK, r'⟩ := xG hT h hd r (S := fun w' => (∀ x o, H x = some o → w'.heap[x]? = some o) ∧ (b = true → gI ρ0 pt w0 w')) fun w' lY rd gJ => by
         refine ⟨lY.1, fun k bC x hx => ?_⟩;cases b with
         | false => simp only [oR, List.isEmpty_iff] at gJ; subst gJ; cases bC
         | true =>
           have h1 : k ∈ pt := by
             simp only [oR, List.all_eq_true] at gJ;simpa using gJ k bC
           have h2 := (r.hd _ (eM rfl k (eX k h1))).2.2 x;have h0 : 0 < (ρ0 k).2 x := by simp only at h2; omega
           rw [lY.2 rfl k h1 x h0, hk rfl k h1 x h0]
       exact wpAnyH_take ho nJ hf (by rw [he]; simpa using hi) (fun c a w hq => (kq _ _ _ hq).elim) hy ⟨r.b.hh, hk⟩ (xH nJ mI eM eX aR jP ko kq hQ n hK r' hk)
     · refine wpAnyH_all he (by simp) fun i hi => ?_;have h := E5 h i hi
       split at h
       · rename_i o ho
         split at h
         · rename_i du;cases b with
           | false =>
             refine AK hT (fun _ => mI rfl) ho h r fun aD a' w' hK hr => ?_;obtain ⟨⟨ρ', r'⟩, _⟩ := hr;exact ⟨⟨r'.b.hh, fun hb => by cases hb⟩, xH nJ mI eM eX aR jP ko kq hQ n hK r' (fun hb => by cases hb)⟩
           | true =>
             refine AL hT ho (by simpa using du) h r (eM rfl) eX (fun k bC x hx => ⟨_, by rw [hk rfl k bC x hx]; exact Array.getElem?_eq_getElem (aR k (eX k bC) x hx)⟩) jP ko fun aD a' w' hK hr u9 => ?_;obtain ⟨ρ', r'⟩ := hr;have bC : true = true → gI ρ0 pt w0 w' := fun _ k gq x hx => by rw [u9 k gq x hx, hk rfl k gq x hx]
             exact ⟨⟨r'.b.hh, bC⟩, xH nJ mI eM eX aR jP ko kq hQ n hK r' bC⟩
         · cases h
       · cases h
omit hT in
theorem E6 {h : Array Obj} {H : Hp} {ρ : aL} {D : Nat → Prop} {B : ar} {p : Value × (Nat → Nat)} (hr : cQ h H ρ D B p) {b : Nat} (hp : p.1 = .pointer (some ⟨b, 0, none⟩)) : p.2 = one b ∨ ∀ x, p.2 x = 0 := by
 cases B with
 | dead => simp only [cQ] at hr; exact .inr fun x => by rw [hr]
 | box cs =>
   obtain ⟨b', vs, e, fz, h1, h2, _⟩ := hr;rw [hp] at h1;simp only [Value.pointer.injEq, Option.some.injEq, Addr.mk.injEq, and_true] at h1;subst h1;exact .inl h2
 | own E xs l =>
   obtain ⟨b', c, h1, _⟩ := bq.slice hr;rw [hp] at h1; cases h1
 | view E xs => exact .inr fun x => by rw [hr.2]
 | ca E xs i fs =>
   obtain ⟨b', o, c, cs, e, fz, S, h1, _⟩ := hr;rw [hp] at h1; cases h1
 | mp m =>
   obtain ⟨b', es, c, h1, _⟩ := hr;rw [hp] at h1; cases h1
omit hT in
theorem xI {bs : List (Nat × ar)} {k : Nat} : ∀ {ks : List Nat}, k ∈ sY bs ks → k ∈ ks
 | [], h => by cases h
 | j :: ks, h => by
   simp only [sY] at h
   split at h
   · rcases List.mem_cons.1 h with rfl | h
     · exact List.mem_cons_self
     · exact List.mem_cons_of_mem _ (xI h)
   · exact List.mem_cons_of_mem _ (xI h)
omit hT in
theorem s9 {l : List Nat} {k : Nat} : ∀ {ks : List Nat}, k ∈ p8 l ks → k ∈ ks
 | [], h => by cases h
 | j :: ks, h => by
   simp only [p8] at h
   split at h
   · exact List.mem_cons_of_mem _ (s9 h)
   · rcases List.mem_cons.1 h with rfl | h
     · exact List.mem_cons_self
     · exact List.mem_cons_of_mem _ (s9 h)
theorem Lp {id : Nat} {ops : Array Oper} {σ : SS} {a : Act} {w : World} {K : Exit → SS → Prop} {Q : Exit → Act → World → Prop} (bN : Γ.hd = [])
   (h : if Region.noSelect ops = true then AG P tab ops σ fun aD => K .normal aD else False)
   (r : Rel Γ σ a w) (hQ : ∀ aD a' w', K .normal aD → Rel Γ aD a' w' → Q .normal a' w') : (Code.region id ops true).wp P Q a w := by
 split at h
 · rename_i nJ
   have key : ∀ (b : Bool) (pt : List Nat), (∀ k ∈ pt, k ∈ σ.ai.map (·.1)) → p9 P tab ops b (σ.ai.map (·.1)) pt ops.size (Array.replicate ops.size false) σ (fun aD => K .normal aD) → (Code.region id ops true).wp P Q a w := by
     intro b pt eX h;obtain ⟨H, ρ, r⟩ := r
     let mJ : Ctx := { Γ with hd := if b = true then σ.ai.map fun p => (p.1, ρ p.1) else [] }
     have r' : aM mJ H ρ σ a { w with drawn := w.drawn + 1 } := by
       refine ⟨r.b, r.e, r.d, r.n.trans ⟨Nat.le_refl _, rfl, rfl, fun _ => rfl⟩, fun p hp => ?_, r.hm⟩;simp only [mJ] at hp
       split at hp
       · obtain ⟨q, hq, rfl⟩ := List.mem_map.1 hp;exact ⟨List.mem_map.2 ⟨q, hq, rfl⟩, rfl, fun x => Nat.le_refl _⟩
       · cases hp
     refine Code.wp_mono (Q := fun e a w => match e with | .normal => Q .normal a w | _ => False) (fun e a w hq => by cases e <;> first | exact hq | exact hq.elim) ?_
     refine wp_region_held (C2 hT) (xH (Γ := mJ) (H := H) (ρ0 := ρ) (w0 := { w with drawn := w.drawn + 1 }) hT nJ (fun hb => by simp only [mJ, hb]; rfl) (fun hb k hk => ?_) eX (fun k hk x hx => ?_) (fun k hk j hj aX x => ?_) (fun k hk b hb => ?_) (fun c a w hq => hq)
       (fun aD a' w' hK hr => ?_) _ h r' (fun _ _ _ _ _ => rfl))
     · obtain ⟨q, hq, rfl⟩ := List.mem_map.1 hk;simp only [mJ, hb, if_true];exact List.mem_map.2 ⟨q, hq, rfl⟩
     · obtain ⟨q, hq, rfl⟩ := List.mem_map.1 hk;exact r'.lt (Nat.lt_of_lt_of_le hx (mo hq x))
     · exact Nat.le_trans (uG hk hj (Ne.symm aX) x) (r.b.sum x)
     · obtain ⟨q, hq, rfl⟩ := List.mem_map.1 (eX k hk);have h1 := r.b.ai _ _ hq;exact E6 h1 hb
     · obtain ⟨ρ', r2⟩ := hr;exact hQ _ _ _ hK ⟨H, ρ', r2.b, r2.e, r2.d, r2.n, by rw [bN]; (intro p hp; cases hp), r2.hm⟩
   unfold AG at h
   split at h
   · rename_i nw ws _;cases nw with
     | true => exact key true _ (fun k hk => s9 (xI hk)) h
     | false => exact key true _ (fun k hk => s9 hk) h
   · exact key false [] (fun k hk => by cases hk) h
 · cases h
omit hT in
theorem E7 : ∀ (l : List Bool) (j : Nat), mF l j = l.toArray.getD j false
 | [], j => by simp [mF]
 | b :: l, 0 => by simp [mF]
 | b :: l, j + 1 => by
   have := E7 l j;simp only [mF, this];simp [Array.getD_eq_getD_getElem?]
omit hT in
theorem s_ : ∀ (l : List Bool) (i : Nat), iC l i = l.set i true
 | [], i => by simp [iC]
 | b :: l, 0 => by simp [iC]
 | b :: l, i + 1 => by simp [iC, s_ l i]
omit hT in
theorem AN : ∀ {l : List Bool}, ki l = true → ∀ b ∈ l, b = true
 | [], _, b, hb => by cases hb
 | c :: l, h, b, hb => by
   cases c with
   | false => cases h
   | true =>
     cases hb with
     | head => rfl
     | tail _ hb => exact AN (l := l) h b hb
omit hT in
theorem E8 : ∀ (os : List Oper), rj os = List.replicate os.length false
 | [] => rfl
 | _ :: os => by simp [rj, E8 os, List.replicate_succ]
omit hT in
theorem E9 {l : List Bool} : ∀ {es : List Edge}, jO l es = true ↔ ∀ e ∈ es, Region.binds .any e = true → mF l e.on = true
 | [] => by simp [jO]
 | e :: es => by
   have ih := E9 (l := l) (es := es);unfold jO;cases h : Region.binds .any e with
   | false => simp [ih, h]
   | true =>
     cases h2 : mF l e.on with
     | false => simp [h, h2]
     | true => simp [ih, h, h2]
omit hT in
theorem xJ {b : Bool} {pt : List Nat} {l0 : List Bool} {σ : SS} : ∀ {os : List Oper} {ls : List Bool} {k i : Nat} {o : Oper}, mG tab b pt l0 σ os ls k = some (i, o) →
   ∃ j, i = k + j ∧ os[j]? = some o ∧ ls[j]? = some false ∧ jO l0 o.after.toList = true ∧ ri tab b pt σ o = true
 | [], ls, k, i, o, h => by simp [mG] at h
 | _ :: _, [], k, i, o, h => by simp [mG] at h
 | q :: os, l :: ls, k, i, o, h => by
   have next : mG tab b pt l0 σ os ls (k + 1) = some (i, o) → ∃ j, i = k + j ∧ (q :: os)[j]? = some o ∧ (l :: ls)[j]? = some false ∧ jO l0 o.after.toList = true ∧ ri tab b pt σ o = true := fun h => by
     obtain ⟨j, h1, h2, h3, h4⟩ := xJ h;exact ⟨j + 1, by omega, by simpa using h2, by simpa using h3, h4⟩
   unfold mG at h;cases l with
   | true => exact next h
   | false =>
     simp only at h
     split at h
     · rename_i ha
       split at h
       · rename_i hd;cases h;exact ⟨0, rfl, rfl, rfl, ha, hd⟩
       · exact next h
     · exact next h
omit hT in
theorem AO {l0 : List Bool} : ∀ {os : List Oper} {ls : List Bool} {k j : Nat} {o : Oper}, os[j]? = some o → ls[j]? = some false → jO l0 o.after.toList = true → (k + j, o) ∈ kj l0 os ls k
 | [], ls, k, j, o, h, _, _ => by simp at h
 | _ :: _, [], k, j, o, _, h, _ => by simp at h
 | q :: os, l :: ls, k, 0, o, h1, h2, h3 => by
   simp only [List.getElem?_cons_zero, Option.some.injEq] at h1 h2;subst h1; subst h2;unfold kj;simp only [h3, Nat.add_zero, List.mem_cons, true_or]
 | q :: os, l :: ls, k, j + 1, o, h1, h2, h3 => by
   have ih := AO (l0 := l0) (os := os) (ls := ls) (k := k + 1) (j := j) (o := o) (by simpa using h1) (by simpa using h2) h3;rw [show k + (j + 1) = k + 1 + j by omega];unfold kj
   split
   · exact ih
   · split
     · exact List.mem_cons_of_mem _ ih
     · exact ih
omit hT in
theorem AP {l0 : List Bool} : ∀ {os : List Oper} {ls : List Bool} {k i : Nat} {o : Oper}, (i, o) ∈ kj l0 os ls k → ∃ j, i = k + j ∧ os[j]? = some o ∧ ls[j]? = some false ∧ jO l0 o.after.toList = true
 | [], ls, k, i, o, h => by simp [kj] at h
 | _ :: _, [], k, i, o, h => by simp [kj] at h
 | q :: os, l :: ls, k, i, o, h => by
   have next : (i, o) ∈ kj l0 os ls (k + 1) → ∃ j, i = k + j ∧ (q :: os)[j]? = some o ∧ (l :: ls)[j]? = some false ∧ jO l0 o.after.toList = true := fun h => by
     obtain ⟨j, h1, h2, h3, h4⟩ := AP h;exact ⟨j + 1, by omega, by simpa using h2, by simpa using h3, h4⟩
   unfold kj at h
   split at h
   · exact next h
   · split at h
     · rename_i ha;rcases List.mem_cons.1 h with h | h
       · cases h;exact ⟨0, rfl, rfl, rfl, ha⟩
       · exact next h
     · exact next h
omit hT in
theorem AQ {q : Nat → Oper → Prop} : ∀ {l : List (Nat × Oper)}, xA l q → ∀ p ∈ l, q p.1 p.2
 | [], _, p, hp => by cases hp
 | [_], h, p, hp => by cases List.mem_singleton.1 hp; exact h
 | _ :: r :: l, h, p, hp => by
   rcases List.mem_cons.1 hp with rfl | hp
   · exact h.1
   · exact AQ (l := r :: l) h.2 p hp
omit hT in
theorem qa {ops : Array Oper} {l : List Bool} {i : Nat} : i ∈ Region.ready .any ops l.toArray ↔ l.toArray.getD i true = false ∧ ∃ o, ops.toList[i]? = some o ∧ jO l o.after.toList = true := by
 rw [mem_ready];simp only [E9, E7, Array.getElem?_toList, Array.mem_toList_iff]
omit hT in
theorem oU {l : List Bool} {i : Nat} : l.toArray.getD i true = false ↔ l[i]? = some false := by
 rw [Array.getD_eq_getD_getElem?, List.getElem?_toArray];cases h : l[i]? with
 | none => simp
 | some b => simp
omit hT in
theorem E_ {ops : Array Oper} (hf : nI ops = true) {l : Array Bool} {i : Nat} (hi : i ∈ Region.ready .any ops l) : Region.free .any ops l i = true := by
 obtain ⟨h1, o, h2, h3⟩ := mem_ready.1 hi;simp only [nI, Bool.and_eq_true, List.all_eq_true, List.mem_range] at hf;have aR := (Array.getElem?_eq_some_iff.1 h2).1;have h4 := hf.1 i aR;simp only [EX, h2, List.all_eq_true, List.mem_range] at h4;simp only [Region.free, h2, List.all_eq_true, List.mem_range];intro j hj;have h5 := h4 j hj;simp only [Bool.or_eq_true] at h5 ⊢;rcases h5 with h5 | h5
 · exact .inl (.inl h5)
 · cases u_ : l.getD j true with
   | true => exact .inl (.inr rfl)
   | false =>
     refine .inr ?_;cases Lq : ops[j]? with
     | none => rfl
     | some oj =>
       simp only [Lq, Bool.or_eq_true] at h5 ⊢;rcases h5 with (h5 | h5) | h5
       · exact .inl h5
       · exfalso;obtain ⟨e, he, h6⟩ := Array.any_eq_true'.1 h5;simp only [Bool.and_eq_true, beq_iff_eq] at h6;have h7 := h3 e he h6.1;rw [h6.2] at h7;rw [Array.getD_eq_getD_getElem?] at h7 u_;cases h8 : l[j]? with
         | none => rw [h8] at h7; cases h7
         | some b => rw [h8] at h7 u_; simp at h7 u_; rw [h7] at u_; cases u_
       · exact .inr h5
omit hT in
theorem AR : ∀ {l m : List Bool}, rm l m = true → l = m
 | [], [], _ => rfl
 | [], _ :: _, h => by simp [rm] at h
 | _ :: _, [], h => by simp [rm] at h
 | b :: bs, c :: cs, h => by
   cases b <;> cases c <;> simp only [rm] at h
   · rw [AR h]
   · cases h
   · cases h
   · rw [AR h]
omit hT in
theorem va {p : List Bool → Prop} : ∀ {rs : List Row} {l l' : List Bool}, rn rs l p → oS rs l l' = true → p l'
 | [], l, l', h, hi => by
   rw [← AR hi]; exact h.1
 | r :: rs, l, l', h, hi => by
   unfold rn at h;unfold oS at hi
   split at h
   · rename_i ha;rw [ha] at hi;exact va h hi
   · rename_i ha;rw [ha] at hi
     split at h
     · rename_i ht;rw [ht] at hi;exact va h hi
     · rename_i ht;rw [ht] at hi;simp only at hi
       split at hi
       · exact va h.1.1 hi
       · exact va h.2.1 hi
omit hT in
theorem AS : ∀ {l : List Bool} {i : Nat}, l[i]? = some false → km l = km (iC l i) + 1
 | [], i, h => by simp at h
 | b :: l, 0, h => by
   simp only [List.getElem?_cons_zero, Option.some.injEq] at h;subst h; rfl
 | b :: l, i + 1, h => by
   have ih := AS (l := l) (i := i) (by simpa using h);cases b <;> simp only [km, iC, ih]
omit hT in
theorem Fa : ∀ {l : List Bool}, km l = 0 → ki l = true
 | [], _ => rfl
 | b :: l, h => by
   cases b with
   | true => exact Fa (l := l) h
   | false => simp [km] at h
omit hT in
theorem Fb {l : List Bool} {σ : SS} : ∀ {rs : List Row}, xD l rs = true → u4 l rs σ = σ
 | [], _ => rfl
 | r :: rs, h => by
   unfold xD at h;unfold u4
   split at h
   · cases h
   · exact Fb h
omit hT in
theorem Lr {o : Oper} {a : Act} {w : World} {C : Prop} (h : o.wp P a w (fun _ _ => C) (fun _ _ _ => False)) : C := by
 unfold Oper.wp at h;cases hr : (execOp a.eval o).run P w with
 | ok n w' =>
   rw [hr] at h;cases n with
   | value v => exact h
   | skip => exact h
   | defer d => exact h
   | enter f args =>
     obtain ⟨e, qN, fr, h1, _⟩ := h [];cases e with
     | returned v => exact h1
     | panicked c => exact h1.elim
     | outgrown => obtain ⟨_, _, h2⟩ := h1; exact h2.elim
   | row r args =>
     obtain ⟨v, qN, h1, _⟩ := h (Frame.ofRow P r args .normal) [];exact h1
   | _ => exact h.elim
 | halt x w' =>
   rw [hr] at h;cases x <;> exact h.elim
theorem AT {ops : Array Oper} {b : Bool} {pt : List Nat} (bN : Γ.hd = []) : ∀ (n : Nat) {l : List Bool} {σ : SS} {rs : List Row} {J : List Row → SS → Prop} {ρ : aL} {a : Act} {w : World}, s6 P tab ops.toList b pt n l σ rs J → aM Γ H ρ σ a w → ∃ Ls aD, J Ls aD
 | 0, l, σ, rs, J, ρ, a, w, h, r => by
   unfold s6 at h
   split at h
   · exact ⟨_, _, h⟩
   · cases h
 | n + 1, l, σ, rs, J, ρ, a, w, h, r => by
   unfold s6 at h
   split at h
   · exact ⟨_, _, h⟩
   · split at h
     · rename_i i o hp;obtain ⟨j, hj, h1, h2, h3, hd⟩ := xJ hp;obtain ⟨v, aD, _, hK, r'⟩ := xG hT h hd r (S := fun w' => w' = w) (fun w' lY rd _ => by rw [lY]; exact nn.refl r _);exact AT bN n hK r'
     · split at h
       · cases h
       · rename_i i o _ _
         split at h
         · have h1 := xE hT (Q := fun _ _ _ => False) (fun _ => bN) h r;refine Lr (o := o) (a := a) (w := w) (P := P) (Oper.wp_mono (fun a' w' h2 => ?_) h1);obtain ⟨aD, hK, ⟨ρ', r'⟩, _⟩ := h2;exact AT bN n hK r'
         · cases h
theorem Fc {ops : Array Oper} {b : Bool} {nm0 pt : List Nat} {Q : Exit → Act → World → Prop} {w0 : World} {ρ0 : aL} (hC : nI ops = true)
   (eM : b = true → ∀ k ∈ nm0, (k, ρ0 k) ∈ Γ.hd) (eX : ∀ k ∈ pt, k ∈ nm0) (kq : ∀ c a w, ¬ Q (.panic c) a w) {J : List Bool → SS → Prop} :
   ∀ (n : Nat) {m : Nat} {l : List Bool} {σ : SS} {a : Act} {w : World} {ρ : aL}, u6 P tab ops.toList b pt n l σ J → aM Γ H ρ σ a w → (b = true → gI ρ0 pt w0 w) → km l ≤ m →
     (∀ m' l' aD a' w' ρ', m' ≤ m → J l' aD → aM Γ H ρ' aD a' w' → (b = true → gI ρ0 pt w0 w') → km l' ≤ m' → wpAnyH P .any ops Q (fun w' => (∀ x o, H x = some o → w'.heap[x]? = some o) ∧ (b = true → gI ρ0 pt w0 w')) m' l'.toArray a' w') →
     wpAnyH P .any ops Q (fun w' => (∀ x o, H x = some o → w'.heap[x]? = some o) ∧ (b = true → gI ρ0 pt w0 w')) m l.toArray a w
 | 0, m, l, σ, a, w, ρ, h, r, hk, hc, go => go m l σ a w ρ (Nat.le_refl _) h r hk hc
 | n + 1, m, l, σ, a, w, ρ, h, r, hk, hc, go => by
   have nJ : Region.noSelect ops = true := by
     have h1 := hC;simp only [nI, Bool.and_eq_true] at h1;exact h1.2
   unfold u6 at h
   split at h
   · rename_i i o hp;obtain ⟨j, hj, h1, h2, h3, hd⟩ := xJ hp;rw [Nat.zero_add] at hj;subst hj;have hi : i ∈ Region.ready .any ops l.toArray := qa.2 ⟨oU.2 h2, o, h1, h3⟩;have ho : ops[i]? = some o := by rw [← Array.getElem?_toList]; exact h1
     obtain ⟨v, aD, hy, hK, r'⟩ := xG hT h hd r (S := fun w' => (∀ x o, H x = some o → w'.heap[x]? = some o) ∧ (b = true → gI ρ0 pt w0 w')) fun w' lY rd gJ => by
      refine ⟨lY.1, fun k bC x hx => ?_⟩;cases b with
      | false => simp only [oR, List.isEmpty_iff] at gJ; subst gJ; cases bC
      | true =>
        have h1 : k ∈ pt := by
         simp only [oR, List.all_eq_true] at gJ;simpa using gJ k bC
        have h2 := (r.hd _ (eM rfl k (eX k h1))).2.2 x;have h0 : 0 < (ρ0 k).2 x := by simp only at h2; omega
        rw [lY.2 rfl k h1 x h0, hk rfl k h1 x h0]
     have dA := AS h2;obtain ⟨m, rfl⟩ : ∃ m', m = m' + 1 := ⟨m - 1, by omega⟩;have mK := Fc hC eM eX kq n (m := m) hK r' hk (by omega) (fun m' l' aD a' w' ρ' hm => go m' l' aD a' w' ρ' (by omega));rw [s_, ← List.setIfInBounds_toArray] at mK;exact wpAnyH_take ho nJ (E_ hC hi) (by simpa using hi) (fun c a w hq => (kq _ _ _ hq).elim) hy ⟨r.b.hh, hk⟩ mK
   · exact go m l σ a w ρ (Nat.le_refl _) h r hk hc
theorem Lt {ops : Array Oper} {b : Bool} {nm0 pt : List Nat} {Q : Exit → Act → World → Prop} {w0 : World} {ρ0 : aL} {K : SS → Prop} (hC : nI ops = true)
   (mI : b = false → Γ.hd = []) (eM : b = true → ∀ k ∈ nm0, (k, ρ0 k) ∈ Γ.hd) (eX : ∀ k ∈ pt, k ∈ nm0) (aR : ∀ k ∈ nm0, ∀ x, 0 < (ρ0 k).2 x → x < w0.heap.size) (jP : ∀ k ∈ nm0, ∀ j ∈ nm0, k ≠ j → ∀ x, (ρ0 k).2 x + (ρ0 j).2 x ≤ 1)
   (ko : ∀ k ∈ pt, ∀ b, (ρ0 k).1 = .pointer (some ⟨b, 0, none⟩) → (ρ0 k).2 = one b ∨ ∀ x, (ρ0 k).2 x = 0) (kq : ∀ c a w, ¬ Q (.panic c) a w) (hQ : ∀ aD a' w', K aD → (∃ ρ, aM Γ H ρ aD a' w') → Q .normal a' w')
   {nodes : List Bool → Bool} {st : List Bool → SS} (hK : ∀ l, ki l = true → K (st l)) (hn : ∀ l, nodes l = true → AI P tab ops.toList b nm0 pt nodes st l) :
   ∀ (m : Nat) {l : List Bool} {a : Act} {w : World} {ρ : aL}, nodes l = true → aM Γ H ρ (st l) a w → (b = true → gI ρ0 pt w0 w) → km l ≤ m →
     wpAnyH P .any ops Q (fun w' => (∀ x o, H x = some o → w'.heap[x]? = some o) ∧ (b = true → gI ρ0 pt w0 w')) m l.toArray a w := by
 have fX : ∀ {l : List Bool}, ki l = true → Region.ready .any ops l.toArray = [] := fun {l} h => by
   refine List.eq_nil_iff_forall_not_mem.2 fun i hi => ?_;obtain ⟨h1, _⟩ := qa.1 hi;have := AN h _ (List.mem_of_getElem? (oU.1 h1));cases this
 intro m
 induction m using Nat.strongRecOn with
 | ind m ih =>
   intro l a w ρ hl r hk hc;cases vd : ki l with
   | true => exact wpAnyH_done (fX vd) (hQ _ _ _ (hK l vd) ⟨ρ, r⟩) _
   | false =>
     have h := hn l hl;unfold AI at h;rw [vd] at h;simp only at h
     split at h
     · cases h
     · rename_i r0 rs he
       have aX : Region.ready .any ops l.toArray ≠ [] := by
         obtain ⟨i0, o0⟩ := r0;obtain ⟨j, hj, h1, h2, h3⟩ := AP (i := i0) (o := o0) (by rw [he]; exact List.mem_cons_self);rw [Nat.zero_add] at hj;subst hj;intro h0;have : i0 ∈ Region.ready .any ops l.toArray := qa.2 ⟨oU.2 h2, o0, h1, h3⟩;rw [h0] at this; cases this
       obtain ⟨m, rfl⟩ : ∃ m', m = m' + 1 := by
         cases m with
         | zero =>
           have := Fa (Nat.le_zero.1 hc);rw [this] at vd; cases vd
         | succ m => exact ⟨m, rfl⟩
       refine wpAnyH_all rfl aX fun i hi => ?_;obtain ⟨h1, o, h2, h3⟩ := qa.1 hi;have de := AO (l0 := l) (k := 0) h2 (oU.1 h1) h3;rw [Nat.zero_add, he] at de;have h := AQ h _ de;have ho : ops[i]? = some o := by rw [← Array.getElem?_toList]; exact h2
       have dA := AS (oU.1 h1)
       have next : ∀ (aD : SS) (a' : Act) (w' : World) (ρ' : aL), u6 P tab ops.toList b pt (km l) (iC l i) aD (fun l' s7 => match nodes l' with | true => s7 = st l' | false => False) → aM Γ H ρ' aD a' w' → (b = true → gI ρ0 pt w0 w') →
           wpAnyH P .any ops Q (fun w' => (∀ x o, H x = some o → w'.heap[x]? = some o) ∧ (b = true → gI ρ0 pt w0 w')) m (l.toArray.setIfInBounds i true) a' w' := fun aD a' w' ρ' ix r' bC => by
         have := Fc hT hC eM eX kq (km l) (m := m) ix r' bC (by omega) (fun m' l' aD a' w' ρ' hm hJ r' bC wZ => by
           split at hJ
           · rename_i xo;subst hJ;exact ih m' (by omega) xo r' bC wZ
           · cases hJ)
         rw [s_, ← List.setIfInBounds_toArray] at this;exact this
       simp only at h
       split at h
       · rename_i du;cases b with
         | false =>
           refine AK hT (fun _ => mI rfl) ho h r fun aD a' w' AU hr => ?_;obtain ⟨⟨ρ', r'⟩, _⟩ := hr;exact ⟨⟨r'.b.hh, fun hb => by cases hb⟩, next _ _ _ _ AU r' (fun hb => by cases hb)⟩
         | true =>
           refine AL hT ho (by simpa using du) h r (eM rfl) eX (fun k bC x hx => ⟨_, by rw [hk rfl k bC x hx]; exact Array.getElem?_eq_getElem (aR k (eX k bC) x hx)⟩) jP ko fun aD a' w' AU hr u9 => ?_;obtain ⟨ρ', r'⟩ := hr;have bC : true = true → gI ρ0 pt w0 w' := fun _ k gq x hx => by rw [u9 k gq x hx, hk rfl k gq x hx]
           exact ⟨⟨r'.b.hh, bC⟩, next _ _ _ _ AU r' bC⟩
       · cases h
theorem Lu {ops : Array Oper} {b : Bool} {nm0 pt : List Nat} {Q : Exit → Act → World → Prop} {w0 : World} {ρ0 : aL} {K : SS → Prop} (hC : nI ops = true)
  (mI : b = false → Γ.hd = []) (eM : b = true → ∀ k ∈ nm0, (k, ρ0 k) ∈ Γ.hd) (eX : ∀ k ∈ pt, k ∈ nm0) (aR : ∀ k ∈ nm0, ∀ x, 0 < (ρ0 k).2 x → x < w0.heap.size) (jP : ∀ k ∈ nm0, ∀ j ∈ nm0, k ≠ j → ∀ x, (ρ0 k).2 x + (ρ0 j).2 x ≤ 1)
  (ko : ∀ k ∈ pt, ∀ b, (ρ0 k).1 = .pointer (some ⟨b, 0, none⟩) → (ρ0 k).2 = one b ∨ ∀ x, (ρ0 k).2 x = 0) (kq : ∀ c a w, ¬ Q (.panic c) a w) (hQ : ∀ aD a' w', K aD → (∃ ρ, aM Γ H ρ aD a' w') → Q .normal a' w')
  {n : Nat} {l : List Bool} {σ : SS} {a : Act} {w : World} {ρ : aL} (hl : ki l = false) (h : EW P tab ops.toList b nm0 pt n l σ K) (r : aM Γ H ρ σ a w) (hk : b = true → gI ρ0 pt w0 w) :
   wpAnyH P .any ops Q (fun w' => (∀ x o, H x = some o → w'.heap[x]? = some o) ∧ (b = true → gI ρ0 pt w0 w')) n l.toArray a w := by
 have r0 : aM { Γ with hd := [] } H ρ σ a w := ⟨r.b, r.e, r.d, r.n, (fun p hp => by cases hp), r.hm⟩;obtain ⟨rows, rk, pV, hb, ht⟩ := AT (Γ := { Γ with hd := [] }) hT rfl n h r0;simp only [Bool.and_eq_true] at hb;obtain ⟨rp, fm, rq⟩ := hb
 have e0 : u5 rows σ rk l = σ := by
  unfold u5;rw [hl];exact Fb rq
 refine Lt hT hC mI eM eX aR jP ko kq hQ (nodes := oS rows l) (st := u5 rows σ rk) (fun l' jo => ?_) (fun l' jo => va ht jo) n rp (by rw [e0]; exact r) hk (Nat.le_of_ble_eq_true fm);unfold u5;rw [jo];exact pV
theorem Lv {ops : Array Oper} {b : Bool} {nm0 pt : List Nat} {Q : Exit → Act → World → Prop} {w0 : World} {ρ0 : aL} {K : SS → Prop} (hC : nI ops = true)
   (mI : b = false → Γ.hd = []) (eM : b = true → ∀ k ∈ nm0, (k, ρ0 k) ∈ Γ.hd) (eX : ∀ k ∈ pt, k ∈ nm0) (aR : ∀ k ∈ nm0, ∀ x, 0 < (ρ0 k).2 x → x < w0.heap.size) (jP : ∀ k ∈ nm0, ∀ j ∈ nm0, k ≠ j → ∀ x, (ρ0 k).2 x + (ρ0 j).2 x ≤ 1)
   (ko : ∀ k ∈ pt, ∀ b, (ρ0 k).1 = .pointer (some ⟨b, 0, none⟩) → (ρ0 k).2 = one b ∨ ∀ x, (ρ0 k).2 x = 0) (kq : ∀ c a w, ¬ Q (.panic c) a w) (hQ : ∀ aD a' w', K aD → (∃ ρ, aM Γ H ρ aD a' w') → Q .normal a' w') :
   ∀ (n : Nat) {l : List Bool} {σ : SS} {a : Act} {w : World} {ρ : aL}, p_ P tab ops.toList b nm0 pt n l σ K → aM Γ H ρ σ a w → (b = true → gI ρ0 pt w0 w) →
     wpAnyH P .any ops Q (fun w' => (∀ x o, H x = some o → w'.heap[x]? = some o) ∧ (b = true → gI ρ0 pt w0 w')) n l.toArray a w := by
 have nJ : Region.noSelect ops = true := by
   simp only [nI, Bool.and_eq_true] at hC;exact hC.2
 have fX : ∀ {l : List Bool}, ki l = true → Region.ready .any ops l.toArray = [] := fun {l} h => by
   refine List.eq_nil_iff_forall_not_mem.2 fun i hi => ?_;obtain ⟨h1, _⟩ := qa.1 hi;have := AN h _ (List.mem_of_getElem? (oU.1 h1));cases this
 intro n
 induction n with
 | zero =>
   intro l σ a w ρ h r hk;unfold p_ at h
   split at h
   · rename_i he;exact ⟨fX he, hQ _ _ _ h ⟨ρ, r⟩⟩
   · cases h
 | succ n ih =>
   intro l σ a w ρ h r hk;unfold p_ at h
   split at h
   · rename_i he;exact wpAnyH_done (fX he) (hQ _ _ _ h ⟨ρ, r⟩) _
   · split at h
     · rename_i i o hp;obtain ⟨j, hj, h1, h2, h3, hd⟩ := xJ hp;rw [Nat.zero_add] at hj;subst hj;have hi : i ∈ Region.ready .any ops l.toArray := qa.2 ⟨oU.2 h2, o, h1, h3⟩;have ho : ops[i]? = some o := by rw [← Array.getElem?_toList]; exact h1
       obtain ⟨v, aD, hy, hK, r'⟩ := xG hT h hd r (S := fun w' => (∀ x o, H x = some o → w'.heap[x]? = some o) ∧ (b = true → gI ρ0 pt w0 w')) fun w' lY rd gJ => by
         refine ⟨lY.1, fun k bC x hx => ?_⟩;cases b with
         | false => simp only [oR, List.isEmpty_iff] at gJ; subst gJ; cases bC
         | true =>
           have h1 : k ∈ pt := by
             simp only [oR, List.all_eq_true] at gJ;simpa using gJ k bC
           have h2 := (r.hd _ (eM rfl k (eX k h1))).2.2 x;have h0 : 0 < (ρ0 k).2 x := by simp only at h2; omega
           rw [lY.2 rfl k h1 x h0, hk rfl k h1 x h0]
       have mK := ih hK r' hk;rw [s_, ← List.setIfInBounds_toArray] at mK;exact wpAnyH_take ho nJ (E_ hC hi) (by simpa using hi) (fun c a w hq => (kq _ _ _ hq).elim) hy ⟨r.b.hh, hk⟩ mK
     · split at h
       · cases h
       · rename_i r0 rs he
         have aX : Region.ready .any ops l.toArray ≠ [] := by
           obtain ⟨i0, o0⟩ := r0;obtain ⟨j, hj, h1, h2, h3⟩ := AP (i := i0) (o := o0) (by rw [he]; exact List.mem_cons_self);rw [Nat.zero_add] at hj;subst hj;intro h0;have : i0 ∈ Region.ready .any ops l.toArray := qa.2 ⟨oU.2 h2, o0, h1, h3⟩;rw [h0] at this; cases this
         split at h
         · exact Lu hT hC mI eM eX aR jP ko kq hQ (by assumption) h r hk
         refine wpAnyH_all rfl aX fun i hi => ?_;obtain ⟨h1, o, h2, h3⟩ := qa.1 hi;have de := AO (l0 := l) (k := 0) h2 (oU.1 h1) h3;rw [Nat.zero_add, he] at de;have h := AQ h _ de;have ho : ops[i]? = some o := by rw [← Array.getElem?_toList]; exact h2
         simp only at h
         split at h
         · rename_i du;cases b with
           | false =>
             refine AK hT (fun _ => mI rfl) ho h r fun aD a' w' hK hr => ?_;obtain ⟨⟨ρ', r'⟩, _⟩ := hr;have mK := ih hK r' (fun hb => by cases hb);rw [s_, ← List.setIfInBounds_toArray] at mK;exact ⟨⟨r'.b.hh, fun hb => by cases hb⟩, mK⟩
           | true =>
             refine AL hT ho (by simpa using du) h r (eM rfl) eX (fun k bC x hx => ⟨_, by rw [hk rfl k bC x hx]; exact Array.getElem?_eq_getElem (aR k (eX k bC) x hx)⟩) jP ko fun aD a' w' hK hr u9 => ?_;obtain ⟨ρ', r'⟩ := hr;have bC : true = true → gI ρ0 pt w0 w' := fun _ k gq x hx => by rw [u9 k gq x hx, hk rfl k gq x hx]
             have mK := ih hK r' bC;rw [s_, ← List.setIfInBounds_toArray] at mK;exact ⟨⟨r'.b.hh, bC⟩, mK⟩
         · cases h
theorem Lw {id : Nat} {ops : Array Oper} {σ : SS} {a : Act} {w : World} {K : Exit → SS → Prop} {Q : Exit → Act → World → Prop} (bN : Γ.hd = []) (hC : nI ops = true)
   (h : AJ P tab ops σ fun aD => K .normal aD)
   (r : Rel Γ σ a w) (hQ : ∀ aD a' w', K .normal aD → Rel Γ aD a' w' → Q .normal a' w') : (Code.region id ops true).wp P Q a w := by
 have key : ∀ (b : Bool) (pt : List Nat), (∀ k ∈ pt, k ∈ σ.ai.map (·.1)) → p_ P tab ops.toList b (σ.ai.map (·.1)) pt ops.toList.length (rj ops.toList) σ (fun aD => K .normal aD) → (Code.region id ops true).wp P Q a w := by
   intro b pt eX h;obtain ⟨H, ρ, r⟩ := r
   let mJ : Ctx := { Γ with hd := if b = true then σ.ai.map fun p => (p.1, ρ p.1) else [] }
   have r' : aM mJ H ρ σ a { w with drawn := w.drawn + 1 } := by
    refine ⟨r.b, r.e, r.d, r.n.trans ⟨Nat.le_refl _, rfl, rfl, fun _ => rfl⟩, fun p hp => ?_, r.hm⟩;simp only [mJ] at hp
    split at hp
    · obtain ⟨q, hq, rfl⟩ := List.mem_map.1 hp;exact ⟨List.mem_map.2 ⟨q, hq, rfl⟩, rfl, fun x => Nat.le_refl _⟩
    · cases hp
   have Lx : (rj ops.toList).toArray = Array.replicate ops.size false := by rw [E8]; simp
   have bg : ops.toList.length = ops.size := by simp
   refine Code.wp_mono (Q := fun e a w => match e with | .normal => Q .normal a w | _ => False) (fun e a w hq => by cases e <;> first | exact hq | exact hq.elim) ?_
   have main := Lv (Γ := mJ) (H := H) (ρ0 := ρ) (w0 := { w with drawn := w.drawn + 1 }) (b := b) (nm0 := σ.ai.map (·.1)) (pt := pt) (K := fun aD => K .normal aD) (Q := fun e a w => match e with | .normal => Q .normal a w | _ => False) hT hC (fun hb => by simp only [mJ, hb]; rfl) (fun hb k hk => by
      obtain ⟨q, hq, rfl⟩ := List.mem_map.1 hk;simp only [mJ, hb, if_true];exact List.mem_map.2 ⟨q, hq, rfl⟩) eX (fun k hk x hx => by
      obtain ⟨q, hq, rfl⟩ := List.mem_map.1 hk;exact r'.lt (Nat.lt_of_lt_of_le hx (mo hq x))) (fun k hk j hj aX x => Nat.le_trans (uG hk hj (Ne.symm aX) x) (r.b.sum x)) (fun k hk b hb => by
      obtain ⟨q, hq, rfl⟩ := List.mem_map.1 (eX k hk);exact E6 (r.b.ai _ _ hq) hb) (fun c a w hq => hq) (fun aD a' w' hK hr => by
      obtain ⟨ρ', r2⟩ := hr;exact hQ _ _ _ hK ⟨H, ρ', r2.b, r2.e, r2.d, r2.n, by rw [bN]; (intro p hp; cases hp), r2.hm⟩) _ h r' (fun _ _ _ _ _ => rfl)
   rw [Lx, bg] at main;exact wp_region_held (C2 hT) main
 unfold AJ at h
 split at h
 · rename_i nw ws _;cases nw with
   | true => exact key true _ (fun k hk => s9 (xI hk)) h
   | false => exact key true _ (fun k hk => s9 hk) h
 · exact key false [] (fun k hk => by cases hk) h
end
end Go.Proofs.YticeaiiffeccmaaGreat

