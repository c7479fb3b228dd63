/- Parts of a proof. No conditions. -/

import Derived.Test.YtlochjpjlhkjaaaG02
import Derived.Laws.BytesArg
import Derived.OrdersHeld
set_option linter.unusedSimpArgs false
set_option linter.unusedVariables false
namespace Go.Proofs.Ytlochjpjlhkjaaa
open Go
def SS.eat (σ : SS) (ks : List Nat) (k : Nat) (B : Blk) : SS := { σ with blk := insB (killL σ.blk ks) k B }
def vcLst (tab : Tab) (o : Oper) (σ : SS) (K : SS → Prop) : Prop :=
  match o.op, o.dst with
  | .buildSlice T n parts, some d =>
    match tget tab T, getB σ.blk (8 * d) with
    | some (.sl E _ _), none =>
      match mkEs σ.blk E (parts.toList.map fun p => σ.ev p.2) with
      | some (xs, ks) => if dense 0 parts.toList = true ∧ parts.toList.length = n ∧ n * E.sz ≤ 16777216 ∧ nodupB ks = true then K ((σ.eat ks (8 * d) (.own E xs false)).put (some d) (.c (.own (8 * d)))) else False
      | none => False
    | _, _ => False
  | .call c, some d =>
    match c.callee, c.args.toList, c.argTypes.toList with
    | .builtin .len, _, _ => vcMem tab o σ K
    | .builtin .append, [x, y], [T, T2] =>
      match tget tab T, getB σ.blk (8 * d) with
      | some (.sl E _ bytes), none =>
        match listV σ.blk E (σ.ev x), srcA tab T2 σ.blk E (σ.ev y) with
        | some (xs, k1), some (ys, k2) =>
          if nodupB (k1 ++ k2) = true ∧ 0 < bytes then
            Ob (fun _ => ((xs ()).length + (ys ()).length) * bytes ≤ 140737488355328) fun _ => K ((σ.eat (k1 ++ k2) (8 * d) (.own E (fun _ => xs () ++ ys ()) false)).put (some d) (.c (.own (8 * d))))
          else False
        | _, _ => False
      | _, _ => False
    | _, _, _ => False
  | .makeSlice T l c, some d =>
    match tget tab T, getB σ.blk (8 * d), σ.ev l, σ.ev c with
    | some (.sl E _ bytes), none, .c (.lf (.int _ i)), .c (.lf (.int _ j)) =>
      if 0 < bytes then
        Ob (fun _ => 0 ≤ i () ∧ i () ≤ j () ∧ j () * (bytes : Int) ≤ 140737488355328) fun _ => K ((σ.eat [] (8 * d) (.own E (fun _ => List.replicate (i ()).toNat E.dflt) false)).put (some d) (.c (.own (8 * d))))
      else False
    | _, _, _, _ => False
  | .slice T x lo hi none, some d =>
    match tget tab T, getB σ.blk (8 * d), σ.ev x with
    | some (.sl E _ _), none, .c (.own k) =>
      match listV σ.blk E (.c (.own k)) with
      | some (xs, ks) =>
        match boundV (lo.map σ.ev) fun _ => 0, boundV (hi.map σ.ev) fun _ => ((xs ()).length : Int) with
        | some l, some h => Ob (fun _ => 0 ≤ l () ∧ l () ≤ h () ∧ h () ≤ (xs ()).length) fun _ =>
            K ((σ.eat ks (8 * d) (.own E (fun _ => ((xs ()).take (h ()).toNat).drop (l ()).toNat) false)).put (some d) (.c (.own (8 * d))))
        | _, _ => False
      | none => False
    | _, _, _ => False
  | .convert S D x, some d =>
    match tget tab S, tget tab D, σ.ev x with
    | some (.sl .byte e _), some .ss, .c (.own k) =>
      match getB σ.blk k, tget tab e with
      | some (.own E xs _), some (.it .u8) => (match castL .byte E xs with | some ys => K (σ.put (some d) (.c (.lf (.str ys)))) | none => False)
      | _, _ => False
    | _, _, _ => False
  | .store T p v, none =>
    match σ.ev p with
    | .c (.oel k E i off) => vcStoreE tab σ K T k E i off (σ.ev v)
    | _ => vcMem tab o σ K
  | .load T x, some d =>
    match σ.ev x with
    | .c (.oel k E i off) => if tyL tab T = true then vcLoadE tab σ K T d k E i off else False
    | _ => False
  | _, _ => vcMem tab o σ K
section
variable {P : Program} {tab : Tab} (hT : tabB P tab = true) {Γ : Ctx} {H : Hp} {ρ : Rho} {σ : SS} {a : Act} {w : World} (r : RelH Γ H ρ σ a w)
include hT r
omit hT in
theorem eat_put {ks : List Nat} (hn : nodupB ks = true) (hu : unlent σ.blk ks = true) {d : Nat} (hk : getB σ.blk (8 * d) = none) {E : ETy} {xs : Unit → List E.α} {v : Value} {p : Nat → Nat} {w' : World}
    (hh : ∀ x, x < w.heap.size → sumK ρ ks x = 0 → w'.heap[x]? = w.heap[x]?) (hsz : Ext w w') (hown : OwnL w'.heap (.list E xs) v p)
    (hp : ∀ x, x < w.heap.size → p x ≤ sumK ρ ks x) (hp' : ∀ x, w.heap.size ≤ x → p x ≤ 1) :
    ∃ ρ, RelH Γ H ρ ((σ.eat ks (8 * d) (.own E xs false)).put (some d) (.c (.own (8 * d)))) (a.put (some d) v) w' := by
  obtain ⟨ρ', r1, h1, _⟩ := r.eat hn hu hk (p := (v, p)) hh hsz hown hown.one hp hp'
  exact ⟨ρ', RelH.put r1 (v := .c (.own (8 * d))) ⟨dom_insB.2 (.inl rfl), h1.symm⟩ (some d)⟩
omit hT in
theorem listV_ok {E : ETy} {v : V} {xs : Unit → List E.α} {ks : List Nat} {u : Value} (h : listV σ.blk E v = some (xs, ks)) (hv : RV H ρ (dom σ.blk) v u) :
    unlent σ.blk ks = true ∧ OwnL w.heap (.list E xs) u (sumK ρ ks) := by
  unfold listV at h
  split at h
  · cases h
    simp only [RV, RC] at hv
    subst hv
    exact ⟨rfl, OwnL.nil rfl⟩
  · rename_i k
    split at h
    · rename_i E' xs' hg
      split at h
      · rename_i ys hc
        cases h
        obtain ⟨_, rfl⟩ := hv
        have := own_of r hg
        rw [castL_ok hc] at this
        refine ⟨by simp [unlent, hg], ?_⟩
        have e : sumK ρ [k] = (ρ k).2 := by funext x; simp [sumK]
        rw [e]; exact this
      · cases h
    · cases h
  · cases h
omit hT r in
theorem own_news {E : ETy} {xs : Unit → List E.α} {u : Value} {p : Nat → Nat} (ho : OwnL w.heap (.list E xs) u p) : ∃ news S, News w E (xs ()) u news S ∧ ∀ x, segN (xs ()).length E.sz S x ≤ p x := by
  rcases ho.seg with ⟨rfl, h0, rfl⟩ | ⟨b, off, c, vs, e, fz, S, rfl, rfl, hb, hf, hl, hm, hoff, hs⟩
  · rw [h0]; exact ⟨[], _, News.nil none 0, fun x => by simp [segN, sumN]⟩
  · obtain ⟨news, hN⟩ := News.of (c := c) hb (by have := Nat.mul_le_mul_right E.sz hl; omega) hs
    exact ⟨news, S, hN, fun x => by simp only [cnt, segN]; exact Nat.le_add_left _ _⟩
omit hT in
theorem srcL_ok {E : ETy} {v : V} {xs : Unit → List E.α} {ks : List Nat} {u : Value} (h : srcL σ.blk E v = some (xs, ks)) (hv : RV H ρ (dom σ.blk) v u) :
    unlent σ.blk ks = true ∧ ∃ news S, News w E (xs ()) u news S ∧ ∀ x, segN (xs ()).length E.sz S x ≤ sumK ρ ks x := by
  unfold srcL at h
  split at h
  · rename_i E' t
    split at h
    · rename_i hf
      split at h
      · rename_i ys hc
        cases h
        have hr : RL H (.list E' t) u := hv
        rw [castL_ok hc] at hr
        refine ⟨rfl, ?_⟩
        rcases hr.seg (h := w.heap) r.b.hh hf with ⟨a, c, rfl, h0⟩ | ⟨b, off, c, vs, e, fz, rfl, hb, ho, hm, hs⟩
        · rw [h0]; exact ⟨[], _, News.nil a c, fun x => by simp [segN, sumN]⟩
        · obtain ⟨news, hN⟩ := News.of (c := c) hb ho hs
          refine ⟨news, _, hN, fun x => ?_⟩
          have : segN (xs ()).length E.sz (fun _ _ _ => 0) x = 0 := sumN_zero fun i _ => sumN_zero fun j _ => rfl
          omega
      · cases h
    · cases h
  · rename_i k
    split at h
    · rename_i hf
      split at h
      · rename_i E' xs' l hg
        split at h
        · rename_i ys hc
          cases h
          obtain ⟨_, rfl⟩ := hv
          have ho := own_of r hg
          rw [castL_ok hc] at ho
          obtain ⟨news, S, hN, _⟩ := own_news ho
          refine ⟨rfl, news, fun _ _ _ => 0, ⟨hN.len, hN.one, hN.seg.flat hf, hN.val⟩, fun x => ?_⟩
          have : segN (xs ()).length E.sz (fun _ _ _ => 0) x = 0 := sumN_zero fun i _ => sumN_zero fun j _ => rfl
          omega
        · cases h
      · cases h
    · obtain ⟨h1, h2⟩ := listV_ok r h hv
      exact ⟨h1, own_news h2⟩
  · obtain ⟨h1, h2⟩ := listV_ok r h hv
    exact ⟨h1, own_news h2⟩
omit r in
theorem sl_info {T : TypeId} {E : ETy} {elem bytes : Nat} (h : tget tab T = some (.sl E elem bytes)) :
    P.underlying T = some (.slice elem) ∧ ∃ i z, P.info? elem = some i ∧ i.size = E.sz ∧ i.bytes = bytes ∧ i.zero = some z ∧ Z.oks (zOf E) z.cells.toList = true ∧ z.cells.size = E.sz := by
  obtain ⟨h1, i, z, h2, h3, h4, h5, h6⟩ := ti_sl (tget_ok hT h)
  refine ⟨h1, i, z, h2, h3, h4, h5, h6, ?_⟩
  have := Z.oks_len h6
  rw [zOf_len] at this
  simpa using this
theorem srcA_ok {T : TypeId} {E : ETy} {v : V} {xs : Unit → List E.α} {ks : List Nat} {u : Value} (h : srcA tab T σ.blk E v = some (xs, ks)) (hv : RV H ρ (dom σ.blk) v u) :
    unlent σ.blk ks = true ∧ ∃ news S, NewsS P w E (xs ()) T u news S ∧ ∀ x, segN (xs ()).length E.sz S x ≤ sumK ρ ks x := by
  unfold srcA at h
  split at h
  · rename_i hti
    obtain ⟨hU, _⟩ := sl_info hT hti
    obtain ⟨h1, news, S, h2, h3⟩ := srcL_ok r h hv
    exact ⟨h1, news, S, h2.toS hU, h3⟩
  · rename_i hti
    have hU := (ti_ss (tget_ok hT hti)).1
    split at h
    · rename_i t
      cases h
      have hr : RL H (.str t) u := hv
      obtain ⟨rfl, _⟩ := RL.of_str hr
      refine ⟨rfl, _, _, NewsS.str hU _, fun x => ?_⟩
      have : segN (t ()).length (ETy.byte).sz (fun _ _ _ => 0) x = 0 := sumN_zero fun i _ => sumN_zero fun j _ => rfl
      rw [this]; exact Nat.zero_le _
    · cases h
  · cases h
theorem vcLst_ok {o : Oper} {K : SS → Prop} {Q : Exit → Act → World → Prop} (hw : isWr tab o = true → Γ.hd = []) (h : vcLst tab o σ K) :
    o.wp P a w (fun a' w' => ∃ σ', K σ' ∧ RelK Γ H (isWr tab o) w σ' a' w') Q := by
  have ev := ev_ok r.e
  unfold vcLst at h
  split at h
  · -- a literal
    rename_i T n parts d hop hd
    split at h
    · rename_i E elem bytes hti hg
      split at h
      · rename_i xs ks hm
        split at h
        · rename_i hc
          obtain ⟨hc1, hc2, hc3, hc4⟩ := hc
          obtain ⟨hU, i, z, hi, hsz, hby, hz, hzo, hzs⟩ := sl_info hT hti
          obtain ⟨g1, g2, g3, g4, S, g5, g6⟩ := mkEs_ok r hm (us := parts.toList.map fun p => a.eval p.2) (by simp) fun j v u hj hj' => by
            rw [List.getElem?_map, Option.map_eq_some_iff] at hj hj'
            obtain ⟨p, h1, rfl⟩ := hj
            obtain ⟨p', h2, rfl⟩ := hj'
            rw [h1] at h2
            cases h2
            exact ev _
          have hlen : (parts.toList.map fun p => a.eval p.2).length = n := by simpa using hc2
          generalize hus : (parts.toList.map fun p => a.eval p.2) = us at g1 g2 g3 g5 g6 hlen
          generalize hcl : (us.flatMap fun u => u.cells.toList) = cl at g3 g5
          have hrun : (Instr.buildSlice T n (parts.map fun p => (p.1, a.eval p.2))).run P w = .ok (.slice (some ⟨w.heap.size, 0, none⟩) n n) (w.alloc (.cells cl.toArray elem)) := by
            have hpl : (parts.map fun p => (p.1, a.eval p.2)).toList = (us.zipIdx 0).map fun x => (x.2, x.1) := by
              rw [Array.toList_map, dense_ok (f := a.eval) hc1, hus]
            rcases Nat.eq_zero_or_pos n with h0 | h0
            · subst h0
              have : us = [] := List.length_eq_zero_iff.1 hlen
              subst this
              simp only [List.flatMap_nil] at hcl
              subst hcl
              have hp0 : parts = #[] := Array.toList_inj.1 (List.length_eq_zero_iff.1 hc2)
              subst hp0
              simp [Instr.buildSlice, run_underlying hU, sizeOf, typeInfo, hi, Instr.fill, newRow]
              have h00 : Array.map (fun _ : Nat => (default : Value)) (Array.range 0) = #[] := by simp [Array.range]
              rw [h00]
            · refine run_buildSlice w T elem n _ _ i z hU hi hz (by rw [hsz]; omega) (by rw [hsz]; have := Nat.mul_pos h0 (sz_pos E); omega) ?_
              rw [hpl, hsz, ← hcl]
              refine Great.fill_whole (sz_pos E) us _ g2 ?_
              simp [hlen]
          refine wp_value (v := .slice (some ⟨w.heap.size, 0, none⟩) n n) (w' := w.alloc (.cells cl.toArray elem)) ?_ ⟨_, h, ?_, fun _ => KeepW.alloc w _⟩
          · simp only [execOp, hop, Sem.run_bind, hrun, Result.andThen_ok]; rfl
          · rw [hd]
            have hown := (Seg.mono (h' := (w.alloc (.cells cl.toArray elem)).heap) (g5.cells (ds := fun q => cl.toArray.getD (0 + q) Go.undef) fun q hq => by
                rw [Nat.zero_add, Array.getD_eq_getD_getElem?, List.getElem?_toArray, List.getD_eq_getElem?_getD]) fun x hx => by
                rw [g1, g6] at hx
                have := sumK_le (ρ := ρ) ks hc4 (fun k hk => by obtain ⟨E, xs, hg⟩ := unlent_get g4 k hk; exact getB_dom hg) x
                exact alloc_old w _ x (r.lt (by omega))).own (b := w.heap.size) (c := n) (fz := (0, 0)) (alloc_new w _) (NF_zero _) (by omega) (by unfold maxL; have := Nat.le_mul_of_pos_right n (sz_pos E); omega)
                (by rw [Nat.zero_add, List.size_toArray, g3, hlen]; exact Nat.le_refl _)
            rw [g1, hlen] at hown
            refine eat_put r hc4 g4 hg (fun x hx _ => alloc_old w _ x hx) (alloc_ext w _ _) hown (fun x hx => ?_) fun x hx => ?_
            · simp only [cnt]
              rw [if_neg (Nat.ne_of_lt hx)]
              have := g6 x
              rw [hlen] at this
              simp only [segN] at this
              omega
            · have h1 := g6 x
              have h2 := sumK_le (ρ := ρ) ks hc4 (fun k hk => by obtain ⟨E, xs, hg⟩ := unlent_get g4 k hk; exact getB_dom hg) x
              have h3 := (r.none_above hx).2
              rw [hlen] at h1
              simp only [segN] at h1
              simp only [cnt]
              split <;> omega
        · cases h
      · cases h
    · cases h
  · -- append
    rename_i c d hop hd
    split at h
    · exact vcMem_ok hT r h
    · rename_i x y T T2 hcal hargs htys
      split at h
      · rename_i E elem bytes hti hg
        split at h
        · rename_i xs k1 ys k2 hx hy
          split at h
          · rename_i hc
            obtain ⟨hc1, hc2⟩ := hc
            obtain ⟨hob, hk⟩ := h
            obtain ⟨hU, i, z, hi, hsz, hby, hz, hzo, hzs⟩ := sl_info hT hti
            obtain ⟨u1, ox⟩ := listV_ok r hx (ev x)
            obtain ⟨u2, news, S2, hN, hS2⟩ := srcA_ok hT r hy (ev y)
            have hdd : ∀ k ∈ k1 ++ k2, dom σ.blk k := fun k hk => by obtain ⟨E, xs, hg⟩ := unlent_get (unlent_app u1 u2) k hk; exact getB_dom hg
            have hle : ∀ x, sumK ρ k1 x + sumK ρ k2 x ≤ tot ρ σ.blk x := fun x => by rw [← sumK_app]; exact sumK_le (ρ := ρ) _ hc1 hdd x
            obtain ⟨v, p, w', r1, r2, r3, r4, r5, r6⟩ := run_append (P := P) (T := T) (T2 := T2) (ty := o.type) (E := E) (xs := xs ()) (ys := ys ()) ox hN hS2 (fun x => Nat.le_trans (hle x) (r.b.sum x)) (fun x hx => r.lt (Nat.lt_of_lt_of_le hx (hle x)))
              hU hi hz hsz hzs (by omega) (by rw [hby]; exact hob)
            refine wp_value (v := v) (w' := w') ?_ ⟨_, hk, ?_, fun hw => by simp [isWr, hop, hcal] at hw⟩
            · have e1 : c.args = #[x, y] := by rw [← Array.toArray_toList (xs := c.args), hargs]
              have e2 : c.argTypes = #[T, T2] := by rw [← Array.toArray_toList (xs := c.argTypes), htys]
              obtain ⟨callee, args, argTypes⟩ := c
              simp only at hcal e1 e2
              subst hcal e1 e2
              simp [execOp, hop, resolve, invoke, builtin, r1, Result.andThen]
            · rw [hd]
              refine eat_put r hc1 (unlent_app u1 u2) hg (fun x hx h0 => ?_) r3 r2 (fun x hx => ?_) r6
              · rw [sumK_app] at h0
                exact r4 x hx (by omega)
              · rw [sumK_app]; exact r5 x hx
          · cases h
        · cases h
      · cases h
    · cases h
  · -- make
    rename_i T l c d hop hd
    split at h
    · rename_i E elem bytes kl i kc j hti hg hl hcap
      split at h
      · rename_i hb
        obtain ⟨⟨o1, o2, o3⟩, hk⟩ := h
        obtain ⟨hU, ii, z, hi, hsz, hby, hz, hzo, hzs⟩ := sl_info hT hti
        have el := ev l
        have ec := ev c
        rw [hl] at el
        rw [hcap] at ec
        obtain ⟨el, _⟩ := RL.of_int el
        obtain ⟨ec, _⟩ := RL.of_int ec
        have hjb : j () ≤ 140737488355328 := by
          have : j () * 1 ≤ j () * (bytes : Int) := Int.mul_le_mul_of_nonneg_left (by omega) (by omega)
          omega
        have hrun := run_make (P := P) w T elem ii z hU hi hz kl kc (i ()) (j ()) o1 o2 (by rw [hby, Int.mul_comm]; omega) (by omega)
        refine wp_value (v := _) (w' := _) (by simp only [execOp, hop, el, ec, Sem.run_bind, hrun, Result.andThen_ok]; rfl) ⟨_, hk, ?_, fun _ => KeepW.alloc w _⟩
        rw [hd]
        have hlen : (List.replicate (i ()).toNat E.dflt).length = (i ()).toNat := by simp
        have hseg : Seg (w.alloc (.cells (madeCells z.cells ((j ()).toNat * ii.size)) elem)).heap E (List.replicate (i ()).toNat E.dflt) (fun q => (madeCells z.cells ((j ()).toNat * ii.size)).getD (0 + q) Go.undef) fun _ _ _ => 0 := by
          rw [hsz]
          intro q x hx jj ll hj
          refine seg_zero hzo (j ()).toNat q x ?_ jj ll hj
          have := lt_of_get hx
          rw [hlen] at this
          rw [List.getElem?_replicate, if_pos this] at hx
          rw [List.getElem?_replicate, if_pos (by omega)]
          exact hx
        have hown := hseg.own (b := w.heap.size) (c := (j ()).toNat) (fz := (0, 0)) (alloc_new w _) (NF_zero _) (by rw [hlen]; omega) (by rw [hlen]; unfold maxL; omega) (by rw [size_madeCells, hsz]; omega)
        rw [hlen] at hown
        have hcnt : ∀ x, cnt w.heap.size (i ()).toNat E.sz (fun _ _ _ => 0) x = if x = w.heap.size then 1 else 0 := fun x => by
          simp only [cnt]
          rw [sumN_zero fun i _ => sumN_zero fun j _ => rfl]
          rfl
        refine eat_put r (ks := []) rfl rfl hg (fun x hx _ => alloc_old w _ x hx) (alloc_ext w _ _) hown (fun x hx => ?_) fun x hx => ?_
        · rw [hcnt, if_neg (Nat.ne_of_lt hx)]; exact Nat.zero_le _
        · rw [hcnt]; split <;> omega
      · cases h
    · cases h
  · -- a part of a list
    rename_i T x lo hi d hop hd
    split at h
    · rename_i E elem bytes k hti hg hxv
      split at h
      · rename_i xs ks hm
        split at h
        · rename_i l hh hl hhi
          obtain ⟨⟨o1, o2, o3⟩, hk⟩ := h
          obtain ⟨hU, ii, z, hin, hsz, _⟩ := sl_info hT hti
          have evx := ev x
          rw [hxv] at evx
          obtain ⟨hu, ho⟩ := listV_ok r hm evx
          have hks : ks = [k] := by
            simp only [listV] at hm
            split at hm
            · split at hm
              · cases hm; rfl
              · cases hm
            · cases hm
          subst hks
          obtain ⟨L, hL⟩ := Int.eq_ofNat_of_zero_le o1
          obtain ⟨U, hU'⟩ := Int.eq_ofNat_of_zero_le (show 0 ≤ hh () by omega)
          have e1 : (lo.map a.eval = none ∧ L = 0) ∨ ∃ k, lo.map a.eval = some (.int k (L : Int)) := by
            rcases boundV_ok hl ev with ⟨h1, h2⟩ | ⟨k, h1⟩
            · refine .inl ⟨h1, ?_⟩; rw [h2] at hL; simp at hL; omega
            · exact .inr ⟨k, by rw [h1, hL]⟩
          have e2 : (hi.map a.eval = none ∧ U = (xs ()).length) ∨ ∃ k, hi.map a.eval = some (.int k (U : Int)) := by
            rcases boundV_ok hhi ev with ⟨h1, h2⟩ | ⟨k, h1⟩
            · refine .inl ⟨h1, ?_⟩; rw [h2] at hU'; simp at hU'; omega
            · exact .inr ⟨k, by rw [h1, hU']⟩
          have hLU : L ≤ U := by omega
          have hUn : U ≤ (xs ()).length := by omega
          have eL : (l ()).toNat = L := by omega
          have eU : (hh ()).toNat = U := by omega
          have hlen : (((xs ()).take U).drop L).length = U - L := by simp; omega
          have hrun : ∀ (bb : Option Addr) (cc : Nat), (xs ()).length ≤ cc → a.eval x = .slice bb (xs ()).length cc → (execOp a.eval o).run P w =
              .ok (.value (.slice (if cc = L then bb else bb.map (·.add (L * E.sz))) (U - L) (cc - L))) w := fun bb cc hcc hv => by
            simp only [execOp, hop, Option.map_none, hv, Instr.sliceAt, Sem.run_bind, run_und w hU, Result.andThen_ok, Instr.slice]
            rw [run_bounds true w e1 e2 hLU (by omega)]
            simp only [Result.andThen_ok, run_szOf w hin, hsz, Sem.run_pure]
          rcases ho.seg with ⟨hv, h0, hp⟩ | ⟨b, off, c, vs, e, fz, S, hv, hp, hb, hf, hlc, hmx, hoff, hs⟩
          · have hx0 : (xs ()).length = 0 := by rw [h0]; rfl
            refine wp_value (hrun none 0 (by omega) (by rw [hv, hx0])) ⟨_, hk, ?_, fun _ => KeepW.refl w⟩
            rw [hd]
            have : (if 0 = L then none else Option.map (fun x : Addr => x.add (L * E.sz)) none) = none := by split <;> rfl
            rw [this, show U - L = 0 by omega, Nat.zero_sub]
            exact eat_put r rfl hu hg (fun _ _ _ => rfl) (Ext.refl _) (OwnL.nil (by rw [eL, eU, h0]; simp)) (fun _ _ => Nat.zero_le _) fun _ _ => Nat.zero_le _
          · refine wp_value (hrun _ c hlc hv) ⟨_, hk, ?_, fun _ => KeepW.refl w⟩
            rw [hd]
            have hcb : ∀ x, segN (U - L) E.sz (fun i => S (L + i)) x ≤ segN (xs ()).length E.sz S x := fun x => by
              have h1 : segN (xs ()).length E.sz S x = segN L E.sz S x + segN ((xs ()).length - L) E.sz (fun i => S (L + i)) x := by
                have : (xs ()).length = L + ((xs ()).length - L) := by omega
                rw [this]
                unfold segN
                rw [sumN_app]
                simp
              have h2 : segN ((xs ()).length - L) E.sz (fun i => S (L + i)) x = segN (U - L) E.sz (fun i => S (L + i)) x + segN ((xs ()).length - U) E.sz (fun i => S (L + (U - L + i))) x := by
                have : (xs ()).length - L = (U - L) + ((xs ()).length - U) := by omega
                rw [this]
                unfold segN
                rw [sumN_app]
              omega
            have hseg : ∀ o', o' = off + L * E.sz → Seg w.heap E (((xs ()).take (hh ()).toNat).drop (l ()).toNat) (fun q => vs.getD (o' + q) Go.undef) fun i => S (L + i) := by
              intro o' ho' i y hy j l' hj
              subst ho'
              rw [eL, eU, List.getElem?_drop, List.getElem?_take] at hy
              split at hy
              · have := hs (L + i) y hy j l' hj
                simp only [Nat.add_mul] at this
                simp only
                rw [show off + L * E.sz + (i * E.sz + j) = off + (L * E.sz + i * E.sz + j) by omega]
                exact this
              · cases hy
            have hcc : L * E.sz ≤ c * E.sz := Nat.mul_le_mul_right _ (by omega)
            have fin : ∀ (o' : Nat) (p' : Nat → Nat), OwnL w.heap (.list E fun _ => ((xs ()).take (hh ()).toNat).drop (l ()).toNat) (.slice (some ⟨b, o', none⟩) (U - L) (c - L)) p' → (∀ x, p' x ≤ cnt b (xs ()).length E.sz S x) →
                ∃ ρ, RelH Γ H ρ ((σ.eat [k] (8 * d) (.own E (fun _ => ((xs ()).take (hh ()).toNat).drop (l ()).toNat) false)).put (some d) (.c (.own (8 * d)))) (a.put (some d) (.slice (some ⟨b, o', none⟩) (U - L) (c - L))) w := fun o' p' h1 h2 => by
              have hq : ∀ x, p' x ≤ sumK ρ [k] x := fun x => by rw [hp]; exact h2 x
              refine eat_put r rfl hu hg (fun _ _ _ => rfl) (Ext.refl _) h1 (fun x _ => hq x) fun x _ => ?_
              have h3 := sumK_le (ρ := ρ) [k] rfl (fun k' hk' => by obtain ⟨E, xs, hg⟩ := unlent_get hu k' hk'; exact getB_dom hg) x
              have h4 := r.b.sum x
              have h5 := hq x
              omega
            have hcnt : ∀ x, cnt b (U - L) E.sz (fun i => S (L + i)) x ≤ cnt b (xs ()).length E.sz S x := fun x => by
              have := hcb x
              simp only [segN] at this
              simp only [cnt]; omega
            by_cases hcl : c = L
            · rw [if_pos hcl]
              have hz0 : ((xs ()).take (hh ()).toNat).drop (l ()).toNat = [] := List.length_eq_zero_iff.1 (by rw [eL, eU, hlen]; omega)
              have hU0 : U - L = 0 := by omega
              refine fin off (cnt b 0 E.sz fun i => S (L + i)) ?_ fun x => ?_
              · have h7 := Seg.own (h := w.heap) (E := E) (xs := []) (S := fun i => S (L + i)) (b := b) (off := off) (c := c - L) (vs := vs) (e := e) (fz := fz) Seg.nil hb hf (by simp) (by simp) (by
                  have : (c - L) * E.sz ≤ c * E.sz := Nat.mul_le_mul_right _ (Nat.sub_le _ _)
                  omega)
                rw [hU0, hz0]
                exact h7
              · have := hcnt x
                rw [hU0] at this
                exact this
            · rw [if_neg hcl]
              simp only [Option.map_some, addr_add]
              refine fin (off + L * E.sz) (cnt b (U - L) E.sz fun i => S (L + i)) ?_ hcnt
              have h7 := (hseg _ rfl).own (b := b) (c := c - L) (e := e) (fz := fz) hb hf (by rw [eL, eU, hlen]; omega) (by rw [eL, eU, hlen]; omega) (by
                have : L * E.sz + (c - L) * E.sz = c * E.sz := by rw [← Nat.add_mul]; congr 1; omega
                omega)
              rw [eL, eU, hlen] at h7
              rw [eL, eU]
              exact h7
        · cases h
      · cases h
    · cases h
  · -- bytes to a string
    rename_i S D x d hop hd
    split at h
    · rename_i e bytes k hti hD hxv
      split at h
      · rename_i E xs lent hg hte
        split at h
        · rename_i ys hc
          obtain ⟨hU, _⟩ := sl_info hT hti
          have hUe := (ti_it (tget_ok hT hte)).1
          have hUD := (ti_ss (tget_ok hT hD)).1
          have evx := ev x
          rw [hxv] at evx
          obtain ⟨_, hpv⟩ := evx
          have ho := own_of r hg
          rw [castL_ok hc] at ho
          have hrun : (convert S D (a.eval x)).run P w = .ok (.string ⟨(ys ()).toArray⟩) w ∧ (ys ()).length ≤ maxL := by
            rw [hpv]
            rcases ho.seg with ⟨hv, h0, hp⟩ | ⟨b, off, c, vs, e', fz, SS, hv, hp, hb, hf, hlc, hmx, hoff, hs⟩
            · rw [hv, h0]
              exact ⟨run_convert_bytes_nil w S e hU hUe 0 0 D hUD, by simp⟩
            · rw [hv]
              have := run_convert_bytes_arg w S e hU hUe b off (ys ()).length c ((ys ()).map fun y => (y.toNat : Int)) (by simp) (fun i hi => by
                have h1 := hs i _ (List.getElem?_eq_getElem hi) 0 _ rfl
                simp only [ETy.sz, Nat.mul_one, Nat.add_zero] at h1
                have h2 : (⟨b, off + i, none⟩ : Addr) = ⟨b, off + i, none⟩ := rfl
                rw [cell_of hb (getD_some (show off + i < vs.size by simp only [ETy.sz, Nat.mul_one] at hoff; omega))]
                generalize vs.getD (off + i) Go.undef = u, SS i 0 = T at h1
                cases h1 with
                | int hr => simp [List.getD_eq_getElem?_getD, hi]) D hUD
              rw [this]
              refine ⟨?_, hmx⟩
              congr 2
              unfold strOfNums
              rw [List.map_map]
              refine congrArg (fun l : List UInt8 => (⟨l.toArray⟩ : ByteArray)) ?_
              refine Eq.trans (List.map_congr_left fun y _ => ?_) (List.map_id _)
              simp
          refine wp_value (v := .string ⟨(ys ()).toArray⟩) (w' := w) (by simp only [execOp, hop, Sem.run_bind, hrun.1, Result.andThen_ok]; rfl) ⟨_, h, ⟨ρ, ?_⟩, fun _ => KeepW.refl w⟩
          rw [hd]
          exact RelH.put r (v := .c (.lf (.str ys))) (RL.str hrun.2) (some d)
        · cases h
      · cases h
    · cases h
  · -- an element is stored
    rename_i T p v hop hd
    split at h
    · rename_i k E i off hp
      have ep := ev p
      rw [hp] at ep
      obtain ⟨σ', w', ρ', h1, h2, _, h3⟩ := vcStoreE_ok hT r (fun p hp => by rw [hw (by simp [isWr, hop])] at hp; cases hp) h ep (ev v)
      refine wp_skip' (w' := w') ?_ hd ⟨_, h1, ⟨ρ', h2⟩, fun hw => by simp [isWr, hop] at hw⟩
      simp only [execOp, hop, Sem.run_bind, h3, Result.andThen_ok]
      rfl
    · exact vcMem_ok hT r h
  · -- an element is loaded
    rename_i T x d hop hd
    split at h
    · rename_i k E i off hp
      split at h
      · rename_i hty
        have ep := ev x
        rw [hp] at ep
        obtain ⟨σ', y, ρ', h1, h2, h3⟩ := vcLoadE_ok hT r (hw (by simp [isWr, hop, hty])) h ep
        refine wp_value (v := y) (w' := w) ?_ ⟨_, h1, ⟨ρ', by rw [hd]; exact h2⟩, fun _ => KeepW.refl w⟩
        simp only [execOp, hop, Sem.run_bind, h3, Result.andThen_ok]
        rfl
      · cases h
    · cases h
  · exact vcMem_ok hT r h
omit hT r in
theorem listV_keys {bs : List (Nat × Blk)} {E : ETy} {v : V} {xs : Unit → List E.α} {ks : List Nat} (h : listV bs E v = some (xs, ks)) : ks = [] ∨ ∃ k, v = .c (.own k) ∧ ks = [k] := by
  unfold listV at h
  split at h
  · cases h; exact .inl rfl
  · split at h
    · split at h
      · cases h; exact .inr ⟨_, rfl, rfl⟩
      · cases h
    · cases h
  · cases h
theorem vcApp_ok {o : Oper} {K : SS → Prop} {Q : Exit → Act → World → Prop} {c : Call} {x y : Operand} (hop : o.op = .call c) (hcal : c.callee = .builtin .append) (hargs : c.args.toList = [x, y]) (h : vcLst tab o σ K) :
    o.wp P a w (fun a' w' => ∃ σ', K σ' ∧ (∃ ρ', RelH Γ H ρ' σ' a' w') ∧ ∀ b, b < w.heap.size → (∀ k, σ.ev x = .c (.own k) → (ρ k).2 b = 0) → w'.heap[b]? = w.heap[b]?) Q := by
  have ev := ev_ok r.e
  unfold vcLst at h
  rw [hop] at h
  cases hd : o.dst with
  | none => rw [hd] at h; simp only [vcMem, hop, hd] at h
  | some d =>
    rw [hd] at h
    simp only [hcal, hargs] at h
    split at h
    · rename_i _ _ heq; cases heq
    · rename_i x' y' T T2 _ hxy htys
      cases hxy
      split at h
      · rename_i E elem bytes hti hg
        split at h
        · rename_i xs k1 ys k2 hx hy
          split at h
          · rename_i hc
            obtain ⟨hc1, hc2⟩ := hc
            obtain ⟨hob, hk⟩ := h
            obtain ⟨hU, i, z, hi, hsz, hby, hz, hzo, hzs⟩ := sl_info hT hti
            obtain ⟨u1, ox⟩ := listV_ok r hx (ev x)
            obtain ⟨u2, news, S2, hN, hS2⟩ := srcA_ok hT r hy (ev y)
            have hdd : ∀ k ∈ k1 ++ k2, dom σ.blk k := fun k hk => by obtain ⟨E, xs, hg⟩ := unlent_get (unlent_app u1 u2) k hk; exact getB_dom hg
            have hle : ∀ x, sumK ρ k1 x + sumK ρ k2 x ≤ tot ρ σ.blk x := fun x => by rw [← sumK_app]; exact sumK_le (ρ := ρ) _ hc1 hdd x
            obtain ⟨v, p, w', r1, r2, r3, r4, r5, r6⟩ := run_append (P := P) (T := T) (T2 := T2) (ty := o.type) (E := E) (xs := xs ()) (ys := ys ()) ox hN hS2 (fun x => Nat.le_trans (hle x) (r.b.sum x)) (fun x hx => r.lt (Nat.lt_of_lt_of_le hx (hle x)))
              hU hi hz hsz hzs (by omega) (by rw [hby]; exact hob)
            refine wp_value (v := v) (w' := w') ?_ ⟨_, hk, ?_, fun b hb hz => ?_⟩
            · have e1 : c.args = #[x, y] := by rw [← Array.toArray_toList (xs := c.args), hargs]
              have e2 : c.argTypes = #[T, T2] := by rw [← Array.toArray_toList (xs := c.argTypes), htys]
              obtain ⟨callee, args, argTypes⟩ := c
              simp only at hcal e1 e2
              subst hcal e1 e2
              simp [execOp, hop, resolve, invoke, builtin, r1, Result.andThen]
            · rw [hd]
              refine eat_put r hc1 (unlent_app u1 u2) hg (fun x hx h0 => ?_) r3 r2 (fun x hx => ?_) r6
              · rw [sumK_app] at h0
                exact r4 x hx (by omega)
              · rw [sumK_app]; exact r5 x hx
            · refine r4 b hb ?_
              rcases listV_keys hx with e | ⟨k, e1, e2⟩
              · rw [e]; rfl
              · rw [e2]
                have := hz k e1
                simp only [sumK]
                omega
          · cases h
        · cases h
      · cases h
    · cases h
end
end Go.Proofs.Ytlochjpjlhkjaaa
namespace Go.Proofs.Ytlochjpjlhkjaaa
open Go
def lendLf (bs : List (Nat × Blk)) : C → Option Lf
  | .lf l => some l
  | .bl b => some (.bool fun _ => b)
  | .own k => match getB bs k with | some (.own E xs _) => some (.list E xs) | some (.view E xs) => some (.list E xs) | _ => none
  | _ => none
def lendLfs (bs : List (Nat × Blk)) : List C → Option (List Lf)
  | [] => some []
  | c :: cs => match lendLf bs c, lendLfs bs cs with | some l, some ls => some (l :: ls) | _, _ => none
def lendP (bs : List (Nat × Blk)) (k : Nat) : Option (List Lf) :=
  match getB bs k with
  | some (.box cs) => lendLfs bs cs
  | _ => none
def lendCp (bs : List (Nat × Blk)) : Cp → Cp
  | .ptr k off => match lendP bs k with | some ls => .pcs ls off | none => .ptr k off
  | c => c
def lendC (bs : List (Nat × Blk)) (z : Z) : C → C
  | .nil => match z with | .nl E => .lf (.list E fun _ => []) | _ => .undef
  | .own k => match lendLf bs (.own k) with | some l => .lf l | none => .undef
  | .ptr k off => match lendP bs k with | some ls => .pcs ls off | none => .undef
  | .oel _ _ _ _ => .undef
  | .fn f l => .fn f (l.map (lendCp bs))
  | c => c
def lendL (bs : List (Nat × Blk)) : List Z → List C → List C
  | _, [] => []
  | [], c :: cs => lendC bs .un c :: lendL bs [] cs
  | z :: zs, c :: cs => lendC bs z c :: lendL bs zs cs
def lendV (tab : Tab) (bs : List (Nat × Blk)) (T : TypeId) : V → V
  | .c x => .c (lendC bs (match tget tab T with | some (.sl E _ _) => .nl E | _ => .un) x)
  | .agg cs => .agg (lendL bs (match tget tab T with | some (.st _ _ z _) => z | _ => []) cs)
  | .tup _ => .c .undef
def lendVs (tab : Tab) (bs : List (Nat × Blk)) : List TypeId → List V → List V
  | _, [] => []
  | [], _ :: vs => .c .undef :: lendVs tab bs [] vs
  | T :: Ts, v :: vs => lendV tab bs T v :: lendVs tab bs Ts vs
def capC (bs : List (Nat × Blk)) (c : Cp) : V :=
  match lendCp bs c with
  | .el E x off => .c (.el E x off)
  | .pcs ls off => .c (.pcs ls off)
  | .ptr _ _ => .c .undef
def capsOk (bs : List (Nat × Blk)) (l : List Cp) : Bool := l.all fun c => match lendCp bs c with | .ptr _ _ => false | _ => true
def C.fnOk (bs : List (Nat × Blk)) : C → Bool
  | .fn _ l => capsOk bs l
  | _ => true
def V.fnOk (bs : List (Nat × Blk)) : V → Bool
  | .c x => x.fnOk bs
  | .agg cs => cs.all (C.fnOk bs)
  | .tup _ => true
structure Lends (w : World) (H H1 : Hp) (ρ : Rho) (D : Nat → Prop) (bs : List (Nat × Blk)) : Prop where
  hH : ∀ b o, H b = some o → H1 b = some o
  blk : ∀ k B, getB bs k = some B → BlkR w.heap H ρ D B (ρ k) ∧ ∀ x, 0 < (ρ k).2 x → H1 x = w.heap[x]?
theorem RelH.lends {Γ : Ctx} {H : Hp} {ρ : Rho} {σ : SS} {a : Act} {w : World} (r : RelH Γ H ρ σ a w) : Lends w H (fun b => w.heap[b]?) ρ (dom σ.blk) σ.blk :=
  ⟨r.b.hh, fun k B hk => ⟨r.b.blk k B (getB_mem hk), fun _ _ => rfl⟩⟩
section
variable {w : World} {H H1 : Hp} {ρ ρ1 : Rho} {D D1 : Nat → Prop} {bs : List (Nat × Blk)} (L : Lends w H H1 ρ D bs)
include L
theorem lendLf_ok {c : C} {l : Lf} {v : Value} (h : lendLf bs c = some l) (hv : RC H ρ D c v) : RL H1 l v := by
  unfold lendLf at h
  split at h
  · cases h; exact RL.mono hv L.hH
  · cases h; simp only [RC] at hv; subst hv; exact RL.bool (t := fun _ => _)
  · rename_i k
    split at h
    · rename_i E xs l hg
      cases h
      obtain ⟨_, rfl⟩ := hv
      obtain ⟨h1, h2⟩ := L.blk k _ hg
      exact OwnL.rl h1 h2
    · rename_i E xs hg
      cases h
      obtain ⟨_, rfl⟩ := hv
      obtain ⟨h1, h2⟩ := L.blk k _ hg
      exact h1.1.mono L.hH
    · cases h
  · cases h
theorem lendLfs_ok : ∀ {cs : List C} {ls : List Lf} {f : Nat → Value}, lendLfs bs cs = some ls → (∀ (j : Nat) c, cs[j]? = some c → RC H ρ D c (f j)) → ls.length = cs.length ∧ ∀ (j : Nat) l, ls[j]? = some l → RL H1 l (f j)
  | [], ls, f, h, _ => by simp only [lendLfs, Option.some.injEq] at h; subst h; exact ⟨rfl, fun j l hj => by simp at hj⟩
  | c :: cs, ls, f, h, hc => by
    simp only [lendLfs] at h
    split at h
    · rename_i l ls' h1 h2
      cases h
      obtain ⟨g1, g2⟩ := lendLfs_ok (f := fun j => f (j + 1)) h2 fun j c hj => hc (j + 1) c (by simpa using hj)
      refine ⟨by simp [g1], fun j l' hj => ?_⟩
      cases j with
      | zero => simp at hj; subst hj; exact lendLf_ok L h1 (hc 0 c rfl)
      | succ j => exact g2 j l' (by simpa using hj)
    · cases h
theorem lendP_ok {k off : Nat} {ls : List Lf} {v : Value} (h : lendP bs k = some ls) (hv : RCp H ρ D (.ptr k off) v) :
    RCp H1 ρ1 D1 (.pcs ls off) v := by
  unfold lendP at h
  split at h
  · rename_i cs hg
    obtain ⟨_, b, h1, rfl⟩ := hv
    obtain ⟨⟨b', vs, e, fz, h2, h3, h4, h5, h6⟩, h0⟩ := L.blk k _ hg
    rw [h1] at h2
    simp only [Value.pointer.injEq, Option.some.injEq, Addr.mk.injEq, and_true] at h2
    subst h2
    obtain ⟨g1, g2⟩ := lendLfs_ok (f := fun j => vs.getD j Go.undef) L h h6.2
    refine ⟨b, off, vs, e, fz, by rw [h0 b (by simp [h3, one])]; exact h4, rfl, fun j l hj => ⟨?_, g2 _ _ hj⟩⟩
    have := lt_of_get hj
    rw [h6.1, ← g1]; exact this
  · cases h
theorem RCp.lend_el {E : ETy} {x : Unit → E.α} {off : Nat} {v : Value} (hv : RCp H ρ D (.el E x off) v) : RCp H1 ρ1 D1 (.el E x off) v := by
  obtain ⟨b, o, cs, e, fz, h1, h2, h3⟩ := hv
  exact ⟨b, o, cs, e, fz, L.hH _ _ h1, h2, fun j l hj => ⟨(h3 j l hj).1, (h3 j l hj).2.mono L.hH⟩⟩
theorem RCp.lend_pcs {ls : List Lf} {off : Nat} {v : Value} (hv : RCp H ρ D (.pcs ls off) v) : RCp H1 ρ1 D1 (.pcs ls off) v := by
  obtain ⟨b, o, cs, e, fz, h1, h2, h3⟩ := hv
  exact ⟨b, o, cs, e, fz, L.hH _ _ h1, h2, fun j l hj => ⟨(h3 j l hj).1, (h3 j l hj).2.mono L.hH⟩⟩
theorem lendCp_ok {c : Cp} {v : Value} (hv : RCp H ρ D c v) (ho : (match lendCp bs c with | .ptr _ _ => false | _ => true) = true) :
    RCp H1 ρ1 D1 (lendCp bs c) v := by
  cases c with
  | ptr k off =>
    cases ht : lendP bs k with
    | some t => simp only [lendCp, ht]; exact lendP_ok L ht hv
    | none => simp [lendCp, ht] at ho
  | el E x off => exact RCp.lend_el (ρ1 := ρ1) (D1 := D1) L hv
  | pcs ls off => exact RCp.lend_pcs (ρ1 := ρ1) (D1 := D1) L hv
theorem lendC_ok {c : C} {v : Value} (z : Z) (hv : RC H ρ D c v) (ho : c.fnOk bs = true) : RC H1 ρ1 D1 (lendC bs z c) v := by
  cases c with
  | lf l => exact RL.mono hv L.hH
  | bl b => exact hv
  | nil =>
    simp only [lendC]
    split
    · simp only [RC] at hv; subst hv; exact RL.nil rfl
    · trivial
  | own k =>
    simp only [lendC]
    split
    · rename_i l hl; exact lendLf_ok L hl hv
    · trivial
  | ptr k off =>
    simp only [lendC]
    split
    · rename_i t ht; exact lendP_ok (ρ1 := ρ1) (D1 := D1) L ht hv
    · trivial
  | el E x off => exact RCp.lend_el (ρ1 := ρ1) (D1 := D1) L hv
  | pcs ls off => exact RCp.lend_pcs (ρ1 := ρ1) (D1 := D1) L hv
  | oel k E i off => trivial
  | fn f l =>
    obtain ⟨vs, h1, h2, h3⟩ := hv
    refine ⟨vs, h1, by simpa using h2, fun j c hj => ?_⟩
    rw [List.getElem?_map, Option.map_eq_some_iff] at hj
    obtain ⟨c0, hj, rfl⟩ := hj
    exact lendCp_ok L (h3 j c0 hj) (List.all_eq_true.1 ho c0 (List.mem_of_getElem? hj))
  | undef => trivial
omit L in
theorem lendL_get {bs : List (Nat × Blk)} : ∀ {cs : List C} {zs : List Z} {j : Nat} {c : C}, (lendL bs zs cs)[j]? = some c → ∃ c0 z, cs[j]? = some c0 ∧ c = lendC bs z c0
  | [], zs, j, c, h => by cases zs <;> simp [lendL] at h
  | c0 :: cs, [], 0, c, h => by simp [lendL] at h; exact ⟨c0, _, rfl, h.symm⟩
  | c0 :: cs, [], j + 1, c, h => by simp only [lendL, List.getElem?_cons_succ] at h ⊢; exact lendL_get h
  | c0 :: cs, z :: zs, 0, c, h => by simp [lendL] at h; exact ⟨c0, _, rfl, h.symm⟩
  | c0 :: cs, z :: zs, j + 1, c, h => by simp only [lendL, List.getElem?_cons_succ] at h ⊢; exact lendL_get h
omit L in
theorem lendL_len {bs : List (Nat × Blk)} : ∀ {cs : List C} {zs : List Z}, (lendL bs zs cs).length = cs.length
  | [], zs => by cases zs <;> rfl
  | c0 :: cs, [] => by simp [lendL, lendL_len (cs := cs)]
  | c0 :: cs, z :: zs => by simp [lendL, lendL_len (cs := cs)]
theorem lendV_ok {tab : Tab} {T : TypeId} {c : V} {v : Value} (hv : RV H ρ D c v) (ho : c.fnOk bs = true) : RV H1 ρ1 D1 (lendV tab bs T c) v := by
  cases c with
  | c x => exact lendC_ok L _ hv ho
  | agg cs =>
    obtain ⟨vs, h1, h2⟩ := hv
    refine ⟨vs, h1, by rw [lendL_len]; exact h2.1, fun j c hj => ?_⟩
    obtain ⟨c0, z, h3, rfl⟩ := lendL_get hj
    exact lendC_ok L z (h2.2 j c0 h3) (List.all_eq_true.1 ho c0 (List.mem_of_getElem? h3))
  | tup cs => trivial
theorem capC_ok {c : Cp} {v : Value} (hv : RCp H ρ D c v) (ho : (match lendCp bs c with | .ptr _ _ => false | _ => true) = true) : RV H1 ρ1 D1 (capC bs c) v := by
  have h := lendCp_ok (ρ1 := ρ1) (D1 := D1) L hv ho
  unfold capC
  split
  · rename_i E x off heq; rw [heq] at h; exact h
  · rename_i ls off heq; rw [heq] at h; exact h
  · trivial
end
inductive CallA (P : Program) (f : FuncId) (as : List V) (K : V → List Blk → Prop) : Prop where
  | mk (post : V → List Blk → Prop) (hs : Spec P f as post) (hk : ∀ r nb, post r nb → K r nb)
def addRes : List (Nat × Blk) → Nat → List Blk → List (Nat × Blk)
  | bs, _, [] => bs
  | bs, k, B :: nb => addRes (insB bs k B) (k + 1) nb
def freeB (bs : List (Nat × Blk)) (d : Nat) : Bool := bs.all fun p => p.1 < 8 * d || 8 * d + 8 ≤ p.1
theorem RelH.addRes {Γ : Ctx} {H : Hp} {a : Act} {w' : World} {H' : Hp} {ρ' : Rho} : ∀ (nb : List Blk) (j k : Nat) {ρ : Rho} {σ : SS} {w : World}, RelH Γ H ρ σ a w →
    (∀ b o, H b = some o → w'.heap[b]? = w.heap[b]?) → (∀ b, 0 < tot ρ σ.blk b → w'.heap[b]? = w.heap[b]?) → Ext w w' →
    (∀ i B, nb[i]? = some B → BlkR w'.heap H' ρ' (fun _ => False) B (ρ' (j + i)) ∧ ownB B = true) → (∀ i, i < nb.length → (ρ' (j + i)).1.oneCell' = true) →
    (∀ i x, i < nb.length → 0 < (ρ' (j + i)).2 x → H x = none ∧ tot ρ σ.blk x = 0) → (∀ x, tot ρ' (num j nb) x ≤ 1) → (∀ i, i < nb.length → getB σ.blk (k + i) = none) →
    ∃ ρ'', RelH Γ H ρ'' { σ with blk := addRes σ.blk k nb } a w' ∧ (∀ i, i < nb.length → dom (addRes σ.blk k nb) (k + i) ∧ (ρ'' (k + i)).1 = (ρ' (j + i)).1) ∧ (∀ i, dom σ.blk i → dom (addRes σ.blk k nb) i ∧ ρ'' i = ρ i)
  | [], j, k, ρ, σ, w, r, h1, h2, h3, _, _, _, _, _ => by
    refine ⟨ρ, ⟨⟨r.b.oc, r.b.nd, r.b.h0, fun b o hb => ?_, fun k B hk => ?_, r.b.sum, r.b.fresh, r.b.tops⟩, r.e, r.d, r.n.trans h3, r.hd, r.hm⟩, fun i hi => by simp at hi, fun i hi => ⟨hi, rfl⟩⟩
    · rw [h1 b o hb]; exact r.b.hh b o hb
    · exact (r.b.blk k B hk).mono (Grow.refl _ _ _) fun b hb => h2 b (Nat.lt_of_lt_of_le hb (tot_le hk b))
  | B :: nb, j, k, ρ, σ, w, r, h1, h2, h3, h4, h5, h6, h7, h8 => by
    have hk : getB σ.blk k = none := h8 0 (by simp)
    obtain ⟨hB, hown⟩ := h4 0 B rfl
    have hle : ∀ x, (ρ' j).2 x ≤ 1 := fun x => by
      have := h7 x
      simp only [num, tot] at this
      omega
    have r1 := r.new' (w' := w') (k := k) (B := B) (p := ρ' j) hk h1 h2 h3 (h5 0 (by simp)) (fun x hx => h6 0 x (by simp) hx) hle
      (by cases B with
        | own E xs l => exact hB
        | dead => simp [ownB] at hown
        | box cs => simp [ownB] at hown
        | view E xs => simp [ownB] at hown
        | mp m => simp [ownB] at hown
        | hol E xs i fs => simp [ownB] at hown) (by rintro rfl; simp [ownB] at hown)
    have hkd := getB_none hk
    have hne : ∀ i, dom σ.blk i → i ≠ k := fun i hi he => hkd (he ▸ hi)
    have e1 : ∀ i, j + 1 + i = j + (i + 1) := fun i => by omega
    have e2 : ∀ i, k + 1 + i = k + (i + 1) := fun i => by omega
    obtain ⟨ρ'', r2, g1, g2⟩ := RelH.addRes nb (j + 1) (k + 1) r1 (fun _ _ _ => rfl) (fun _ _ => rfl) (Ext.refl _)
      (fun i A hi => by rw [e1]; exact h4 (i + 1) A (by simpa using hi)) (fun i hi => by rw [e1]; exact h5 (i + 1) (by simpa using hi))
      (fun i x hi hx => by
        rw [e1] at hx
        obtain ⟨g1, g2⟩ := h6 (i + 1) x (by simpa using hi) hx
        refine ⟨g1, ?_⟩
        show tot (upd ρ k (ρ' j)) (insB σ.blk k B) x = 0
        rw [tot_insB, upd_same, tot_congr (ρ := ρ) (ρ' := upd ρ k (ρ' j)) (fun i hi => upd_other (hne i hi)), g2]
        have h9 := h7 x
        simp only [num, tot] at h9
        have h10 := tot_le (ρ := ρ') (bs := num (j + 1) nb) (k := j + (i + 1)) (B := nb[i]) (mem_num.2 ⟨by omega, by rw [show j + (i + 1) - (j + 1) = i by omega]; exact List.getElem?_eq_getElem hi⟩) x
        omega)
      (fun x => by have := h7 x; simp only [num, tot] at this; omega)
      (fun i hi => by
        rw [e2]
        have h9 := h8 (i + 1) (by simpa using hi)
        have : ∀ bs : List (Nat × Blk), getB bs (k + (i + 1)) = none → getB (insB bs k B) (k + (i + 1)) = none := by
          intro bs
          induction bs with
          | nil => intro _; simp [insB, getB]
          | cons p bs ih =>
            intro h
            simp only [getB] at h
            split at h
            · cases h
            · rename_i hp
              simp only [insB]
              split
              · simp only [getB]
                rw [if_neg (by omega), if_neg hp]; exact h
              · simp only [getB]
                rw [if_neg hp]; exact ih h
        exact this _ h9)
    refine ⟨ρ'', r2, fun i hi => ?_, fun i hi => ?_⟩
    · cases i with
      | zero =>
        obtain ⟨g3, g4⟩ := g2 k (dom_insB.2 (.inl rfl))
        exact ⟨g3, by rw [Nat.add_zero, g4, upd_same]; rfl⟩
      | succ i =>
        have := g1 i (by simpa using hi)
        rw [e1, e2] at this
        exact this
    · obtain ⟨g3, g4⟩ := g2 i (dom_insB.2 (.inr hi))
      exact ⟨g3, by rw [g4, upd_other (hne i hi)]⟩
def calleeV (σ : SS) (o : Oper) : Option (V × Call) :=
  match o.op with
  | .call c => match c.callee with
    | .value x => some (σ.ev x, c)
    | _ => none
  | _ => none
def vcCallR (P : Program) (tab : Tab) (σ : SS) (v : V) (c : Call) (dst : Option Nat) (K : SS → Prop) : Prop :=
  match v, dst with
  | .c (.fn f l), some d =>
    if freeB σ.blk d = true ∧ capsOk σ.blk l = true ∧ (c.args.toList.map σ.ev).all (V.fnOk σ.blk) = true ∧ c.argTypes.size = c.args.size then
      CallA P f (lendVs tab σ.blk c.argTypes.toList (c.args.toList.map σ.ev) ++ l.map (capC σ.blk)) fun r nb =>
        nb.length ≤ 8 ∧ K (({ σ with blk := addRes σ.blk (8 * d) nb } : SS).put (some d) (r.ren (8 * d + ·)))
    else False
  | _, _ => False
theorem lendVs_len {tab : Tab} {bs : List (Nat × Blk)} : ∀ {vs : List V} {Ts : List TypeId}, (lendVs tab bs Ts vs).length = vs.length
  | [], Ts => by cases Ts <;> rfl
  | v :: vs, [] => by simp [lendVs, lendVs_len (vs := vs)]
  | v :: vs, T :: Ts => by simp [lendVs, lendVs_len (vs := vs)]
section
variable {P : Program} {tab : Tab} {Γ : Ctx} {H : Hp} {ρ : Rho} {σ : SS} {a : Act} {w : World} (r : RelH Γ H ρ σ a w)
include r
theorem lendVs_get : ∀ {vs : List V} {Ts : List TypeId} {us : List Value}, (∀ (j : Nat) c v, vs[j]? = some c → us[j]? = some v → RV H ρ (dom σ.blk) c v) → vs.all (V.fnOk σ.blk) = true → vs.length = us.length →
    ∀ (j : Nat) c v, (lendVs tab σ.blk Ts vs)[j]? = some c → us[j]? = some v → RV (fun b => w.heap[b]?) (fun _ => default) (fun _ => False) c v
  | [], Ts, us, _, _, _, j, c, v, h, _ => by cases Ts <;> simp [lendVs] at h
  | x :: vs, [], us, hv, ho, hl, j, c, v, h, h' => by
    cases us with
    | nil => simp at hl
    | cons u us =>
      simp only [List.all_cons, Bool.and_eq_true] at ho
      cases j with
      | zero => simp [lendVs] at h; subst h; trivial
      | succ j =>
        simp only [lendVs, List.getElem?_cons_succ] at h h'
        exact lendVs_get (Ts := []) (fun j c v g1 g2 => hv (j + 1) c v (by simpa using g1) (by simpa using g2)) ho.2 (by simpa using hl) j c v h h'
  | x :: vs, T :: Ts, us, hv, ho, hl, j, c, v, h, h' => by
    cases us with
    | nil => simp at hl
    | cons u us =>
      simp only [List.all_cons, Bool.and_eq_true] at ho
      cases j with
      | zero =>
        simp [lendVs] at h h'; subst h h'
        exact lendV_ok r.lends (hv 0 x u rfl rfl) ho.1
      | succ j =>
        simp only [lendVs, List.getElem?_cons_succ] at h h'
        exact lendVs_get (Ts := Ts) (fun j c v g1 g2 => hv (j + 1) c v (by simpa using g1) (by simpa using g2)) ho.2 (by simpa using hl) j c v h h'
theorem vcCallR_ok {o : Oper} {v : V} {c : Call} {K : SS → Prop} {Q : Exit → Act → World → Prop} (hc : calleeV σ o = some (v, c)) (h : vcCallR P tab σ v c o.dst K) :
    o.wp P a w (fun a' w' => ∃ σ', K σ' ∧ RelK Γ H (isWr tab o) w σ' a' w') Q := by
  unfold calleeV at hc
  split at hc
  · rename_i c0 hop
    split at hc
    · rename_i x hcal
      cases hc
      unfold vcCallR at h
      split at h
      · rename_i f l d hx hd
        split at h
        · rename_i hcond
          obtain ⟨hfree, hcaps, hfn, hsize⟩ := hcond
          obtain ⟨post, ⟨⟨fn, hf1, hf2, hf3⟩, hs⟩, hk⟩ := h
          have ev := ev_ok r.e x
          rw [hx] at ev
          obtain ⟨vs, e1, e2, e3⟩ := ev
          have hrun : (execOp a.eval o).run P w = .ok (.enter f (c.args.map a.eval ++ vs)) w := by
            simp only [execOp, hop, resolve, hcal, Deferred.ofValue, e1, Sem.run_bind, Sem.run_pure, Result.andThen_ok, invoke, callFunc, run_program, hf1, hf2, hf3]
            simp
          have hargs : args (fun b => w.heap[b]?) (fun _ => default) (fun _ => False) (lendVs tab σ.blk c.argTypes.toList (c.args.toList.map σ.ev) ++ l.map (capC σ.blk)) (c.args.map a.eval ++ vs) := by
            refine ⟨by simp [lendVs_len, e2], fun j cv hj => ?_⟩
            rw [Array.getD_eq_getD_getElem?]
            by_cases hlt : j < c.args.size
            · rw [List.getElem?_append_left (by simpa [lendVs_len] using hlt)] at hj
              rw [Array.getElem?_append_left (by simpa using hlt)]
              have h1 : (c.args.map a.eval).toList[j]? = some (a.eval c.args[j]) := by simp [hlt]
              have h2 := lendVs_get r (map_ev r c.args) hfn (by simp) j cv _ hj h1
              simpa [hlt] using h2
            · rw [List.getElem?_append_right (by simpa [lendVs_len] using Nat.le_of_not_lt hlt)] at hj
              rw [Array.getElem?_append_right (by simpa using Nat.le_of_not_lt hlt)]
              simp only [lendVs_len, List.length_map, Array.length_toList, Array.size_map, List.getElem?_map, Option.map_eq_some_iff] at hj ⊢
              obtain ⟨c0, h1, rfl⟩ := hj
              have h2 := e3 _ c0 h1
              have h3 := List.all_eq_true.1 hcaps c0 (List.mem_of_getElem? h1)
              rw [← Array.getD_eq_getD_getElem?]
              exact capC_ok r.lends h2 h3
          unfold Oper.wp
          rw [hrun]
          simp only [Oper.upon]
          refine (hs w _ hargs).mono fun e w' he => ?_
          obtain ⟨v, rv, nb, H', ρ', rfl, hp, hown, hB, hv, hsz⟩ := he
          obtain ⟨hlen, hK⟩ := hk rv nb hp
          have hHn : ∀ x o, w.heap[x]? = some o → w'.heap[x]? = some o := fun x o hx => hB.hh x o (hB.h0 x o hx)
          have hsame : ∀ x, x < w.heap.size → w'.heap[x]? = w.heap[x]? := fun x hx => by rw [Array.getElem?_eq_getElem hx]; exact hHn x _ (Array.getElem?_eq_getElem hx)
          have hkeys : ∀ i, i < nb.length → getB σ.blk (8 * d + i) = none := fun i hi => by
            have : ∀ bs : List (Nat × Blk), freeB bs d = true → getB bs (8 * d + i) = none := by
              intro bs
              induction bs with
              | nil => intro _; rfl
              | cons p bs ih =>
                intro hfb
                simp only [freeB, List.all_cons, Bool.and_eq_true, Bool.or_eq_true, decide_eq_true_eq] at hfb
                simp only [getB]
                rw [if_neg (by omega)]
                exact ih hfb.2
            exact this _ hfree
          have hnum : ∀ (i : Nat) B, nb[i]? = some B → (i, B) ∈ num 0 nb := fun i B hi => mem_num.2 ⟨Nat.zero_le _, by simpa using hi⟩
          obtain ⟨ρ'', r1, g1, g2⟩ := RelH.addRes (H' := H') (ρ' := ρ') (w' := w') nb 0 (8 * d) r (fun b o hb => hsame b (lt_of_aget (r.b.hh b o hb))) (fun b hb => hsame b (r.lt hb)) hsz
            (fun i B hi => by
              have h1 := hB.blk i B (hnum i B hi)
              rw [Nat.zero_add]
              have h2 := List.all_eq_true.1 hown B (List.mem_of_getElem? hi)
              refine ⟨?_, h2⟩
              cases B with
              | own E xs l => exact h1
              | dead => cases h2
              | box cs => cases h2
              | view E xs => cases h2
              | mp m => cases h2
              | hol E xs i fs => cases h2)
            (fun i hi => by rw [Nat.zero_add]; exact hB.oc i (dom_num.2 ⟨Nat.zero_le _, by omega⟩))
            (fun i x hi hx => by
              rw [Nat.zero_add] at hx
              have h1 := hB.fresh i _ (hnum i _ (List.getElem?_eq_getElem hi)) x hx
              refine r.none_above ?_
              rcases Nat.lt_or_ge x w.heap.size with h2 | h2
              · rw [Array.getElem?_eq_getElem h2] at h1; cases h1
              · exact h2)
            hB.sum hkeys
          refine ⟨_, hK, ⟨ρ'', ?_⟩, fun _ => hHn⟩
          rw [hd]
          refine RelH.put r1 (RV.ren (m := fun i => 8 * d + i) (D := dom (num 0 nb)) (ρ := ρ') (fun i hi => ?_) (hv.grow (H' := H) (ρ' := ρ') (D' := dom (num 0 nb)) ⟨(fun _ _ h => by cases h), (fun _ h => ⟨h, rfl⟩)⟩)) (some d)
          obtain ⟨_, hi⟩ := dom_num.1 hi
          have := g1 i (by omega)
          rw [Nat.zero_add] at this
          exact this
        · cases h
      · cases h
    · cases hc
  · cases hc
end
end Go.Proofs.Ytlochjpjlhkjaaa
namespace Go.Proofs.Ytlochjpjlhkjaaa
open Go
def C.nm : C → List Nat
  | .own k => [k]
  | .ptr k _ => [k]
  | _ => []
def nmL : List C → List Nat
  | [] => []
  | c :: cs => c.nm ++ nmL cs
def V.nm : V → List Nat
  | .c x => x.nm
  | .agg cs => nmL cs
  | .tup _ => []
def C.pass : C → Bool
  | .own _ | .ptr _ _ | .bl _ | .nil | .undef => true
  | .lf l => l.sc
  | _ => false
def V.pass : V → Bool
  | .c x => x.pass
  | .agg cs => cs.all C.pass
  | .tup _ => false
def insN (ks : List Nat) : List Nat → List Nat
  | [] => ks
  | x :: xs => if ks.contains x then insN ks xs else insN (ks ++ [x]) xs
def blkNm : Option Blk → List Nat
  | some (.box cs) => nmL cs
  | _ => []
def argNm : List Bool → List V → List Nat
  | true :: ms, v :: vs => v.nm ++ argNm ms vs
  | false :: ms, _ :: vs => argNm ms vs
  | _, _ => []
def boxNm (bs : List (Nat × Blk)) : List Nat → List Nat
  | [] => []
  | k :: ks => blkNm (getB bs k) ++ boxNm bs ks
def handNm (bs : List (Nat × Blk)) (ms : List Bool) (vs : List V) : List Nat :=
  insN (insN [] (argNm ms vs)) (boxNm bs (insN [] (argNm ms vs)))
def restB (ks : List Nat) : List (Nat × Blk) → List (Nat × Blk)
  | [] => []
  | p :: bs => if ks.contains p.1 then restB ks bs else p :: restB ks bs
def C.box (ks : List Nat) : C → Bool
  | .own k => ks.contains k
  | .lf l => l.sc
  | .bl _ | .nil | .undef => true
  | _ => false
def passB (ks : List Nat) : Option Blk → Option Blk
  | some (.own E xs false) => some (.own E xs false)
  | some (.view E xs) => some (.view E xs)
  | some (.box cs) => if cs.all (C.box ks) = true then some (.box (renL (place ks) cs)) else none
  | _ => none
def passBs (bs : List (Nat × Blk)) (ks : List Nat) : List Nat → Option (List Blk)
  | [] => some []
  | k :: r => match passB ks (getB bs k), passBs bs ks r with | some B, some l => some (B :: l) | _, _ => none
def handVs (tab : Tab) (bs : List (Nat × Blk)) (ks : List Nat) : List Bool → List TypeId → List V → List V
  | _, _, [] => []
  | true :: ms, Ts, v :: vs => v.ren (place ks) :: handVs tab bs ks ms Ts.tail vs
  | ms, T :: Ts, v :: vs => lendV tab bs T v :: handVs tab bs ks ms.tail Ts vs
  | ms, [], _ :: vs => .c .undef :: handVs tab bs ks ms.tail [] vs
def handOk (bs : List (Nat × Blk)) : List Bool → List V → Bool
  | _, [] => true
  | true :: ms, v :: vs => v.pass && handOk bs ms vs
  | ms, v :: vs => v.fnOk bs && handOk bs ms.tail vs
def backM (ks : List Nat) (d j : Nat) : Nat := if j < 100 then ks.getD j 0 else 8 * d + (j - 100)
def Blk.ren (m : Nat → Nat) : Blk → Blk
  | .box cs => .box (renL m cs)
  | B => B
def putB (bs : List (Nat × Blk)) (k : Nat) (B : Blk) : List (Nat × Blk) :=
  match getB bs k with
  | some _ => setB bs k B
  | none => insB bs k B
def graftB (m : Nat → Nat) : List (Nat × Blk) → List (Nat × Blk) → List (Nat × Blk)
  | [], bs => bs
  | (_, .dead) :: r, bs => graftB m r bs
  | (j, B) :: r, bs => graftB m r (putB bs (m j) (B.ren m))
def unV (bs : List (Nat × Blk)) : List Nat → List (Nat × Blk) → List (Nat × Blk)
  | [], cs => cs
  | k :: ks, cs => match getB bs k with
    | some (.view E xs) => (match getB cs k with | some .dead => unV bs ks (setB cs k (.view E xs)) | _ => unV bs ks cs)
    | _ => unV bs ks cs
def C.bk (n : Nat) : C → Bool
  | .own k => decide (k < n)
  | .lf l => l.sc
  | .bl _ | .nil | .undef => true
  | _ => false
def backOk (n : Nat) (p : Nat × Blk) : Bool :=
  (decide (p.1 < n) || (decide (100 ≤ p.1) && decide (p.1 < 108))) &&
    match p.2 with
    | .own _ _ false => true
    | .box cs => cs.all (C.bk n)
    | .dead => decide (p.1 < n)
    | _ => false
inductive CallM (P : Program) (f : FuncId) (as : List V) (bs : List (Nat × Blk)) (K : V → List (Nat × Blk) → Prop) : Prop where
  | mk (post : V → List (Nat × Blk) → Prop) (hs : SpecM P f as bs post) (hk : ∀ r bs', post r bs' → K r bs')
def vcCallM (P : Program) (tab : Tab) (σ : SS) (f : FuncId) (l : List Cp) (ms : List Bool) (c : Call) (d : Nat) (K : SS → Prop) : Prop :=
  match passBs σ.blk (handNm σ.blk ms (c.args.toList.map σ.ev)) (handNm σ.blk ms (c.args.toList.map σ.ev)) with
  | some nb =>
    if freeB σ.blk d = true ∧ nb.length ≤ 100 ∧ nodupB (handNm σ.blk ms (c.args.toList.map σ.ev)) = true ∧ capsOk (restB (handNm σ.blk ms (c.args.toList.map σ.ev)) σ.blk) l = true ∧ c.argTypes.size = c.args.size ∧
        handOk (restB (handNm σ.blk ms (c.args.toList.map σ.ev)) σ.blk) ms (c.args.toList.map σ.ev) = true then
      CallM P f (handVs tab (restB (handNm σ.blk ms (c.args.toList.map σ.ev)) σ.blk) (handNm σ.blk ms (c.args.toList.map σ.ev)) ms c.argTypes.toList (c.args.toList.map σ.ev) ++ l.map (capC (restB (handNm σ.blk ms (c.args.toList.map σ.ev)) σ.blk))) (num 0 nb) fun r bs' =>
        (bs'.all (backOk nb.length) = true ∧ r.cl = true) ∧
          K (({ σ with blk := unV σ.blk (handNm σ.blk ms (c.args.toList.map σ.ev)) (graftB (backM (handNm σ.blk ms (c.args.toList.map σ.ev)) d) bs' (killL σ.blk (handNm σ.blk ms (c.args.toList.map σ.ev)))) } : SS).put (some d) (r.ren (backM (handNm σ.blk ms (c.args.toList.map σ.ev)) d)))
    else False
  | none => False
def vcCall (P : Program) (tab : Tab) (σ : SS) (v : V) (c : Call) (dst : Option Nat) (K : SS → Prop) : Prop :=
  match v, dst with
  | .c (.fn f l), some d =>
    match muT tab f with
    | some ms => vcCallM P tab σ f l ms c d K
    | none => vcCallR P tab σ v c dst K
  | _, _ => False
theorem getB_restB {ks : List Nat} {bs : List (Nat × Blk)} {k : Nat} {B : Blk} (h : getB (restB ks bs) k = some B) : getB bs k = some B ∧ k ∉ ks := by
  induction bs with
  | nil => simp [restB, getB] at h
  | cons p bs ih =>
    simp only [restB] at h
    split at h
    · rename_i hc
      obtain ⟨h1, h2⟩ := ih h
      refine ⟨?_, h2⟩
      simp only [getB]
      rw [if_neg fun he => h2 (by rw [← he]; simpa using hc)]
      exact h1
    · rename_i hc
      simp only [getB] at h ⊢
      split at h
      · rename_i he
        cases h
        rw [if_pos he]
        exact ⟨rfl, by rw [← he]; simpa using hc⟩
      · rename_i he
        rw [if_neg he]
        exact ih h
theorem dom_putB {bs : List (Nat × Blk)} {k : Nat} {B : Blk} {j : Nat} : dom (putB bs k B) j ↔ j = k ∨ dom bs j := by
  unfold putB
  split
  · rename_i hk
    rw [dom_setB]
    exact ⟨.inr, fun h => by rcases h with rfl | h; exact getB_dom hk; exact h⟩
  · exact dom_insB
theorem nodupB_nodup' {l : List Nat} (h : nodupB l = true) : l.Nodup := by
  induction l with
  | nil => simp
  | cons x l ih => obtain ⟨h1, h2⟩ := nodupB_cons h; exact List.nodup_cons.2 ⟨h1, ih h2⟩
section
variable {Γ : Ctx} {H : Hp} {a : Act} {w w' : World}
theorem RelH.move {ρ : Rho} {σ : SS} (r : RelH Γ H ρ σ a w) (h1 : ∀ b o, H b = some o → w'.heap[b]? = w.heap[b]?) (h2 : ∀ b, 0 < tot ρ σ.blk b → w'.heap[b]? = w.heap[b]?) (h3 : Ext w w') : RelH Γ H ρ σ a w' := by
  refine ⟨⟨r.b.oc, r.b.nd, r.b.h0, fun b o hb => ?_, fun k B hk => ?_, r.b.sum, r.b.fresh, r.b.tops⟩, r.e, r.d, r.n.trans h3, r.hd, r.hm⟩
  · rw [h1 b o hb]; exact r.b.hh b o hb
  · exact (r.b.blk k B hk).mono (Grow.refl _ _ _) fun b hb => h2 b (Nat.lt_of_lt_of_le hb (tot_le hk b))
theorem setB_dom_eq {bs : List (Nat × Blk)} {k : Nat} {B : Blk} : dom (setB bs k B) = dom bs := by funext j; exact propext dom_setB
theorem RelH.put1 {ρ : Rho} {σ : SS} (r : RelH Γ H ρ σ a w) {k : Nat} (hne : ∀ p ∈ Γ.hd, p.1 ≠ k) {B : Blk} {p : Value × (Nat → Nat)} (hk : getB σ.blk k = none ∨ (getB σ.blk k = some .dead ∧ p.1 = (ρ k).1)) (hone : p.1.oneCell' = true)
    (hnew : ∀ x, 0 < p.2 x → H x = none ∧ tot ρ σ.blk x = 0) (hle : ∀ x, p.2 x ≤ 1) (hB : ∀ ρ' : Rho, ∀ D' : Nat → Prop, (∀ q, q ≠ k → ρ' q = ρ q) → (ρ' k).1 = p.1 → (∀ q, dom σ.blk q → D' q) → D' k → BlkR w.heap H ρ' D' B p) (hdead : B ≠ .dead)
    (htop : ∀ x, Top B p x → 0 < p.2 x) :
    ∃ ρ', RelH Γ H ρ' { σ with blk := putB σ.blk k B } a w ∧ (∀ q, q ≠ k → ρ' q = ρ q) ∧ ρ' k = p := by
  rcases hk with hk | ⟨hk, hp⟩
  · have r1 := r.new' (w' := w) (k := k) (B := B) (p := p) hk (fun _ _ _ => rfl) (fun _ _ => rfl) (Ext.refl _) hone hnew hle (hB _ _ (fun q hq => upd_other hq) (by rw [upd_same]) (fun q hq => dom_insB.2 (.inr hq)) (dom_insB.2 (.inl rfl))) hdead
    refine ⟨_, ?_, fun q hq => upd_other hq, upd_same _ _ _⟩
    unfold putB
    rw [hk]
    exact r1
  · have hz : ∀ x, (ρ k).2 x = 0 := fun x => by
      have := r.b.blk k _ (getB_mem hk)
      rw [this]
    obtain ⟨pv, ps⟩ := p
    simp only at hp
    subst hp
    have r1 := r.revive (w' := w) (k := k) hne (B := B) (p := ps) (getB_dom hk) hz (fun _ _ _ => rfl) (Ext.refl _)
      (hB (upd ρ k ((ρ k).1, ps)) (dom (setB σ.blk k B)) (fun q hq => upd_other hq) (by rw [upd_same]) (fun q hq => dom_setB.2 hq) (dom_setB.2 (getB_dom hk))) htop hnew hle
    refine ⟨_, ?_, fun q hq => upd_other hq, upd_same _ _ _⟩
    unfold putB
    rw [hk]
    exact r1
theorem RelH.setV {ρ : Rho} {σ : SS} (r : RelH Γ H ρ σ a w) {k : Nat} {E : ETy} {xs : Unit → List E.α} (hk : getB σ.blk k = some .dead) (hv : RL H (.list E xs) (ρ k).1) : RelH Γ H ρ { σ with blk := setB σ.blk k (.view E xs) } a w := by
  have hz : (ρ k).2 = fun _ => 0 := r.b.blk k _ (getB_mem hk)
  have hd : dom (setB σ.blk k (.view E xs)) = dom σ.blk := setB_dom_eq
  refine ⟨⟨fun j hj => r.b.oc j (hd ▸ hj), by rw [keys_setB]; exact r.b.nd, r.b.h0, r.b.hh, fun j B hj => ?_, fun x => ?_, fun j B hj x hx => ?_, fun j B hj x hx => ?_⟩, ?_, r.d, r.n, fun p hp => ?_, fun p hp => ?_⟩
  · show BlkR w.heap H ρ (dom (setB σ.blk k (.view E xs))) B (ρ j)
    rw [hd]
    rcases mem_setB r.b.nd hj with ⟨rfl, rfl⟩ | ⟨_, h⟩
    · exact ⟨hv, hz⟩
    · exact r.b.blk j B h
  · have h1 := tot_setB (ρ := ρ) (ρ' := ρ) r.b.nd (B := .view E xs) (getB_dom hk) (fun _ _ => rfl) x
    have h2 := r.b.sum x
    show tot ρ (setB σ.blk k (.view E xs)) x ≤ 1
    omega
  · rcases mem_setB r.b.nd hj with ⟨rfl, rfl⟩ | ⟨_, h⟩
    · rw [hz] at hx; simp at hx
    · exact r.b.fresh j B h x hx
  · rcases mem_setB r.b.nd hj with ⟨rfl, rfl⟩ | ⟨_, h⟩
    · exact hx.elim
    · exact r.b.tops j B h x hx
  · show RelE H ρ (dom (setB σ.blk k (.view E xs))) σ.env a.tmps
    rw [hd]; exact r.e
  · have := r.hd p hp
    exact ⟨by show dom (setB σ.blk k (.view E xs)) p.1; rw [hd]; exact this.1, this.2⟩
  · have := r.hm p hp
    exact ⟨by show dom (setB σ.blk k (.view E xs)) p.1; rw [hd]; exact this.1, this.2⟩
theorem RelH.unV {ρ : Rho} {bs : List (Nat × Blk)} : ∀ (ks : List Nat) {σ : SS}, RelH Γ H ρ σ a w → (∀ k ∈ ks, ∀ (E : ETy) (xs : Unit → List E.α), getB bs k = some (.view E xs) → RL H (.list E xs) (ρ k).1) →
    RelH Γ H ρ { σ with blk := Go.Proofs.Ytlochjpjlhkjaaa.unV bs ks σ.blk } a w ∧ dom (Go.Proofs.Ytlochjpjlhkjaaa.unV bs ks σ.blk) = dom σ.blk
  | [], σ, r, _ => ⟨r, rfl⟩
  | k :: ks, σ, r, h => by
    have h' := fun j hj => h j (List.mem_cons_of_mem _ hj)
    simp only [Go.Proofs.Ytlochjpjlhkjaaa.unV]
    split
    · rename_i E xs hg
      split
      · rename_i hk
        obtain ⟨q1, q2⟩ := RelH.unV ks (r.setV hk (h k List.mem_cons_self E xs hg)) h'
        exact ⟨q1, q2.trans setB_dom_eq⟩
      · exact RelH.unV ks r h'
    · exact RelH.unV ks r h'
theorem RelH.graft {m : Nat → Nat} {n : Nat} {H' : Hp} {ρ2 : Rho} {D2 : Nat → Prop} : ∀ (l : List (Nat × Blk)) {ρ : Rho} {σ : SS}, RelH Γ H ρ σ a w → (∀ p ∈ Γ.hd, ∀ j B, (j, B) ∈ l → p.1 ≠ m j) →
    (l.all (backOk n) = true) → (∀ j B, (j, B) ∈ l → BlkR w.heap H' ρ2 D2 B (ρ2 j) ∧ (ρ2 j).1.oneCell' = true ∧ (getB σ.blk (m j) = none ∨ (getB σ.blk (m j) = some .dead ∧ (ρ2 j).1 = (ρ (m j)).1))) →
    (∀ j B, (j, B) ∈ l → ∀ x, 0 < (ρ2 j).2 x → H x = none ∧ tot ρ σ.blk x = 0) → (∀ x, tot ρ2 l x ≤ 1) → ((l.map fun p => m p.1).Nodup) → (∀ j, j < n → D2 j → dom σ.blk (m j) ∧ (ρ2 j).1 = (ρ (m j)).1) → (∀ j B, (j, B) ∈ l → D2 j) →
    ∃ ρ', RelH Γ H ρ' { σ with blk := graftB m l σ.blk } a w ∧ (∀ q, dom σ.blk q → dom (graftB m l σ.blk) q) ∧ (∀ q, q ∉ l.map (fun p => m p.1) → ρ' q = ρ q) ∧ (∀ j B, (j, B) ∈ l → dom (graftB m l σ.blk) (m j) ∧ ρ' (m j) = ρ2 j)
  | [], ρ, σ, r, _, _, _, _, _, _, _, _ => ⟨ρ, r, fun q hq => hq, fun q _ => rfl, fun j B hj => by cases hj⟩
  | (j, B) :: l, ρ, σ, r, hne, hok, hblk, hnew, hsum, hnd, hnm, hD => by
    by_cases hdd : B = .dead
    · subst hdd
      simp only [List.all_cons, Bool.and_eq_true] at hok
      simp only [List.map_cons, List.nodup_cons] at hnd
      obtain ⟨ρ', r', g3, g4, g5⟩ := RelH.graft (m := m) (n := n) (H' := H') (ρ2 := ρ2) (D2 := D2) l r (fun p hp j' B' h => hne p hp j' B' (List.mem_cons_of_mem _ h)) hok.2 (fun j' B' h => hblk j' B' (List.mem_cons_of_mem _ h)) (fun j' B' h => hnew j' B' (List.mem_cons_of_mem _ h))
        (fun x => by have := hsum x; simp only [tot] at this; omega) hnd.2 hnm (fun j' B' h => hD j' B' (List.mem_cons_of_mem _ h))
      refine ⟨ρ', r', g3, fun q hq => g4 q fun h => hq (List.mem_cons_of_mem _ h), fun j' B' h => ?_⟩
      rcases List.mem_cons.1 h with h | h
      · cases h
        obtain ⟨hB, _, hk⟩ := hblk j .dead List.mem_cons_self
        have hj : j < n := by
          have := hok.1
          simp only [backOk, Bool.and_eq_true, decide_eq_true_eq] at this
          exact this.2
        obtain ⟨q1, q2⟩ := hnm j hj (hD j _ List.mem_cons_self)
        rcases hk with hk | ⟨hk, _⟩
        · exact (getB_none hk q1).elim
        · refine ⟨g3 _ q1, ?_⟩
          rw [g4 _ hnd.1]
          have e1 : (ρ (m j)).2 = fun _ => 0 := r.b.blk _ _ (getB_mem hk)
          have e2 : (ρ2 j).2 = fun _ => 0 := hB
          exact Prod.ext q2.symm (by rw [e1, e2])
      · exact g5 j' B' h
    have eg : ∀ bs, graftB m ((j, B) :: l) bs = graftB m l (putB bs (m j) (B.ren m)) := fun bs => by
      cases B with
      | dead => exact (hdd rfl).elim
      | _ => rfl
    simp only [eg]
    simp only [List.all_cons, Bool.and_eq_true] at hok
    simp only [List.map_cons, List.nodup_cons] at hnd
    obtain ⟨hB, hone, hk⟩ := hblk j B List.mem_cons_self
    have hle : ∀ x, (ρ2 j).2 x ≤ 1 := fun x => by have := hsum x; simp only [tot] at this; omega
    have hB0 := hok.1
    unfold backOk at hB0
    simp only [Bool.and_eq_true] at hB0
    obtain ⟨ρ1, r1, g1, g2⟩ := r.put1 (B := B.ren m) (p := ρ2 j) (fun p hp => hne p hp j B List.mem_cons_self) hk hone (hnew j B List.mem_cons_self) hle (fun ρ' D' h1 h1k h2 h3 => by
        cases B with
        | own E xs l => exact hB
        | box cs =>
          obtain ⟨b, vs, e, fz, e1, e2, e3, e4, e5⟩ := hB
          refine ⟨b, vs, e, fz, e1, e2, e3, e4, by rw [renL_len]; exact e5.1, fun q c hq => ?_⟩
          obtain ⟨c0, hc0, rfl⟩ := renL_get hq
          have hc := e5.2 q c0 hc0
          have hbk := List.all_eq_true.1 hB0.2 c0 (List.mem_of_getElem? hc0)
          cases c0 with
          | own k =>
            simp only [C.bk, decide_eq_true_eq] at hbk
            obtain ⟨f1, f2⟩ := hc
            obtain ⟨f3, f4⟩ := hnm k hbk f1
            refine ⟨h2 _ f3, ?_⟩
            rw [f2]
            by_cases hmk : m k = m j
            · rw [hmk, h1k, f4, hmk]
              rcases hk with hk | ⟨hk, hk'⟩
              · exact (getB_none hk (hmk ▸ f3)).elim
              · exact hk'.symm
            · rw [h1 _ hmk]; exact f4
          | lf l => cases l <;> first | exact (RC.cl (H' := H) (ρ := ρ') (D := D') (c := .lf _) (by first | exact hc) rfl) | exact (by cases hbk)
          | bl b => exact hc
          | nil => exact hc
          | undef => trivial
          | ptr k off => cases hbk
          | el E x off => cases hbk
          | pcs ls off => cases hbk
          | oel k E i off => cases hbk
          | fn f l => cases hbk
        | dead => exact (hdd rfl).elim
        | view E xs => cases hB0.2
        | mp m => cases hB0.2
        | hol E xs i fs => cases hB0.2) (by cases B <;> simp [Blk.ren] at hB0 hdd ⊢) (fun x hx => by
        cases B with
        | own E xs l => cases l with
          | false => exact hx
          | true => cases hB0.2
        | box cs => exact hx
        | dead => exact (hdd rfl).elim
        | view E xs => cases hB0.2
        | mp m => cases hB0.2
        | hol E xs i fs => cases hB0.2)
    have hmem : ∀ j' B', (j', B') ∈ l → m j' ≠ m j := fun j' B' h he => hnd.1 (by rw [← he]; exact List.mem_map.2 ⟨_, h, rfl⟩)
    have htot : ∀ x, tot ρ1 (putB σ.blk (m j) (B.ren m)) x = tot ρ σ.blk x + (ρ2 j).2 x := fun x => by
      unfold putB
      split
      · rename_i A hA
        have h1 := tot_setB (ρ := ρ) (ρ' := ρ1) r.b.nd (B := B.ren m) (getB_dom hA) (fun q hq => g1 q hq) x
        rw [g2] at h1
        have h2 : (ρ (m j)).2 x = 0 := by
          rcases hk with hk | ⟨hk, _⟩
          · rw [hk] at hA; cases hA
          · have := r.b.blk _ _ (getB_mem hk); rw [this]
        omega
      · rename_i hA
        rw [tot_insB, g2, tot_congr (ρ := ρ) (ρ' := ρ1) fun q hq => g1 q fun he => getB_none hA (he ▸ hq)]
        omega
    obtain ⟨ρ', r', g3, g4, g5⟩ := RelH.graft (m := m) (n := n) (H' := H') (ρ2 := ρ2) (D2 := D2) l r1 (fun p hp j' B' h => hne p hp j' B' (List.mem_cons_of_mem _ h)) hok.2
      (fun j' B' hj' => by
        obtain ⟨q1, q2, q3⟩ := hblk j' B' (List.mem_cons_of_mem _ hj')
        have hne := hmem j' B' hj'
        refine ⟨q1, q2, ?_⟩
        have hget : getB (putB σ.blk (m j) (B.ren m)) (m j') = getB σ.blk (m j') := by
          unfold putB
          split
          · have : ∀ bs : List (Nat × Blk), getB (setB bs (m j) (B.ren m)) (m j') = getB bs (m j') := by
              intro bs
              induction bs with
              | nil => rfl
              | cons p bs ih =>
                simp only [setB]
                split
                · rename_i hp
                  simp only [getB, hp, if_neg (Ne.symm hne)]
                · simp only [getB, ih]
            exact this _
          · have : ∀ bs : List (Nat × Blk), getB (insB bs (m j) (B.ren m)) (m j') = getB bs (m j') := by
              intro bs
              induction bs with
              | nil => simp only [insB, getB, if_neg (Ne.symm hne)]
              | cons p bs ih =>
                simp only [insB]
                split
                · simp only [getB, if_neg (Ne.symm hne)]
                · simp only [getB, ih]
            exact this _
        rw [hget, g1 _ hne]
        exact q3)
      (fun j' B' hj' x hx => by
        obtain ⟨q1, q2⟩ := hnew j' B' (List.mem_cons_of_mem _ hj') x hx
        refine ⟨q1, ?_⟩
        show tot ρ1 (putB σ.blk (m j) (B.ren m)) x = 0
        rw [htot, q2]
        have h1 := hsum x
        have h2 := tot_le (ρ := ρ2) hj' x
        simp only [tot] at h1
        omega)
      (fun x => by have := hsum x; simp only [tot] at this; omega) hnd.2
      (fun q hq hD => by
        obtain ⟨q1, q2⟩ := hnm q hq hD
        refine ⟨dom_putB.2 (.inr q1), ?_⟩
        by_cases he : m q = m j
        · rw [he, g2]
          rw [q2, he]
          rcases hk with hk | ⟨_, hk⟩
          · exact (getB_none hk (he ▸ q1)).elim
          · exact hk.symm
        · rw [g1 _ he]; exact q2) (fun j' B' h => hD j' B' (List.mem_cons_of_mem _ h))
    refine ⟨ρ', r', fun q hq => g3 q (dom_putB.2 (.inr hq)), fun q hq => ?_, fun j' B' hj' => ?_⟩
    · simp only [List.map_cons, List.mem_cons, not_or] at hq
      rw [g4 q hq.2, g1 q hq.1]
    · rcases List.mem_cons.1 hj' with h | h
      · cases h
        exact ⟨g3 _ (dom_putB.2 (.inl rfl)), by rw [g4 _ hnd.1, g2]⟩
      · exact g5 j' B' h
end
theorem getB_setB_other {bs : List (Nat × Blk)} {k j : Nat} {B : Blk} (h : j ≠ k) : getB (setB bs k B) j = getB bs j := by
  induction bs with
  | nil => rfl
  | cons p bs ih =>
    simp only [setB]
    split
    · rename_i hp
      simp only [getB, hp, if_neg (Ne.symm h)]
    · simp only [getB, ih]
theorem getB_killL_dead : ∀ {ks : List Nat} {bs : List (Nat × Blk)} {k : Nat}, dom bs k → (k ∈ ks ∨ getB bs k = some .dead) → getB (killL bs ks) k = some .dead
  | [], bs, k, _, h => h.resolve_left (by simp)
  | j :: ks, bs, k, hd, h => by
    simp only [killL]
    refine getB_killL_dead (dom_setB.2 hd) ?_
    by_cases hk : k = j
    · subst hk; exact .inr (getB_setB_same hd)
    · rw [getB_setB_other hk]
      rcases h with h | h
      · rcases List.mem_cons.1 h with h | h
        · exact (hk h).elim
        · exact .inl h
      · exact .inr h
theorem passBs_get : ∀ {ks r : List Nat} {bs : List (Nat × Blk)} {nb : List Blk}, passBs bs ks r = some nb → nb.length = r.length ∧ ∀ (j : Nat) B, nb[j]? = some B → ∃ k A, r[j]? = some k ∧ getB bs k = some A ∧ passB ks (some A) = some B
  | ks, [], bs, nb, h => by simp only [passBs, Option.some.injEq] at h; subst h; exact ⟨rfl, fun j B hj => by simp at hj⟩
  | ks, k :: r, bs, nb, h => by
    simp only [passBs] at h
    split at h
    · rename_i B l h1 h2
      cases h
      obtain ⟨g1, g2⟩ := passBs_get h2
      refine ⟨by simp [g1], fun j B' hj => ?_⟩
      cases j with
      | zero =>
        simp at hj; subst hj
        cases hg : getB bs k with
        | none => rw [hg] at h1; simp [passB] at h1
        | some A => exact ⟨k, A, rfl, hg, by rw [← hg]; exact h1⟩
      | succ j => simpa using g2 j B' (by simpa using hj)
    · cases h
theorem passB_ok {ks : List Nat} {A B : Blk} (h : passB ks (some A) = some B) : (∃ E xs, A = .own E xs false ∧ B = .own E xs false) ∨ (∃ cs, A = .box cs ∧ cs.all (C.box ks) = true ∧ B = .box (renL (place ks) cs)) ∨ ∃ E xs, A = .view E xs ∧ B = .view E xs := by
  unfold passB at h
  split at h
  · rename_i E xs hA; cases hA; cases h; exact .inl ⟨E, xs, rfl, rfl⟩
  · rename_i E xs hA; cases hA; cases h; exact .inr (.inr ⟨E, xs, rfl, rfl⟩)
  · rename_i cs hA
    cases hA
    split at h
    · rename_i hc; cases h; exact .inr (.inl ⟨cs, rfl, hc, rfl⟩)
    · cases h
  · cases h
theorem mem_insN {ks xs : List Nat} {k : Nat} (h : k ∈ ks ∨ k ∈ xs) : k ∈ insN ks xs := by
  induction xs generalizing ks with
  | nil => simpa [insN] using h
  | cons x xs ih =>
    simp only [insN]
    split
    · rename_i hc
      refine ih ?_
      rcases h with h | h
      · exact .inl h
      · rcases List.mem_cons.1 h with rfl | h
        · exact .inl (by simpa using hc)
        · exact .inr h
    · refine ih ?_
      rcases h with h | h
      · exact .inl (List.mem_append_left _ h)
      · rcases List.mem_cons.1 h with rfl | h
        · exact .inl (List.mem_append_right _ List.mem_cons_self)
        · exact .inr h
theorem nmL_mem {cs : List C} {c : C} {k : Nat} (hc : c ∈ cs) (hk : k ∈ c.nm) : k ∈ nmL cs := by
  induction cs with
  | nil => cases hc
  | cons x cs ih =>
    simp only [nmL, List.mem_append]
    cases hc with
    | head => exact .inl hk
    | tail _ hc => exact .inr (ih hc)
section
variable {H H1 : Hp} {ρ ρ1 : Rho} {D D1 : Nat → Prop} {ks : List Nat}
theorem RC.hand (hks : ∀ k, k ∈ ks → D1 (place ks k) ∧ (ρ1 (place ks k)).1 = (ρ k).1) {c : C} {v : Value} (h : RC H ρ D c v) (hp : c.pass = true) (hn : ∀ k ∈ c.nm, k ∈ ks) : RC H1 ρ1 D1 (c.ren (place ks)) v := by
  cases c with
  | own k =>
    obtain ⟨_, h1⟩ := h
    have := hks k (hn k (by simp [C.nm]))
    exact ⟨this.1, by rw [this.2]; exact h1⟩
  | ptr k off =>
    obtain ⟨_, b, h1, h2⟩ := h
    have := hks k (hn k (by simp [C.nm]))
    exact ⟨this.1, b, by rw [this.2]; exact h1, h2⟩
  | lf l => cases l <;> first | exact (RC.cl (H' := H1) (ρ := ρ1) (D := D1) (c := .lf _) (by first | exact h) rfl) | exact (by cases hp)
  | bl b => exact h
  | nil => exact h
  | undef => trivial
  | el E x off => cases hp
  | pcs ls off => cases hp
  | oel k E i off => cases hp
  | fn f l => cases hp
theorem RV.hand (hks : ∀ k, k ∈ ks → D1 (place ks k) ∧ (ρ1 (place ks k)).1 = (ρ k).1) {c : V} {v : Value} (h : RV H ρ D c v) (hp : c.pass = true) (hn : ∀ k ∈ c.nm, k ∈ ks) : RV H1 ρ1 D1 (c.ren (place ks)) v := by
  cases c with
  | c x => exact RC.hand hks h hp hn
  | agg cs =>
    obtain ⟨vs, h1, h2⟩ := h
    refine ⟨vs, h1, by rw [renL_len]; exact h2.1, fun j c hj => ?_⟩
    obtain ⟨c0, hc0, rfl⟩ := renL_get hj
    exact RC.hand hks (h2.2 j c0 hc0) (List.all_eq_true.1 hp c0 (List.mem_of_getElem? hc0)) fun k hk => hn k (nmL_mem (List.mem_of_getElem? hc0) hk)
  | tup cs => cases hp
theorem handVs_len {tab : Tab} {bs : List (Nat × Blk)} : ∀ {vs : List V} {ms : List Bool} {Ts : List TypeId}, (handVs tab bs ks ms Ts vs).length = vs.length
  | [], ms, Ts => by cases ms <;> simp [handVs]
  | v :: vs, ms, Ts => by
    rcases ms with _ | ⟨m, ms⟩
    · cases Ts <;> simp [handVs, handVs_len (vs := vs)]
    · cases m <;> cases Ts <;> simp [handVs, handVs_len (vs := vs)]
def lendH (tab : Tab) (bs : List (Nat × Blk)) (x : V) : List TypeId → V
  | T :: _ => lendV tab bs T x
  | [] => .c .undef
theorem handVs_get {w : World} {tab : Tab} {bs : List (Nat × Blk)} (L : Lends w H H1 ρ D bs) (hks : ∀ k, k ∈ ks → D1 (place ks k) ∧ (ρ1 (place ks k)).1 = (ρ k).1) :
    ∀ {vs : List V} {ms : List Bool} {Ts : List TypeId} {us : List Value}, (∀ (j : Nat) c v, vs[j]? = some c → us[j]? = some v → RV H ρ D c v) → handOk bs ms vs = true → (∀ k ∈ argNm ms vs, k ∈ ks) → vs.length = us.length →
    ∀ (j : Nat) c v, (handVs tab bs ks ms Ts vs)[j]? = some c → us[j]? = some v → RV H1 ρ1 D1 c v
  | [], ms, Ts, us, _, _, _, _, j, c, v, h, _ => by rcases ms with _ | ⟨m, ms⟩ <;> simp [handVs] at h
  | x :: vs, ms, Ts, [], _, _, _, hl, _, _, _, _, _ => by simp at hl
  | x :: vs, ms, Ts, u :: us, hv, ho, hn, hl, j, c, v, h, h' => by
    have rest : ∀ {ms' : List Bool} {Ts' : List TypeId}, handOk bs ms' vs = true → (∀ k ∈ argNm ms' vs, k ∈ ks) → ∀ (j : Nat) c v, (handVs tab bs ks ms' Ts' vs)[j]? = some c → us[j]? = some v → RV H1 ρ1 D1 c v := fun g1 g2 =>
      handVs_get L hks (fun j c v q1 q2 => hv (j + 1) c v (by simpa using q1) (by simpa using q2)) g1 g2 (by simpa using hl)
    have ro : ∀ {ms' : List Bool}, x.fnOk bs = true → handOk bs ms' vs = true → (∀ k ∈ argNm ms' vs, k ∈ ks) → handVs tab bs ks ms Ts (x :: vs) = lendH tab bs x Ts :: handVs tab bs ks ms' Ts.tail vs → RV H1 ρ1 D1 c v := by
      intro ms' g1 g2 g3 ge
      rw [ge] at h
      cases j with
      | zero =>
        simp only [List.getElem?_cons_zero, Option.some.injEq] at h h'
        subst h; subst h'
        cases Ts with
        | nil => trivial
        | cons T Ts => exact lendV_ok L (hv 0 x u rfl rfl) g1
      | succ j => exact rest g2 g3 j c v (by simpa using h) (by simpa using h')
    rcases ms with _ | ⟨m, ms⟩
    · simp only [handOk, Bool.and_eq_true] at ho
      refine ro (ms' := []) ho.1 ho.2 (fun k hk => by cases vs <;> simp [argNm] at hk) ?_
      cases Ts <;> simp [handVs, lendH]
    · cases m with
      | false =>
        simp only [handOk, Bool.and_eq_true, List.tail_cons] at ho
        refine ro (ms' := ms) ho.1 ho.2 (fun k hk => hn k (by simpa [argNm] using hk)) ?_
        cases Ts <;> simp [handVs, lendH]
      | true =>
        simp only [handOk, Bool.and_eq_true] at ho
        cases j with
        | zero =>
          simp only [handVs, List.getElem?_cons_zero, Option.some.injEq] at h h'
          subst h; subst h'
          exact RV.hand hks (hv 0 x u rfl rfl) ho.1 fun k hk => hn k (by simp [argNm, hk])
        | succ j => exact rest (ms' := ms) (Ts' := Ts.tail) ho.2 (fun k hk => hn k (by simp [argNm, hk])) j c v (by simpa [handVs] using h) (by simpa using h')
end
theorem nodup_mapKeys {m : Nat → Nat} : ∀ {l : List (Nat × Blk)}, (l.map (·.1)).Nodup → (∀ p ∈ l, ∀ q ∈ l, m p.1 = m q.1 → p.1 = q.1) → (l.map fun p => m p.1).Nodup
  | [], _, _ => by simp
  | p :: l, hn, hi => by
    simp only [List.map_cons, List.nodup_cons] at hn ⊢
    refine ⟨fun hm => ?_, nodup_mapKeys hn.2 fun a ha b hb => hi a (List.mem_cons_of_mem _ ha) b (List.mem_cons_of_mem _ hb)⟩
    obtain ⟨q, hq, he⟩ := List.mem_map.1 hm
    refine hn.1 (List.mem_map.2 ⟨q, hq, ?_⟩)
    exact hi q (List.mem_cons_of_mem _ hq) p List.mem_cons_self he
section
variable {P : Program} {tab : Tab} {Γ : Ctx} {H : Hp} {ρ : Rho} {σ : SS} {a : Act} {w : World} (r : RelH Γ H ρ σ a w)
include r
theorem vcCallM_ok {o : Oper} {f : FuncId} {l : List Cp} {ms : List Bool} {c : Call} (hne : ∀ p ∈ Γ.hd, p.1 ∉ handNm σ.blk ms (c.args.toList.map σ.ev)) {d : Nat} {K : SS → Prop} {Q : Exit → Act → World → Prop} (hc : calleeV σ o = some (.c (.fn f l), c)) (hd : o.dst = some d) (h : vcCallM P tab σ f l ms c d K) :
    o.wp P a w (fun a' w' => ∃ σ', K σ' ∧ (∃ ρ', RelH Γ H ρ' σ' a' w') ∧ ∀ j, dom σ.blk j → j ∉ handNm σ.blk ms (c.args.toList.map σ.ev) → ∀ x, 0 < (ρ j).2 x → w'.heap[x]? = w.heap[x]?) Q := by
  unfold vcCallM at h
  generalize hks : handNm σ.blk ms (c.args.toList.map σ.ev) = ks at h hne ⊢
  split at h
  · rename_i nb hnb
    split at h
    · rename_i hcond
      obtain ⟨hfree, hn100, hndk, hcaps, hsize, hok⟩ := hcond
      obtain ⟨hlen, hget⟩ := passBs_get hnb
      have hargn : ∀ k ∈ argNm ms (c.args.toList.map σ.ev), k ∈ ks := fun k hk => by
        rw [← hks]; exact mem_insN (.inl (mem_insN (.inr hk)))
      let ρc : Rho := fun j => ρ (ks.getD j 0)
      have hρc : ∀ (j k : Nat), ks[j]? = some k → ρc (0 + j) = ρ k := fun j k hj => by
        simp only [ρc, Nat.zero_add, List.getD_eq_getElem?_getD, hj, Option.getD_some]
      have hgetk : ∀ k ∈ ks, ∃ A, getB σ.blk k = some A ∧ ((∃ E xs, A = .own E xs false) ∨ (∃ cs, A = .box cs) ∨ ∃ E xs, A = .view E xs) := fun k hk => by
        obtain ⟨j, hj, hjk⟩ := List.getElem_of_mem hk
        obtain ⟨B, hB⟩ : ∃ B, nb[j]? = some B := ⟨_, List.getElem?_eq_getElem (by omega)⟩
        obtain ⟨k', A, h1, h2, h3⟩ := hget j B hB
        rw [List.getElem?_eq_getElem hj, hjk] at h1
        cases h1
        refine ⟨A, h2, ?_⟩
        rcases passB_ok h3 with ⟨E, xs, rfl, _⟩ | ⟨cs, rfl, _⟩ | ⟨E, xs, rfl, _⟩
        · exact .inl ⟨E, xs, rfl⟩
        · exact .inr (.inl ⟨cs, rfl⟩)
        · exact .inr (.inr ⟨E, xs, rfl⟩)
      have hdk : ∀ k ∈ ks, dom σ.blk k := fun k hk => by obtain ⟨A, h1, _⟩ := hgetk k hk; exact getB_dom h1
      have htopk : ∀ k ∈ ks, ∀ x, 0 < (ρ k).2 x → H x = none := fun k hk x hx => by
        obtain ⟨A, h1, h2⟩ := hgetk k hk
        rcases h2 with ⟨E, xs, rfl⟩ | ⟨cs, rfl⟩ | ⟨E, xs, rfl⟩
        · exact r.b.tops k _ (getB_mem h1) x hx
        · exact r.b.tops k _ (getB_mem h1) x hx
        · rw [(r.b.blk k _ (getB_mem h1)).2] at hx; simp at hx
      have hsumH : ∀ x, 0 < sumK ρ ks x → H x = none := fun x hx => by
        obtain ⟨k, hk, h1⟩ := sumK_pos hx
        exact htopk k hk x h1
      have htotc : ∀ x, tot ρc (num 0 nb) x = sumK ρ ks x := fun x => tot_num hlen hρc
      have hdomc : ∀ k ∈ ks, dom (num 0 nb) (place ks k) ∧ (ρc (place ks k)).1 = (ρ k).1 := fun k hk => by
        have h1 := place_get hk
        refine ⟨dom_num.2 ⟨Nat.zero_le _, by rw [Nat.zero_add, hlen]; exact lt_of_get h1⟩, ?_⟩
        have := hρc _ _ h1
        rw [Nat.zero_add] at this
        rw [this]
      let H1 : Hp := hpOf w (tot ρc (num 0 nb))
      have hH1 : ∀ x, sumK ρ ks x = 0 → H1 x = w.heap[x]? := fun x hx => by
        simp only [H1, hpOf, htotc, hx, if_true]
      have hH1n : ∀ x o, H1 x = some o → w.heap[x]? = some o ∧ sumK ρ ks x = 0 := fun x o hx => by
        simp only [H1, hpOf, htotc] at hx
        split at hx
        · rename_i h0; exact ⟨hx, h0⟩
        · cases hx
      have hHH1 : ∀ b o, H b = some o → H1 b = some o := fun b o hb => by
        rw [hH1 b ?_]
        · exact r.b.hh b o hb
        · rcases Nat.eq_zero_or_pos (sumK ρ ks b) with h0 | h0
          · exact h0
          · rw [hsumH b h0] at hb; cases hb
      have hlends : Lends w H H1 ρ (dom σ.blk) (restB ks σ.blk) := ⟨hHH1, fun k B hk => by
        obtain ⟨h1, h2⟩ := getB_restB hk
        refine ⟨r.b.blk k B (getB_mem h1), fun x hx => hH1 x ?_⟩
        have h3 := sumK_le (ρ := ρ) (k :: ks) (bs := σ.blk) (by simp [nodupB, h2, hndk]) (fun j hj => by rcases List.mem_cons.1 hj with rfl | hj; exact getB_dom h1; exact hdk j hj) x
        have h4 := r.b.sum x
        simp only [sumK] at h3
        omega⟩
      have hrelB : RelB w.heap H1 H1 ρc (num 0 nb) := by
        have hone : ∀ j B, (j, B) ∈ num 0 nb → ∃ k A, ks[j]? = some k ∧ getB σ.blk k = some A ∧ passB ks (some A) = some B ∧ ρc j = ρ k := fun j B hj => by
          obtain ⟨_, h1⟩ := mem_num.1 hj
          obtain ⟨k, A, h2, h3, h4⟩ := hget j B (by simpa using h1)
          exact ⟨k, A, h2, h3, h4, by have := hρc j k h2; rwa [Nat.zero_add] at this⟩
        have howned : ∀ j B x, (j, B) ∈ num 0 nb → 0 < (ρc j).2 x → H1 x = none := fun j B x hj hx => by
          have h1 := tot_le (ρ := ρc) hj x
          simp only [H1, hpOf]
          rw [if_neg (by omega)]
        refine ⟨fun j hj => ?_, nodup_num, fun _ _ h => h, fun b o hb => (hH1n b o hb).1, fun j B hj => ?_, fun x => ?_, fun j B hj x hx => howned j B x hj hx, fun j B hj x hx => howned j B x hj ?_⟩
        · obtain ⟨⟨j', B⟩, hjB, rfl⟩ := List.mem_map.1 hj
          obtain ⟨k, A, _, h2, _, h4⟩ := hone j' B hjB
          simp only
          rw [h4]; exact r.b.oc k (getB_dom h2)
        · obtain ⟨k, A, h1, h2, h3, h4⟩ := hone j B hj
          have hA := r.b.blk k A (getB_mem h2)
          rw [h4]
          rcases passB_ok h3 with ⟨E, xs, rfl, rfl⟩ | ⟨cs, rfl, hcs, rfl⟩ | ⟨E, xs, rfl, rfl⟩
          rotate_right
          · exact ⟨hA.1.mono hHH1, hA.2⟩
          · exact hA
          · obtain ⟨b, vs, e, fz, e1, e2, e3, e4, e5⟩ := hA
            refine ⟨b, vs, e, fz, e1, e2, e3, e4, by rw [renL_len]; exact e5.1, fun q cq hq => ?_⟩
            obtain ⟨c0, hc0, rfl⟩ := renL_get hq
            have hb := List.all_eq_true.1 hcs c0 (List.mem_of_getElem? hc0)
            have hq0 := e5.2 q c0 hc0
            refine RC.hand (fun k hk => hdomc k hk) hq0 ?_ ?_
            · cases c0 <;> first | rfl | exact hb | exact (by cases hb)
            · intro k hk
              cases c0 with
              | own k' =>
                simp only [C.nm, List.mem_singleton] at hk
                subst hk
                simpa [C.box] using hb
              | ptr k' off => cases hb
              | _ => simp [C.nm] at hk
        · rw [htotc]
          exact Nat.le_trans (sumK_le ks hndk hdk x) (r.b.sum x)
        · obtain ⟨k, A, h1, h2, h3, h4⟩ := hone j B hj
          rcases passB_ok h3 with ⟨E, xs, rfl, rfl⟩ | ⟨cs, rfl, hcs, rfl⟩ | ⟨E, xs, rfl, rfl⟩
          · exact hx
          · exact hx
          · exact hx.elim
      unfold calleeV at hc
      split at hc
      · rename_i c0 hop
        split at hc
        · rename_i x hcal
          simp only [Option.some.injEq, Prod.mk.injEq] at hc
          obtain ⟨hx, rfl⟩ := hc
          obtain ⟨post, ⟨⟨fn, hf1, hf2, hf3⟩, hs⟩, hk⟩ := h
          have ev := ev_ok r.e x
          rw [hx] at ev
          obtain ⟨vs, e1, e2, e3⟩ := ev
          have hrun : (execOp a.eval o).run P w = .ok (.enter f (c0.args.map a.eval ++ vs)) w := by
            simp only [execOp, hop, resolve, hcal, Deferred.ofValue, e1, Sem.run_bind, Sem.run_pure, Result.andThen_ok, invoke, callFunc, run_program, hf1, hf2, hf3]
            simp
          have hargs : args H1 ρc (dom (num 0 nb)) (handVs tab (restB ks σ.blk) ks ms c0.argTypes.toList (c0.args.toList.map σ.ev) ++ l.map (capC (restB ks σ.blk))) (c0.args.map a.eval ++ vs) := by
            refine ⟨by simp [handVs_len, e2], fun j cv hj => ?_⟩
            rw [Array.getD_eq_getD_getElem?]
            by_cases hlt : j < c0.args.size
            · rw [List.getElem?_append_left (by simpa [handVs_len] using hlt)] at hj
              rw [Array.getElem?_append_left (by simpa using hlt)]
              have h1 : (c0.args.map a.eval).toList[j]? = some (a.eval c0.args[j]) := by simp [hlt]
              have h2 := handVs_get hlends hdomc (map_ev r c0.args) hok hargn (by simp) j cv _ hj h1
              simpa [hlt] using h2
            · rw [List.getElem?_append_right (by simpa [handVs_len] using Nat.le_of_not_lt hlt)] at hj
              rw [Array.getElem?_append_right (by simpa using Nat.le_of_not_lt hlt)]
              simp only [handVs_len, List.length_map, Array.length_toList, Array.size_map, List.getElem?_map, Option.map_eq_some_iff] at hj ⊢
              obtain ⟨c1, h1, rfl⟩ := hj
              have h2 := e3 _ c1 h1
              have h3 := List.all_eq_true.1 hcaps c1 (List.mem_of_getElem? h1)
              rw [← Array.getD_eq_getD_getElem?]
              exact capC_ok hlends h2 h3
          unfold Oper.wp
          rw [hrun]
          simp only [Oper.upon]
          refine (hs w _ ρc hrelB hargs).mono fun e w' he => ?_
          obtain ⟨v, rv, bs', H', ρ2, rfl, hp, hB, hv, hext, hhdr⟩ := he
          obtain ⟨⟨hbok, hcl⟩, hK⟩ := hk rv bs' hp
          have hpres : ∀ x o, H1 x = some o → w'.heap[x]? = some o := fun x o hx => hB.hh x o (hB.h0 x o hx)
          have hsame : ∀ x, x < w.heap.size → sumK ρ ks x = 0 → w'.heap[x]? = w.heap[x]? := fun x hx h0 => by
            rw [Array.getElem?_eq_getElem hx]
            exact hpres x _ (by rw [hH1 x h0, Array.getElem?_eq_getElem hx])
          have hkill := fun x => tot_killL (ρ := ρ) (x := x) r.b.nd hndk hdk
          have r1 := r.killL hdk
          have r2 := r1.move (w' := w') (fun b o hb => by
              have h0 := (hH1n b o (hHH1 b o hb)).2
              exact hsame b (lt_of_aget (r.b.hh b o hb)) h0) (fun b hb => by
              have h1 := hkill b
              have h2 := r.b.sum b
              have hb' : 0 < tot (updL ρ ks) (Go.Proofs.Ytlochjpjlhkjaaa.killL σ.blk ks) b := hb
              exact hsame b (r.lt (by omega)) (by omega)) hext
          have hback : ∀ j, j < nb.length → backM ks d j ∈ ks ∧ ks[j]? = some (backM ks d j) := fun j hj => by
            have h1 : ks[j]? = some ks[j] := List.getElem?_eq_getElem (by omega)
            have h2 : backM ks d j = ks[j] := by
              simp only [backM]
              rw [if_pos (by omega), List.getD_eq_getElem?_getD, h1, Option.getD_some]
            exact ⟨by rw [h2]; exact List.getElem_mem _, by rw [h2]; exact h1⟩
          have hhd : ∀ j, j < nb.length → dom bs' j → (ρ2 j).1 = (updL ρ ks (backM ks d j)).1 := fun j hj hD => by
            rw [updL_fst, hhdr j hD (dom_num.2 ⟨Nat.zero_le _, by omega⟩)]
            have := hρc j _ (hback j hj).2
            rw [Nat.zero_add] at this
            rw [this]
          have hkey : ∀ j B, (j, B) ∈ bs' → j < nb.length ∨ (100 ≤ j ∧ j < 108) := fun j B hj => by
            have := List.all_eq_true.1 hbok _ hj
            simp only [backOk, Bool.and_eq_true, Bool.or_eq_true, decide_eq_true_eq] at this
            exact this.1
          have hfr : ∀ i, i < 8 → getB σ.blk (8 * d + i) = none := fun i hi => by
            have : ∀ bs : List (Nat × Blk), freeB bs d = true → getB bs (8 * d + i) = none := by
              intro bs
              induction bs with
              | nil => intro _; rfl
              | cons p bs ih =>
                intro hfb
                simp only [freeB, List.all_cons, Bool.and_eq_true, Bool.or_eq_true, decide_eq_true_eq] at hfb
                simp only [getB]
                rw [if_neg (by omega)]
                exact ih hfb.2
            exact this _ hfree
          have hnewk : ∀ j, 100 ≤ j → j < 108 → backM ks d j = 8 * d + (j - 100) ∧ getB σ.blk (backM ks d j) = none := fun j h1 h2 => by
            have : backM ks d j = 8 * d + (j - 100) := by simp only [backM]; rw [if_neg (by omega)]
            exact ⟨this, by rw [this]; exact hfr _ (by omega)⟩
          have hinj : ∀ j1 B1 j2 B2, (j1, B1) ∈ bs' → (j2, B2) ∈ bs' → backM ks d j1 = backM ks d j2 → j1 = j2 := fun j1 B1 j2 B2 h1 h2 he => by
            rcases hkey j1 B1 h1 with k1 | ⟨k1, k1'⟩ <;> rcases hkey j2 B2 h2 with k2 | ⟨k2, k2'⟩
            · have q1 := (hback j1 k1).2
              have q2 := (hback j2 k2).2
              rw [← he] at q2
              have hnd := nodupB_nodup' hndk
              exact (List.getElem?_inj (i := j1) (j := j2) (by omega) hnd).1 (q1.trans q2.symm)
            · have q1 := hdk _ (hback j1 k1).1
              have q2 := (hnewk j2 k2 k2').2
              rw [← he] at q2
              exact (getB_none q2 q1).elim
            · have q1 := hdk _ (hback j2 k2).1
              have q2 := (hnewk j1 k1 k1').2
              rw [he] at q2
              exact (getB_none q2 q1).elim
            · rw [(hnewk j1 k1 k1').1, (hnewk j2 k2 k2').1] at he
              omega
          obtain ⟨ρ', r3, g1, g2, g3⟩ := RelH.graft (m := backM ks d) (n := nb.length) (H' := H') (ρ2 := ρ2) (D2 := dom bs') bs' r2 (fun p hp j B hj he => by
              rcases hkey j B hj with k1 | ⟨k1, k1'⟩
              · exact hne p hp (by rw [he]; exact (hback j k1).1)
              · exact getB_none (hnewk j k1 k1').2 (by rw [← he]; exact (r.hd p hp).1)) hbok
            (fun j B hj => by
              refine ⟨hB.blk j B hj, hB.oc j (dom_of_mem hj), ?_⟩
              rcases hkey j B hj with k1 | ⟨k1, k1'⟩
              · exact .inr ⟨getB_killL_dead (hdk _ (hback j k1).1) (.inl (hback j k1).1), hhd j k1 (dom_of_mem hj)⟩
              · exact .inl (getB_killL_none (hnewk j k1 k1').2))
            (fun j B hj x hx => by
              have h1 := hB.fresh j B hj x hx
              have h2 := hkill x
              have h3 := r.b.sum x
              rcases Nat.lt_or_ge x w.heap.size with h4 | h4
              · have h5 : 0 < sumK ρ ks x := by
                  rcases Nat.eq_zero_or_pos (sumK ρ ks x) with h0 | h0
                  · rw [show hpOf w (tot ρc (num 0 nb)) x = H1 x from rfl, hH1 x h0, Array.getElem?_eq_getElem h4] at h1
                    cases h1
                  · exact h0
                exact ⟨hsumH x h5, by show tot (updL ρ ks) (Go.Proofs.Ytlochjpjlhkjaaa.killL σ.blk ks) x = 0; omega⟩
              · have h5 := r.none_above h4
                exact ⟨h5.1, by show tot (updL ρ ks) (Go.Proofs.Ytlochjpjlhkjaaa.killL σ.blk ks) x = 0; omega⟩)
            hB.sum
            (nodup_mapKeys hB.nd fun p hp q hq he => hinj p.1 p.2 q.1 q.2 hp hq he)
            (fun j hj hD => ⟨dom_killL.2 (hdk _ (hback j hj).1), hhd j hj hD⟩) (fun j B hj => dom_of_mem hj)
          have hfst : ∀ k ∈ ks, (ρ' k).1 = (ρ k).1 := fun k hk => by
            by_cases hm : k ∈ bs'.map fun p => backM ks d p.1
            · obtain ⟨⟨j, B⟩, hj, rfl⟩ := List.mem_map.1 hm
              rw [(g3 j B hj).2]
              rcases hkey j B hj with k1 | ⟨k1, k1'⟩
              · rw [hhd j k1 (dom_of_mem hj), updL_fst]
              · exact (getB_none (hnewk j k1 k1').2 (hdk _ hk)).elim
            · rw [g2 k hm, updL_fst]
          obtain ⟨r4, g4⟩ := RelH.unV ks r3 fun k hk E xs hg => by
            rw [hfst k hk]
            exact (r.b.blk k _ (getB_mem hg)).1
          refine ⟨_, hK, ⟨ρ', ?_⟩, fun j hj hjk x hx => ?_⟩
          rotate_left
          · have h3 := sumK_le (ρ := ρ) (j :: ks) (bs := σ.blk) (by simp [nodupB, hjk, hndk]) (fun q hq => by rcases List.mem_cons.1 hq with rfl | hq; exact hj; exact hdk q hq) x
            have h4 := r.b.sum x
            simp only [sumK] at h3
            exact hsame x (r.lt (by omega)) (by omega)
          rw [hd]
          refine RelH.put r4 (RV.ren (m := backM ks d) (D := dom bs') (ρ := ρ2) (fun i hi => ?_) (hv.grow (H' := H) (ρ' := ρ2) (D' := dom bs') ⟨(fun _ _ h => by cases h), (fun _ h => ⟨h, rfl⟩)⟩)) (some d)
          obtain ⟨⟨i', B⟩, hiB, rfl⟩ := List.mem_map.1 hi
          obtain ⟨q1, q2⟩ := g3 i' B hiB
          exact ⟨by show dom (Go.Proofs.Ytlochjpjlhkjaaa.unV _ _ _) _; rw [g4]; exact q1, by rw [q2]⟩
        · cases hc
      · cases hc
    · cases h
  · cases h
theorem vcCall_ok {o : Oper} (hwd : isWr tab o = true → Γ.hd = []) {v : V} {c : Call} {K : SS → Prop} {Q : Exit → Act → World → Prop} (hc : calleeV σ o = some (v, c)) (h : vcCall P tab σ v c o.dst K) :
    o.wp P a w (fun a' w' => ∃ σ', K σ' ∧ RelK Γ H (isWr tab o) w σ' a' w') Q := by
  generalize hdo : o.dst = dst at h
  unfold vcCall at h
  split at h
  · rename_i f l d
    split at h
    · rename_i ms hms
      have hw : isWr tab o = true := by
        unfold calleeV at hc
        unfold isWr
        split at hc
        · rename_i c0 hop
          split at hc
          · rename_i x hcal
            simp only [Option.some.injEq, Prod.mk.injEq] at hc
            obtain ⟨hx, rfl⟩ := hc
            rw [hop]
            simp only [hcal]
            split
            · cases ‹Callee.value x = _›
            · rename_i g heq
              cases heq
              simp only [SS.ev, V.c.injEq, C.fn.injEq] at hx
              rw [hx.1, hms]; rfl
            · rfl
          · cases hc
        · cases hc
      exact Oper.wp_mono (fun a' w' ⟨σ', h1, h2, _⟩ => ⟨σ', h1, h2, fun hh => by rw [hw] at hh; cases hh⟩) (vcCallM_ok r (fun p hp => by rw [hwd hw] at hp; cases hp) hc hdo h)
    · exact vcCallR_ok r hc (by rw [hdo]; exact h)
  · cases h
end
end Go.Proofs.Ytlochjpjlhkjaaa
namespace Go.Proofs.Ytlochjpjlhkjaaa
open Go
def isOwnV : V → Bool
  | .c (.own _) => true
  | _ => false
def isStrV : V → Bool
  | .c (.lf (.str _)) => true
  | _ => false
def isOelV : V → Bool
  | .c (.oel _ _ _ _) => true
  | _ => false
def isMem (tab : Tab) (σ : SS) (o : Oper) : Bool :=
  match o.op with
  | .load T x => isOelV (σ.ev x) && tyL tab T
  | .box _ _ | .alloc _ | .buildSlice _ _ _ | .store _ _ _ | .makeSlice _ _ _ => true
  | .slice _ x _ _ _ => isOwnV (byNm σ.blk (σ.ev x))
  | .convert _ D x => isOwnV (σ.ev x) || (isStrV (σ.ev x) && (match tget tab D with | some (.sl _ _ _) => true | _ => false))
  | .makeMap _ _ | .lookup _ _ _ _ | .mapUpdate _ _ _ _ => true
  | .call c => match c.callee with | .builtin .append => true | .builtin .copy => true | .builtin .clear => true | .builtin .len => (match c.argTypes.toList with | [T] => (match tget tab T with | some (.mp _ _) => true | _ => false) | _ => false) | _ => false
  | _ => false
def vcOp (P : Program) (tab : Tab) (o : Oper) (σ : SS) (K : SS → Prop) : Prop :=
  match calleeV σ o with
  | some (v, c) => vcCall P tab σ v c o.dst K
  | none => if isMem tab σ o then vcLst tab o σ K else vcDet tab o σ fun v => K (σ.put o.dst v)
def skipV : V := .tup []
def SS.setE (σ : SS) (d : Nat) (v : V) : SS := { σ with env := σ.env.set d v }
def guardDst (all : List Oper) (j : Nat) : Option Nat := (all[j]?).bind (·.dst)
def vcOps (P : Program) (tab : Tab) (all : List Oper) : List Oper → SS → (SS → Prop) → Prop
  | [], σ, K => K σ
  | o :: rest, σ, K =>
    match o.guard with
    | none => vcOp P tab o σ fun σ' => vcOps P tab all rest σ' K
    | some (j, want) =>
      match guardDst all j with
      | some d =>
        match σ.env.getD d (.c .undef) with
        | .c (.bl b) => if b = want then vcOp P tab o σ fun σ' => vcOps P tab all rest σ' K else vcOps P tab all rest (σ.put o.dst skipV) K
        | .tup [] => vcOps P tab all rest (σ.put o.dst skipV) K
        | .c (.lf (.bool t)) => Br t fun b =>
            if b = want then vcOp P tab o (σ.setE d (.c (.bl b))) fun σ' => vcOps P tab all rest σ' K else vcOps P tab all rest ((σ.setE d (.c (.bl b))).put o.dst skipV) K
        | _ => False
      | none => False
inductive Mat where
  | env (slot : Nat) (E : ETy) (key : Nat)
  | box (bk cell : Nat) (E : ETy) (key : Nat)
def isNilV : V → Bool
  | .c .nil => true
  | _ => false
def isNilC : C → Bool
  | .nil => true
  | _ => false
def SS.mat (σ : SS) : Mat → Option SS
  | .env s E k =>
    match σ.env[s]?, getB σ.blk k with
    | some v, none => if isNilV v then some { env := σ.env.set s (.c (.own k)), blk := insB σ.blk k (.own E (fun _ => []) false) } else none
    | _, _ => none
  | .box bk c E k =>
    match getB σ.blk bk, getB σ.blk k with
    | some (.box cs), none =>
      match cs[c]? with
      | some x => if isNilC x then some { σ with blk := setB (insB σ.blk k (.own E (fun _ => []) false)) bk (.box (cs.set c (.own k))) } else none
      | none => none
    | _, _ => none
def SS.mats (σ : SS) : List Mat → Option SS
  | [] => some σ
  | m :: ms => match σ.mat m with | some σ' => σ'.mats ms | none => none
def lk : List (Nat × Nat) → Nat → Option Nat
  | [], _ => none
  | p :: r, k => if p.1 = k then some p.2 else lk r k
def Cp.rd : Cp → Bool
  | .ptr _ _ => false
  | _ => true
def C.scr (m : List (Nat × Nat)) : C → C
  | .own k => match lk m k with | some k' => .own k' | none => .undef
  | .ptr k off => match lk m k with | some k' => .ptr k' off | none => .undef
  | .oel k E i off => match lk m k with | some k' => .oel k' E i off | none => .undef
  | .fn f l => if l.all Cp.rd = true then .fn f l else .undef
  | c => c
def scrL (m : List (Nat × Nat)) : List C → List C
  | [] => []
  | c :: cs => c.scr m :: scrL m cs
def V.scr (m : List (Nat × Nat)) : V → V
  | .c x => .c (x.scr m)
  | .agg cs => .agg (scrL m cs)
  | .tup [] => .tup []
  | .tup _ => .c .undef
def scrF (m : List (Nat × Nat)) : List (Option Nat) → List (Option Nat)
  | [] => []
  | none :: fs => none :: scrF m fs
  | some k :: fs => lk m k :: scrF m fs
def allF (m : List (Nat × Nat)) : List (Option Nat) → Bool
  | [] => true
  | none :: fs => allF m fs
  | some k :: fs => match lk m k with | some _ => allF m fs | none => false
def anyF : List (Option Nat) → Bool
  | [] => false
  | none :: fs => anyF fs
  | some _ :: _ => true
def Blk.scr (m : List (Nat × Nat)) : Blk → Blk
  | .box cs => .box (scrL m cs)
  | .hol E xs i fs => .hol E xs i (scrF m fs)
  | B => B
def Blk.isHol (m : List (Nat × Nat)) : Blk → Bool
  | .hol _ _ _ fs => !allF m fs
  | _ => false
def keepE (L : List Nat) (m : List (Nat × Nat)) : Nat → List V → List V
  | _, [] => []
  | j, v :: vs => (if L.contains j then v.scr m else .c .undef) :: keepE L m (j + 1) vs
def keepB (bs : List (Nat × Blk)) (m : List (Nat × Nat)) : List (Nat × Nat) → Option (List (Nat × Blk))
  | [] => some []
  | p :: r => match getB bs p.1, keepB bs m r with | some B, some l => if B.isHol m = true then none else some ((p.2, B.scr m) :: l) | _, _ => none
structure Norm where
  ms : List Mat
  L : List Nat
  nm : List (Nat × Nat)
def closeHol (bs : List (Nat × Blk)) (k : Nat) : List (Nat × Blk) :=
  match getB bs k with
  | some (.hol _ _ _ _) => (match closeB bs k with | some bs' => bs' | none => bs)
  | _ => bs
def closeAll : List Nat → List (Nat × Blk) → List (Nat × Blk)
  | [], bs => bs
  | k :: ks, bs => closeAll ks (closeHol bs k)
def openF (m : List (Nat × Nat)) (bs : List (Nat × Blk)) (k : Nat) : Bool :=
  match getB bs k with
  | some (.hol _ _ _ fs) => anyF fs && allF m fs && (match lk m k with | some _ => true | none => false)
  | _ => false
def closeSome (m : List (Nat × Nat)) : List Nat → List (Nat × Blk) → List (Nat × Blk)
  | [], bs => bs
  | k :: ks, bs => match openF m bs k with
    | true => closeSome m ks bs
    | false => closeSome m ks (closeHol bs k)
def selfB (m : List (Nat × Nat)) : List Nat → Bool
  | [] => true
  | k :: ks => (match lk m k with | some k' => k' == k | none => false) && selfB m ks
def SS.norm (σ : SS) (pk : List Nat) (N : Norm) : Option SS :=
  match σ.mats N.ms with
  | some σ' =>
    match keepB (closeSome N.nm (σ'.blk.map (·.1)) σ'.blk) N.nm N.nm with
    | some bs => if nodupB (N.nm.map (·.1)) = true ∧ nodupB (N.nm.map (·.2)) = true ∧ selfB N.nm pk = true then some { env := keepE N.L N.nm 0 σ'.env, blk := bs } else none
    | none => none
  | none => none
def Sub (pk : List Nat) (σ τ : SS) : Prop := ∀ (Γ : Ctx) (a : Act) (w : World), Γ.hd = [] → (∀ p ∈ Γ.hm, p.1 ∈ pk) → Rel Γ σ a w → Rel Γ τ a w
inductive NextE (pk : List Nat) (X : Type) (st : X → SS) (φ : X → Prop) (m : X → Unit → Nat) (n : Unit → Nat) (σ : SS) : Prop where
  | mk (x : X) (hm : m x () < n ()) (hφ : φ x) (hs : Sub pk σ (st x))
inductive LoopE (pk : List Nat) (σ : SS) (R : SS → (SS → Prop) → Prop) : Prop where
  | mk (X : Type) (st : X → SS) (φ : X → Prop) (m : X → Unit → Nat) (x0 : X) (h0 : φ x0) (hs : Sub pk σ (st x0)) (hr : ∀ x, φ x → R (st x) fun σ' => NextE pk X st φ m (m x) σ')
def vcG (P : Program) (tab : Tab) (all : List Oper) (o : Oper) (σ : SS) (K : SS → Prop) : Prop :=
  match o.guard with
  | none => vcOp P tab o σ K
  | some (j, want) =>
    match guardDst all j with
    | some d =>
      match σ.env.getD d (.c .undef) with
      | .c (.bl b) => if b = want then vcOp P tab o σ K else K (σ.put o.dst skipV)
      | .tup [] => K (σ.put o.dst skipV)
      | .c (.lf (.bool t)) => Br t fun b => if b = want then vcOp P tab o (σ.setE d (.c (.bl b))) K else K ((σ.setE d (.c (.bl b))).put o.dst skipV)
      | _ => False
    | none => False
def rdOk (b : Bool) (pt rd : List Nat) : Bool :=
  match b with
  | true => rd.all pt.contains
  | false => rd.isEmpty
def isBoxB : Option Blk → Bool
  | some (.box _) => true
  | _ => false
def okW (tab : Tab) (nm0 pt : List Nat) (σ : SS) (o : Oper) : Bool :=
  !isWr tab o || ((calleeV σ o).isNone && !isMem tab σ o) ||
    (match o.op, o.dst, o.guard with
    | .store _ p _, none, none => (match σ.ev p with
      | .c (.ptr k _) => (nm0.contains k && !pt.contains k) || (!pt.contains k && pt.all fun j => isBoxB (getB σ.blk j))
      | .c (.oel k _ _ _) => !nm0.contains k && pt.all fun j => isBoxB (getB σ.blk j)
      | _ => false)
    | .call c, _, _ => (match c.callee, c.args.toList with
      | .builtin .append, [x, _] => (match σ.ev x with | .c .nil => true | .c (.own k) => !pt.contains k && pt.all fun j => isBoxB (getB σ.blk j) | _ => false)
      | .value (.func f), _ => (match muT tab f with
        | some ms => ((handNm σ.blk ms (c.args.toList.map σ.ev)).all fun k => !nm0.contains k) && pt.all fun j => isBoxB (getB σ.blk j)
        | none => false)
      | _, _ => false)
    | _, _, _ => false)
def findD (t : Nat) : List Oper → Option Oper
  | [] => none
  | o :: os => match o.dst with
    | some d => (match Nat.beq d t with | true => some o | false => findD t os)
    | none => findD t os
def preV (tab : Tab) (all : List Oper) (σ : SS) : Nat → Operand → V
  | 0, _ => .c .undef
  | n + 1, .tmp t => match findD t all with
    | some o => (match o.op with
      | .move x => preV tab all σ n x
      | .fieldAddr T x i => (match exFieldAddr tab T i (preV tab all σ n x) with | some v => v | none => .c .undef)
      | .load T x => (match exLoad tab σ.blk T (preV tab all σ n x) with | some v => v | none => .c .undef)
      | .indexAddr _ x _ => (match preV tab all σ n x with | .c (.lf (.list E _)) => .c (.el E (fun _ => E.dflt) 0) | _ => .c .undef)
      | .nilCheck x => preV tab all σ n x
      | _ => .c .undef)
    | none => σ.ev (.tmp t)
  | _, x => σ.ev x
def baseN (all : List Oper) : Nat → Operand → Bool
  | 0, _ => false
  | n + 1, .tmp t => match findD t all with
    | some o => (match o.op with | .fieldAddr _ x _ => baseN all n x | .nilCheck x => baseN all n x | .alloc _ => true | .box _ _ => true | _ => false)
    | none => false
  | _, _ => false
def baseL (all : List Oper) : Nat → Operand → Bool
  | 0, _ => false
  | _, .const _ => true
  | n + 1, .tmp t => match findD t all with
    | some o => (match o.op with
      | .buildSlice _ _ _ => true
      | .makeSlice _ _ _ => true
      | .call c => (match c.callee, c.args.toList with
        | .builtin .append, [x, _] => baseL all n x
        | .builtin _, _ => false
        | _, _ => true)
      | _ => false)
    | none => false
  | _, _ => false
def wrNm (tab : Tab) (all : List Oper) (σ : SS) : List Oper → Option (Bool × List Nat)
  | [] => some (false, [])
  | o :: os => match o.op, o.dst, o.guard with
    | .store _ p _, none, none => (match baseN all 5 p with
      | true => (match wrNm tab all σ os with | some (_, l) => some (true, l) | none => none)
      | false => (match preV tab all σ 9 p, wrNm tab all σ os with | .c (.ptr k _), some (b, l) => some (b, k :: l) | _, _ => none))
    | .load T x, _, _ => (match tyL tab T with
      | true => (match preV tab all σ 9 x with | .c (.ptr _ _) | .c (.el _ _ _) | .c (.pcs _ _) => wrNm tab all σ os | _ => none)
      | false => wrNm tab all σ os)
    | .call c, _, _ => (match c.callee with
      | .builtin .len | .builtin .max | .builtin .min => wrNm tab all σ os
      | .builtin .append => (match c.args.toList with
        | [x, _] => (match baseL all 9 x with
          | true => (match wrNm tab all σ os with | some (_, l) => some (true, l) | none => none)
          | false => none)
        | _ => none)
      | _ => if isWr tab o then none else wrNm tab all σ os)
    | _, _, _ => if isWr tab o then none else wrNm tab all σ os
def isCur (bs : List (Nat × Blk)) : V → Bool
  | .c (.ptr k 0) => (match getB bs k with | some (.box [.own _, .lf (.int _ _), .lf (.int _ _)]) => true | _ => false)
  | _ => false
def isLstV : V → Bool
  | .c (.own _) => true
  | .c .nil => true
  | _ => false
def wrCur (tab : Tab) (all : List Oper) (σ : SS) : List Oper → Option (Bool × List Nat)
  | [] => some (false, [])
  | o :: os => match o.op, o.dst, o.guard with
    | .store _ p _, none, none => (match baseN all 5 p with
      | true => wrCur tab all σ os
      | false => (match preV tab all σ 9 p with
        | .c (.ptr k _) => (match wrCur tab all σ os with | some (b, l) => some (b, k :: l) | none => none)
        | _ => (match p with
          | .tmp t => (match findD t all with
            | some q => (match q.op with
              | .indexAddr _ x _ => (match isLstV (preV tab all σ 9 x) with | true => wrCur tab all σ os | false => none)
              | _ => none)
            | none => none)
          | _ => none)))
    | .load T x, _, _ => (match tyL tab T with
      | true => (match preV tab all σ 9 x with | .c (.ptr _ _) | .c (.el _ _ _) | .c (.pcs _ _) => wrCur tab all σ os | _ => none)
      | false => wrCur tab all σ os)
    | .call c, _, _ => (match c.callee with
      | .builtin .len | .builtin .max | .builtin .min => wrCur tab all σ os
      | .builtin .append => (match c.args.toList with
        | [x, _] => (match baseL all 9 x || isLstV (preV tab all σ 9 x) with
          | true => wrCur tab all σ os
          | false => none)
        | _ => none)
      | .value (.func f) => (match muT tab f with
        | none => wrCur tab all σ os
        | some ms => (match c.args.toList.map (preV tab all σ 9) with
          | v :: vs => (match isCur σ.blk v with
            | true => (match wrCur tab all σ os with | some (_, l) => some (true, handNm σ.blk ms (v :: vs) ++ l) | none => none)
            | false => none)
          | [] => none))
      | _ => none)
    | _, _, _ => if isWr tab o then none else wrCur tab all σ os
def onlyBox (bs : List (Nat × Blk)) : List Nat → List Nat
  | [] => []
  | k :: ks => if isBoxB (getB bs k) then k :: onlyBox bs ks else onlyBox bs ks
def without (l : List Nat) : List Nat → List Nat
  | [] => []
  | k :: ks => if l.contains k then without l ks else k :: without l ks
def isDet (tab : Tab) (b : Bool) (nm0 : List Nat) (σ : SS) (o : Oper) : Bool :=
  (calleeV σ o).isNone && !isMem tab σ o && rdOk b nm0 (rdN o σ)
def allOf : List Nat → (Nat → Prop) → Prop
  | [], _ => True
  | [i], p => p i
  | i :: j :: is, p => p i ∧ allOf (j :: is) p
def pickI (tab : Tab) (ops : Array Oper) (b : Bool) (nm0 : List Nat) (listed : Array Bool) (σ : SS) : List Nat → Option Nat
  | [] => none
  | i :: is => match ops[i]? with
    | some o => if (isDet tab b nm0 σ o && Region.free .any ops listed i) = true then some i else pickI tab ops b nm0 listed σ is
    | none => pickI tab ops b nm0 listed σ is
inductive Pz (p : Unit → Prop) : Prop where
  | mk (h : p ())
def pzIf (b : Bool) (p : Unit → Prop) : Prop :=
  match b with
  | true => Pz p
  | false => p ()
theorem pzIf_out {b : Bool} {p : Unit → Prop} (h : pzIf b p) : p () := by
  cases b with
  | true => exact h.1
  | false => exact h
def vcDraw (P : Program) (tab : Tab) (ops : Array Oper) (b : Bool) (nm0 pt : List Nat) : Nat → Array Bool → SS → (SS → Prop) → Prop
  | 0, listed, σ, K => match Region.ready .any ops listed with | [] => K σ | _ => False
  | n + 1, listed, σ, K => pzIf (decide (30 < ops.size) && n % 4 == 0) fun _ =>
    match Region.ready .any ops listed with
    | [] => K σ
    | r :: rs =>
      match pickI tab ops b pt listed σ (r :: rs) with
      | some i => (match ops[i]? with | some o => vcG P tab ops.toList o σ fun σ' => vcDraw P tab ops b nm0 pt n (listed.setIfInBounds i true) σ' K | none => False)
      | none => allOf (r :: rs) fun i => match ops[i]? with
        | some o => if (!b || okW tab nm0 pt σ o) = true then vcG P tab ops.toList o σ fun σ' => vcDraw P tab ops b nm0 pt n (listed.setIfInBounds i true) σ' K else False
        | none => False
def vcDrawR (P : Program) (tab : Tab) (ops : Array Oper) (σ : SS) (K : SS → Prop) : Prop :=
  match wrNm tab ops.toList σ ops.toList with
  | some (nw, ws) => vcDraw P tab ops true (σ.blk.map (·.1)) (match nw with | true => onlyBox σ.blk (without ws (σ.blk.map (·.1))) | false => without ws (σ.blk.map (·.1))) ops.size (Array.replicate ops.size false) σ K
  | none => vcDraw P tab ops false (σ.blk.map (·.1)) [] ops.size (Array.replicate ops.size false) σ K
def getL : List Bool → Nat → Bool
  | [], _ => false
  | b :: _, 0 => b
  | _ :: bs, n + 1 => getL bs n
def setL : List Bool → Nat → List Bool
  | [], _ => []
  | _ :: bs, 0 => true :: bs
  | b :: bs, n + 1 => b :: setL bs n
def allL : List Bool → Bool
  | [] => true
  | b :: bs => match b with | true => allL bs | false => false
def falseL : List Oper → List Bool
  | [] => []
  | _ :: os => false :: falseL os
def afterOk (l : List Bool) : List Edge → Bool
  | [] => true
  | e :: es => match Region.binds .any e with
    | true => (match getL l e.on with | true => afterOk l es | false => false)
    | false => afterOk l es
def scanJ (tab : Tab) (b : Bool) (pt : List Nat) (l0 : List Bool) (σ : SS) : List Oper → List Bool → Nat → Option (Nat × Oper)
  | o :: os, l :: ls, i => match l with
    | true => scanJ tab b pt l0 σ os ls (i + 1)
    | false => match afterOk l0 o.after.toList with
      | true => (match isDet tab b pt σ o with | true => some (i, o) | false => scanJ tab b pt l0 σ os ls (i + 1))
      | false => scanJ tab b pt l0 σ os ls (i + 1)
  | _, _, _ => none
def readyL (l0 : List Bool) : List Oper → List Bool → Nat → List (Nat × Oper)
  | o :: os, l :: ls, i => match l with
    | true => readyL l0 os ls (i + 1)
    | false => match afterOk l0 o.after.toList with
      | true => (i, o) :: readyL l0 os ls (i + 1)
      | false => readyL l0 os ls (i + 1)
  | _, _, _ => []
def allO : List (Nat × Oper) → (Nat → Oper → Prop) → Prop
  | [], _ => True
  | [p], q => q p.1 p.2
  | p :: r :: rs, q => q p.1 p.2 ∧ allO (r :: rs) q
structure Row where
  t : Bool
  i : Nat
  es : List Edge
  d : Option Nat
  v : V
  nw : List (Nat × Blk)
  ch : List (Nat × Blk)
  gone : List Nat
def newBs (bs : List (Nat × Blk)) : List (Nat × Blk) → List (Nat × Blk)
  | [] => []
  | p :: r => match getB bs p.1 with
    | none => p :: newBs bs r
    | some _ => newBs bs r
def isDeadB : Option Blk → Bool
  | some .dead => true
  | _ => false
def goneBs (bs : List (Nat × Blk)) : List (Nat × Blk) → List Nat
  | [] => []
  | p :: r => match isDeadB (some p.2) with
    | true => (match isDeadB (getB bs p.1) with | true => goneBs bs r | false => p.1 :: goneBs bs r)
    | false => goneBs bs r
def chBs (bs : List (Nat × Blk)) : List (Nat × Blk) → List (Nat × Blk)
  | [] => []
  | p :: r => match p.2 with
    | .hol _ _ _ _ => (match getB bs p.1 with | some (.own _ _ _) => p :: chBs bs r | _ => chBs bs r)
    | _ => chBs bs r
def takeBs (bs : List (Nat × Blk)) : List Nat → List (Nat × Blk)
  | [] => []
  | k :: ks => match getB bs k with
    | some (.box cs) => (k, .box cs) :: takeBs bs ks
    | some (.own E xs l) => (k, .own E xs l) :: takeBs bs ks
    | _ => takeBs bs ks
def chM (tab : Tab) (o : Oper) (σ σ' : SS) : List (Nat × Blk) :=
  match calleeV σ o with
  | some (.c (.fn f _), c) => (match muT tab f with
    | some ms => takeBs σ'.blk (handNm σ.blk ms (c.args.toList.map σ.ev))
    | none => [])
  | _ => []
def rowOf (tab : Tab) (t : Bool) (i : Nat) (o : Oper) (σ σ' : SS) : Row :=
  ⟨t, i, o.after.toList, o.dst, match o.dst with | some d => σ'.env.getD d (.c .undef) | none => .c .undef, newBs σ.blk σ'.blk, chBs σ.blk σ'.blk ++ chM tab o σ σ', goneBs σ.blk σ'.blk⟩
def insLB : List (Nat × Blk) → List (Nat × Blk) → List (Nat × Blk)
  | bs, [] => bs
  | bs, p :: r => insLB (insB bs p.1 p.2) r
def setLB : List (Nat × Blk) → List (Nat × Blk) → List (Nat × Blk)
  | bs, [] => bs
  | bs, p :: r => setLB (setB bs p.1 p.2) r
def stOf (l : List Bool) : List Row → SS → SS
  | [], σ => σ
  | r :: rs, σ => match getL l r.i with
    | true => stOf l rs { env := (σ.put r.d r.v).env, blk := killL (setLB (insLB σ.blk r.nw) r.ch) r.gone }
    | false => stOf l rs σ
def stAt (rows : List Row) (σ σE : SS) (l : List Bool) : SS :=
  match allL l with
  | true => σE
  | false => stOf l rows σ
def eqLB : List Bool → List Bool → Bool
  | [], [] => true
  | b :: bs, c :: cs => match b, c with
    | true, true => eqLB bs cs
    | false, false => eqLB bs cs
    | _, _ => false
  | _, _ => false
def inN : List Row → List Bool → List Bool → Bool
  | [], l, l' => eqLB l l'
  | r :: rs, l, l' => match afterOk l r.es with
    | false => inN rs l l'
    | true => match r.t with
      | true => inN rs (setL l r.i) l'
      | false => match getL l' r.i with
        | true => inN rs (setL l r.i) l'
        | false => inN rs l l'
def cntF : List Bool → Nat
  | [] => 0
  | b :: bs => match b with | true => cntF bs | false => cntF bs + 1
def closeD (P : Program) (tab : Tab) (all : List Oper) (b : Bool) (pt : List Nat) : Nat → List Bool → SS → (List Bool → SS → Prop) → Prop
  | 0, l, σ, J => J l σ
  | n + 1, l, σ, J => match scanJ tab b pt l σ all l 0 with
    | some (i, o) => vcG P tab all o σ fun σ' => closeD P tab all b pt n (setL l i) σ' J
    | none => J l σ
def vcPath (P : Program) (tab : Tab) (all : List Oper) (b : Bool) (pt : List Nat) : Nat → List Bool → SS → List Row → (List Row → SS → Prop) → Prop
  | 0, l, σ, rs, J => match allL l with
    | true => J rs σ
    | false => False
  | n + 1, l, σ, rs, J => match allL l with
    | true => J rs σ
    | false => match scanJ tab b pt l σ all l 0 with
      | some (i, o) => vcG P tab all o σ fun σ' => vcPath P tab all b pt n (setL l i) σ' (rs ++ [rowOf tab true i o σ σ']) J
      | none => match readyL l all l 0 with
        | [] => False
        | (i, o) :: _ => match o.guard with
          | none => vcOp P tab o σ fun σ' => vcPath P tab all b pt n (setL l i) σ' (rs ++ [rowOf tab false i o σ σ']) J
          | some _ => False
def edgesOk (P : Program) (tab : Tab) (all : List Oper) (b : Bool) (nm0 pt : List Nat) (nodes : List Bool → Bool) (st : List Bool → SS) (l : List Bool) : Prop :=
  match allL l with
  | true => True
  | false => match readyL l all l 0 with
    | [] => False
    | r :: rs => allO (r :: rs) fun i o => if (!b || okW tab nm0 pt (st l) o) = true then
        vcG P tab all o (st l) fun σ' => closeD P tab all b pt (cntF l) (setL l i) σ' fun l' σ'' => match nodes l' with
          | true => σ'' = st l'
          | false => False
      else False
def nodesP : List Row → List Bool → (List Bool → Prop) → Prop
  | [], l, p => Pz fun _ => p l
  | r :: rs, l, p => match afterOk l r.es with
    | false => nodesP rs l p
    | true => match r.t with
      | true => nodesP rs (setL l r.i) p
      | false => (Pz fun _ => nodesP rs (setL l r.i) p) ∧ Pz fun _ => nodesP rs l p
inductive TabG (k : Prop) (ok : Unit → Bool) (p : Unit → Prop) : Prop where
  | mk (hk : k) (hb : ok () = true) (ht : p ())
def outR (l : List Bool) : List Row → Bool
  | [] => true
  | r :: rs => match getL l r.i with
    | true => false
    | false => outR l rs
def vcTabD (P : Program) (tab : Tab) (all : List Oper) (b : Bool) (nm0 pt : List Nat) (n : Nat) (l : List Bool) (σ : SS) (K : SS → Prop) : Prop :=
  vcPath P tab all b pt n l σ [] fun rows σE =>
    TabG (K σE) (fun _ => inN rows l l && (Nat.ble (cntF l) n && outR l rows)) (fun _ => nodesP rows l (edgesOk P tab all b nm0 pt (inN rows l) (stAt rows σ σE)))
def manyO : List (Nat × Oper) → Bool
  | _ :: _ :: _ :: _ :: _ => true
  | _ => false
def vcDrawF (P : Program) (tab : Tab) (all : List Oper) (b : Bool) (nm0 pt : List Nat) : Nat → List Bool → SS → (SS → Prop) → Prop
  | 0, l, σ, K => match allL l with | true => K σ | false => False
  | n + 1, l, σ, K =>
    match allL l with
    | true => K σ
    | false =>
      match scanJ tab b pt l σ all l 0 with
      | some (i, o) => vcG P tab all o σ fun σ' => vcDrawF P tab all b nm0 pt n (setL l i) σ' K
      | none =>
        match readyL l all l 0 with
        | [] => False
        | r :: rs => match manyO (r :: rs) with
          | true => vcTabD P tab all b nm0 pt (n + 1) l σ K
          | false => allO (r :: rs) fun i o => if (!b || okW tab nm0 pt σ o) = true then vcG P tab all o σ fun σ' => vcDrawF P tab all b nm0 pt n (setL l i) σ' K else False
def vcDrawRF (P : Program) (tab : Tab) (ops : Array Oper) (σ : SS) (K : SS → Prop) : Prop :=
  match wrNm tab ops.toList σ ops.toList with
  | some (nw, ws) => vcDrawF P tab ops.toList true (σ.blk.map (·.1)) (match nw with | true => onlyBox σ.blk (without ws (σ.blk.map (·.1))) | false => without ws (σ.blk.map (·.1))) ops.toList.length (falseL ops.toList) σ K
  | none => match wrCur tab ops.toList σ ops.toList with
    | some (true, ws) => vcDrawF P tab ops.toList true (onlyBox σ.blk (without ws (σ.blk.map (·.1)))) (onlyBox σ.blk (without ws (σ.blk.map (·.1)))) ops.toList.length (falseL ops.toList) σ K
    | _ => vcDrawF P tab ops.toList false (σ.blk.map (·.1)) [] ops.toList.length (falseL ops.toList) σ K
def freeI (ops : Array Oper) (i : Nat) : Bool :=
  match ops[i]? with
  | none => true
  | some oi => (List.range ops.size).all fun j => j == i || match ops[j]? with
      | some oj => oj.after.any (fun e => Region.binds .any e && e.on == i) || oi.after.any (fun e => Region.binds .any e && e.on == j) || oi.apart ops oj
      | none => true
def freeAll (ops : Array Oper) : Bool := (List.range ops.size).all (freeI ops) && Region.noSelect ops
def codeFree : Code → Bool
  | .region _ ops draw => !draw || freeAll ops
  | .seq x y => codeFree x && codeFree y
  | .cond _ x y => codeFree x && codeFree y
  | .block _ x => codeFree x
  | .loop x => codeFree x
  | _ => true
def frzK (E : ETy) : List Nat → List (Nat × Blk) → List (Nat × Blk)
  | [], bs => bs
  | k :: ks, bs => match getB bs k with
    | some (.own E' xs false) => if E' = E then frzK E ks (setB bs k (.view E' xs)) else frzK E ks bs
    | _ => frzK E ks bs
def frzT : List (Nat × Nat × ETy) → Nat → Nat → List (Nat × Blk) → List (Nat × Blk)
  | [], _, _, bs => bs
  | p :: r, n, id, bs => if p.1 = n ∧ p.2.1 = id then frzT r n id (frzK p.2.2 (bs.map (·.1)) bs) else frzT r n id bs
def SS.frz (tab : Tab) (id : Nat) (σ : SS) : SS :=
  match tab.fz with
  | [] => σ
  | l => { σ with blk := frzT l σ.env.length id σ.blk }
def vcCode (P : Program) (tab : Tab) (fr : Bool) (pk : List Nat) : Code → SS → (Exit → SS → Prop) → Prop
  | .skip, σ, K => K .normal σ
  | .region id ops draw, σ, K => match draw with
    | false => vcOps P tab ops.toList ops.toList (σ.frz tab id) fun σ' => K .normal σ'
    | true => match fr with
      | true => vcDrawRF P tab ops (σ.frz tab id) fun σ' => K .normal σ'
      | false => if Region.noSelect ops = true then vcDrawR P tab ops (σ.frz tab id) fun σ' => K .normal σ' else False
  | .seq x y, σ, K => vcCode P tab fr pk x σ fun e σ' => match e with
    | .normal => vcCode P tab fr pk y σ' K
    | e => K e σ'
  | .cond c x y, σ, K => match σ.ev c with
    | .c (.bl true) => vcCode P tab fr pk x σ K
    | .c (.bl false) => vcCode P tab fr pk y σ K
    | .c (.lf (.bool t)) => Br t fun b => match b with
      | true => vcCode P tab fr pk x σ K
      | false => vcCode P tab fr pk y σ K
    | _ => False
  | .block id x, σ, K => vcCode P tab fr pk x σ fun e σ' => match e with
    | .exit i => if i = id then K .normal σ' else K (.exit i) σ'
    | e => K e σ'
  | .loop x, σ, K => LoopE pk σ fun σ' J => vcCode P tab fr pk x σ' fun e σ'' => match e with
    | .normal => J σ''
    | e => K e σ''
  | .exit id, σ, K => K (.exit id) σ
  | .ret, σ, K => K .ret σ
  | _, _, _ => False
section
variable {P : Program} {tab : Tab} (hT : tabB P tab = true) {Γ : Ctx}
include hT
theorem vcOpK_ok {H : Hp} {ρ : Rho} {σ : SS} {a : Act} {w : World} {o : Oper} {K : SS → Prop} {Q : Exit → Act → World → Prop} (hw : isWr tab o = true → Γ.hd = []) (h : vcOp P tab o σ K) (r : RelH Γ H ρ σ a w) :
    o.wp P a w (fun a' w' => ∃ σ', K σ' ∧ RelK Γ H (isWr tab o) w σ' a' w') Q := by
  unfold vcOp at h
  split at h
  · rename_i v c hc; exact vcCall_ok r hw hc h
  · split at h
    · exact vcLst_ok hT r hw h
    · obtain ⟨v, y, hk, hv, hrun⟩ := vcDet_ok hT r h
      exact wp_value (hrun w (Keeps.refl r _)) ⟨_, hk, ⟨ρ, r.put hv _⟩, fun _ => KeepW.refl w⟩
theorem vcOp_ok (hd0 : Γ.hd = []) {σ : SS} {a : Act} {w : World} {o : Oper} {K : SS → Prop} {Q : Exit → Act → World → Prop} (h : vcOp P tab o σ K) (r : Rel Γ σ a w) :
    o.wp P a w (fun a' w' => ∃ σ', K σ' ∧ Rel Γ σ' a' w') Q := by
  obtain ⟨H, ρ, r⟩ := r
  exact Oper.wp_mono (fun a' w' ⟨σ', h1, h2⟩ => ⟨σ', h1, h2.rel⟩) (vcOpK_ok hT (fun _ => hd0) h r)
omit hT in
theorem RelH.setE {H : Hp} {ρ : Rho} {σ : SS} {a : Act} {w : World} (r : RelH Γ H ρ σ a w) {d : Nat} {t : Unit → Bool} (hd : σ.env.getD d (.c .undef) = .c (.lf (.bool t))) : RelH Γ H ρ (σ.setE d (.c (.bl (t ())))) a w := by
  refine ⟨r.b, ⟨by simpa [SS.setE] using r.e.size, fun j c hj => ?_⟩, r.d, r.n, r.hd, r.hm⟩
  simp only [SS.setE] at hj
  rw [List.getElem?_set] at hj
  split at hj
  · rename_i hdj
    split at hj
    · cases hj
      have := env_ok r d
      rw [hd] at this
      have h2 := RL.of_bool this
      rw [← hdj]
      exact h2
    · cases hj
  · exact r.e.get j c hj
omit hT in
theorem Rel.setE {σ : SS} {a : Act} {w : World} (r : Rel Γ σ a w) {d : Nat} {t : Unit → Bool} (hd : σ.env.getD d (.c .undef) = .c (.lf (.bool t))) : Rel Γ (σ.setE d (.c (.bl (t ())))) a w := by
  obtain ⟨H, ρ, r⟩ := r
  exact ⟨H, ρ, r.setE hd⟩
omit hT in
theorem yielded_env {σ : SS} {a : Act} {w : World} (r : Rel Γ σ a w) {all : Array Oper} {j d : Nat} (hg : guardDst all.toList j = some d) :
    (∀ b, σ.env.getD d (.c .undef) = .c (.bl b) → yielded all a.tmps j = some b) ∧ (σ.env.getD d (.c .undef) = .tup [] → yielded all a.tmps j = none) := by
  obtain ⟨H, ρ, r⟩ := r
  have hg' : (all[j]?).bind (·.dst) = some d := by simpa [guardDst] using hg
  have he := env_ok r d
  have hlt : ∀ c, σ.env.getD d (.c .undef) = c → c ≠ .c .undef → a.tmps[d]? = some (a.tmps.getD d Go.undef) := fun c hc hne => by
    refine getD_some ?_
    rw [r.e.size]
    rcases Nat.lt_or_ge d σ.env.length with h | h
    · exact h
    · rw [List.getD_eq_getElem?_getD, List.getElem?_eq_none h] at hc
      exact (hne hc.symm).elim
  refine ⟨fun b hb => ?_, fun hb => ?_⟩
  · have h1 := hlt _ hb (by simp)
    rw [hb] at he
    simp only [RV, RC] at he
    unfold yielded
    rw [hg', Option.bind_some, h1, he]
  · have h1 := hlt _ hb (by simp)
    rw [hb] at he
    obtain ⟨vs, h2, h3, _⟩ := he
    unfold yielded
    rw [hg', Option.bind_some, h1, h2]
omit hT in
theorem RelH.skip {H : Hp} {ρ : Rho} {σ : SS} {a : Act} {w : World} (r : RelH Γ H ρ σ a w) (d : Option Nat) : RelH Γ H ρ (σ.put d skipV) (a.put d Go.undef) w := by
  have h : RV H ρ (dom σ.blk) (.tup []) Go.undef := ⟨#[], rfl, rfl, fun j p hj => by simp at hj⟩
  exact r.put h d
omit hT in
theorem Rel.skip {σ : SS} {a : Act} {w : World} (r : Rel Γ σ a w) (d : Option Nat) : Rel Γ (σ.put d skipV) (a.put d Go.undef) w := by
  obtain ⟨H, ρ, r⟩ := r
  exact ⟨H, ρ, r.skip d⟩
theorem vcOps_ok (hd0 : Γ.hd = []) {all : Array Oper} {Q : Exit → Act → World → Prop} : ∀ (l : List Oper) {σ : SS} {a : Act} {w : World} {K : SS → Prop}, vcOps P tab all.toList l σ K → Rel Γ σ a w →
    (∀ σ' a' w', K σ' → Rel Γ σ' a' w' → Q .normal a' w') → wpList P all Q l a w
  | [], σ, a, w, K, h, r, hQ => hQ σ a w h r
  | o :: rest, σ, a, w, K, h, r, hQ => by
    have go : ∀ {σ : SS}, vcOp P tab o σ (fun σ' => vcOps P tab all.toList rest σ' K) → Rel Γ σ a w → o.wp P a w (wpList P all Q rest) Q := fun h r =>
      Oper.wp_mono (fun a' w' ⟨σ', h1, h2⟩ => vcOps_ok hd0 rest h1 h2 hQ) (vcOp_ok hT hd0 h r)
    unfold wpList
    unfold vcOps at h
    split at h
    · rename_i hg
      rw [if_pos (by simp [Region.wanted, hg])]
      exact .inl (go h r)
    · rename_i j want hg
      split at h
      · rename_i d hd
        obtain ⟨y1, y2⟩ := yielded_env r hd
        split at h
        · rename_i b hb
          split at h
          · rename_i hbw
            rw [if_pos (by simp [Region.wanted, hg, y1 b hb, hbw])]
            exact .inl (go h r)
          · rename_i hbw
            rw [if_neg (by simp [Region.wanted, hg, y1 b hb, hbw])]
            exact vcOps_ok hd0 rest h (r.skip _) hQ
        · rename_i hb
          rw [if_neg (by simp [Region.wanted, hg, y2 hb])]
          exact vcOps_ok hd0 rest h (r.skip _) hQ
        · rename_i t hb
          obtain ⟨h⟩ := h
          have r' := r.setE hb
          have hlt : d < σ.env.length := by
            rcases Nat.lt_or_ge d σ.env.length with h | h
            · exact h
            · rw [List.getD_eq_getElem?_getD, List.getElem?_eq_none h] at hb; cases hb
          have y3 := (yielded_env r' hd).1 (t ()) (by simp [SS.setE, List.getD_eq_getElem?_getD, hlt])
          split at h
          · rename_i hbw
            rw [if_pos (by simp [Region.wanted, hg, y3, hbw])]
            exact .inl (go h r')
          · rename_i hbw
            rw [if_neg (by simp [Region.wanted, hg, y3, hbw])]
            exact vcOps_ok hd0 rest h (r'.skip _) hQ
        · cases h
      · cases h
omit hT in
theorem setE_ev {σ : SS} {d : Nat} {t : Unit → Bool} {b : Bool} (hd : σ.env.getD d (.c .undef) = .c (.lf (.bool t))) (x : Operand) :
    (σ.setE d (.c (.bl b))).ev x = σ.ev x ∨ (∃ t, σ.ev x = .c (.lf (.bool t))) ∧ ∃ b', (σ.setE d (.c (.bl b))).ev x = .c (.bl b') := by
  cases x with
  | tmp j =>
    by_cases h : d = j
    · subst h
      right
      refine ⟨⟨t, hd⟩, b, ?_⟩
      have hlt : d < σ.env.length := by
        rcases Nat.lt_or_ge d σ.env.length with h | h
        · exact h
        · rw [List.getD_eq_getElem?_getD, List.getElem?_eq_none h] at hd; cases hd
      simp [SS.ev, SS.setE, List.getD_eq_getElem?_getD, hlt]
    · left
      simp [SS.ev, SS.setE, List.getD_eq_getElem?_getD, h]
  | _ => left; rfl
omit hT in
theorem setE_callee {σ σ' : SS} {o : Oper} (h : calleeV σ o = none) : calleeV σ' o = none := by
  cases hop : o.op with
  | call c =>
    cases hc : c.callee with
    | value x => simp [calleeV, hop, hc] at h
    | _ => simp [calleeV, hop, hc]
  | _ => simp [calleeV, hop]
omit hT in
theorem setE_mem {σ σ' : SS} {o : Oper} (hev : ∀ x, σ'.ev x = σ.ev x ∨ (∃ t, σ.ev x = .c (.lf (.bool t))) ∧ ∃ b', σ'.ev x = .c (.bl b')) (hb : σ'.blk = σ.blk) (h : isMem tab σ o = false) : isMem tab σ' o = false := by
  have key : ∀ x, isOwnV (σ'.ev x) = isOwnV (σ.ev x) := fun x => by
    rcases hev x with h | ⟨⟨t, h1⟩, b', h2⟩
    · rw [h]
    · rw [h1, h2]; rfl
  have key2 : ∀ x, isOelV (σ'.ev x) = isOelV (σ.ev x) := fun x => by
    rcases hev x with h | ⟨⟨t, h1⟩, b', h2⟩
    · rw [h]
    · rw [h1, h2]; rfl
  have key4 : ∀ x, isOwnV (byNm σ'.blk (σ'.ev x)) = isOwnV (byNm σ.blk (σ.ev x)) := fun x => by
    rw [hb]
    rcases hev x with h | ⟨⟨t, h1⟩, b', h2⟩
    · rw [h]
    · rw [h1, h2]; rfl
  have key3 : ∀ x, isStrV (σ'.ev x) = isStrV (σ.ev x) := fun x => by
    rcases hev x with h | ⟨⟨t, h1⟩, b', h2⟩
    · rw [h]
    · rw [h1, h2]; rfl
  unfold isMem at h ⊢
  split at h <;> simp_all
omit hT in
theorem vcG_gen {H : Hp} {ρ : Rho} {ops : Array Oper} {i : Nat} {o : Oper} (hi : ops[i]? = some o) {σ : SS} {a : Act} {w : World} {K : SS → Prop} {Q : Exit → Act → World → Prop} {next : Act → World → Prop}
    (h : vcG P tab ops.toList o σ K) (r : RelH Γ H ρ σ a w) (go : ∀ {σ1 : SS}, vcOp P tab o σ1 K → RelH Γ H ρ σ1 a w → (σ1 = σ ∨ ∃ d t, σ.env.getD d (.c .undef) = .c (.lf (.bool t)) ∧ σ1 = σ.setE d (.c (.bl (t ())))) → o.wp P a w next Q)
    (sk : ∀ {σ1 : SS}, K (σ1.put o.dst skipV) → RelH Γ H ρ σ1 a w → next (a.put o.dst Go.undef) w) : wpOp P ops Q i next a w := by
  unfold wpOp
  simp only [hi]
  unfold vcG at h
  split at h
  · rename_i hg
    rw [if_pos (by simp [Region.wanted, hg])]
    exact .inl (go h r (.inl rfl))
  · rename_i j want hg
    split at h
    · rename_i d hd
      obtain ⟨y1, y2⟩ := yielded_env (⟨H, ρ, r⟩ : Rel Γ σ a w) hd
      split at h
      · rename_i b hb
        split at h
        · rename_i hbw
          rw [if_pos (by simp [Region.wanted, hg, y1 b hb, hbw])]
          exact .inl (go h r (.inl rfl))
        · rename_i hbw
          rw [if_neg (by simp [Region.wanted, hg, y1 b hb, hbw])]
          exact sk h r
      · rename_i hb
        rw [if_neg (by simp [Region.wanted, hg, y2 hb])]
        exact sk h r
      · rename_i t hb
        obtain ⟨h⟩ := h
        have r' := r.setE hb
        have hlt : d < σ.env.length := by
          rcases Nat.lt_or_ge d σ.env.length with h | h
          · exact h
          · rw [List.getD_eq_getElem?_getD, List.getElem?_eq_none h] at hb; cases hb
        have y3 := (yielded_env (⟨H, ρ, r'⟩ : Rel Γ _ a w) hd).1 (t ()) (by simp [SS.setE, List.getD_eq_getElem?_getD, hlt])
        split at h
        · rename_i hbw
          rw [if_pos (by simp [Region.wanted, hg, y3, hbw])]
          exact .inl (go h r' (.inr ⟨d, t, hb, rfl⟩))
        · rename_i hbw
          rw [if_neg (by simp [Region.wanted, hg, y3, hbw])]
          exact sk h r'
      · cases h
    · cases h
theorem vcG_ok {H : Hp} {ρ : Rho} {ops : Array Oper} {i : Nat} {o : Oper} (hw : isWr tab o = true → Γ.hd = []) (hi : ops[i]? = some o) {σ : SS} {a : Act} {w : World} {K : SS → Prop} {Q : Exit → Act → World → Prop} {next : Act → World → Prop}
    (h : vcG P tab ops.toList o σ K) (r : RelH Γ H ρ σ a w) (hn : ∀ σ' a' w', K σ' → RelK Γ H (isWr tab o) w σ' a' w' → next a' w') : wpOp P ops Q i next a w :=
  vcG_gen hi h r (fun h r _ => Oper.wp_mono (fun a' w' ⟨σ', h1, h2⟩ => hn σ' a' w' h1 h2) (vcOpK_ok hT hw h r)) (fun h r => hn _ _ _ h ⟨⟨ρ, r.skip _⟩, fun _ => KeepW.refl _⟩)
def PtW (ρ0 : Rho) (pt : List Nat) (w w' : World) : Prop := ∀ k ∈ pt, ∀ x, 0 < (ρ0 k).2 x → w'.heap[x]? = w.heap[x]?
omit hT in
theorem argNm_congr {σ σ1 : SS} (h : ∀ x, (σ1.ev x).nm = (σ.ev x).nm) : ∀ {l : List Operand} {ms : List Bool}, argNm ms (l.map σ1.ev) = argNm ms (l.map σ.ev)
  | [], ms => by cases ms <;> rfl
  | x :: l, [] => rfl
  | x :: l, true :: ms => by simp only [List.map_cons, argNm, h x, argNm_congr h (l := l)]
  | x :: l, false :: ms => by simp only [List.map_cons, argNm, argNm_congr h (l := l)]
omit hT in
theorem box_foot {H : Hp} {ρ : Rho} {σ : SS} {a : Act} {w : World} (r : RelH Γ H ρ σ a w) {j : Nat} {p0 : Value × (Nat → Nat)} (hb : isBoxB (getB σ.blk j) = true) (hf : (ρ j).1 = p0.1)
    (hbx : ∀ b, p0.1 = .pointer (some ⟨b, 0, none⟩) → p0.2 = one b ∨ ∀ x, p0.2 x = 0) {x : Nat} (hx : 0 < p0.2 x) : dom σ.blk j ∧ (ρ j).2 x = 1 := by
  cases hg : getB σ.blk j with
  | none => rw [hg] at hb; cases hb
  | some B =>
    rw [hg] at hb
    cases B with
    | box cs =>
      obtain ⟨b, vs, e, fz, e1, e2, _⟩ := r.b.blk j _ (getB_mem hg)
      refine ⟨getB_dom hg, ?_⟩
      rcases hbx b (by rw [← hf]; exact e1) with h | h
      · rw [h] at hx
        rw [e2]
        simp only [one] at hx ⊢
        split at hx
        · rename_i hxb; rw [if_pos hxb]
        · cases hx
      · rw [h x] at hx; cases hx
    | _ => cases hb
theorem vcG_pt {H : Hp} {ρ ρ0 : Rho} {nm0 pt : List Nat} {ops : Array Oper} {i : Nat} {o : Oper} (hi : ops[i]? = some o) {σ : SS} (hok : okW tab nm0 pt σ o = true) {a : Act} {w : World} {K : SS → Prop} {Q : Exit → Act → World → Prop}
    {next : Act → World → Prop} (h : vcG P tab ops.toList o σ K) (r : RelH Γ H ρ σ a w) (hhd : ∀ k ∈ nm0, (k, ρ0 k) ∈ Γ.hd) (hhd2 : ∀ p ∈ Γ.hd, p.1 ∈ nm0) (hpt : ∀ k ∈ pt, k ∈ nm0) (hth : ∀ k ∈ pt, ∀ x, 0 < (ρ0 k).2 x → ∃ o, w.heap[x]? = some o)
    (hdj : ∀ k ∈ nm0, ∀ j ∈ nm0, k ≠ j → ∀ x, (ρ0 k).2 x + (ρ0 j).2 x ≤ 1)
    (hbx : ∀ k ∈ pt, ∀ b, (ρ0 k).1 = .pointer (some ⟨b, 0, none⟩) → (ρ0 k).2 = one b ∨ ∀ x, (ρ0 k).2 x = 0) (hn : ∀ σ' a' w', K σ' → (∃ ρ', RelH Γ H ρ' σ' a' w') → PtW ρ0 pt w w' → next a' w') : wpOp P ops Q i next a w := by
  have kp : ∀ w', KeepW w w' → PtW ρ0 pt w w' := fun w' hk k hk' x hx => by
    obtain ⟨o, h3⟩ := hth k hk' x hx
    rw [hk x _ h3, h3]
  refine vcG_gen hi h r (fun {σ1} h r hs => ?_) (fun h r => hn _ _ _ h ⟨ρ, r.skip _⟩ (kp _ (KeepW.refl _)))
  simp only [okW, Bool.or_eq_true] at hok
  rcases hok with (hok | hok) | hok
  · have hwr : isWr tab o = false := by simpa using hok
    exact Oper.wp_mono (fun a' w' ⟨σ', h1, h2, h3⟩ => hn σ' a' w' h1 h2 (kp _ (h3 hwr))) (vcOpK_ok hT (fun hw => by rw [hwr] at hw; cases hw) h r)
  · simp only [Bool.and_eq_true, Bool.not_eq_true', Option.isNone_iff_eq_none] at hok
    obtain ⟨hc, hm⟩ := hok
    have hcm : calleeV σ1 o = none ∧ isMem tab σ1 o = false := by
      rcases hs with rfl | ⟨d, t, hd, rfl⟩
      · exact ⟨hc, hm⟩
      · exact ⟨setE_callee hc, setE_mem (setE_ev hd) rfl hm⟩
    unfold vcOp at h
    simp only [hcm.1, hcm.2, Bool.false_eq_true, if_false] at h
    obtain ⟨v, y, hk, hv, hrun⟩ := vcDet_ok hT r h
    exact wp_value (hrun w (Keeps.refl r _)) (hn _ _ _ hk ⟨ρ, r.put hv _⟩ (kp _ (KeepW.refl w)))
  · split at hok
    · rename_i T p v hop hd hg
      split at hok
      · rename_i k off hp
        have hk1 : k ∉ pt := by
          simp only [Bool.or_eq_true, Bool.and_eq_true, Bool.not_eq_true'] at hok
          rcases hok with h1 | h1
          · simpa using h1.2
          · simpa using h1.1
        have hp' : σ1.ev p = .c (.ptr k off) := by
          rcases hs with rfl | ⟨d, t, hd, rfl⟩
          · exact hp
          · rcases setE_ev (b := t ()) hd p with h1 | ⟨⟨t', h1⟩, _⟩
            · rw [h1]; exact hp
            · rw [hp] at h1; cases h1
        have hcal : calleeV σ1 o = none := by simp [calleeV, hop]
        have hmem : isMem tab σ1 o = true := by simp [isMem, hop]
        unfold vcOp at h
        simp only [hcal, hmem, if_true] at h
        unfold vcLst at h
        simp only [hop, hd, hp'] at h
        refine Oper.wp_mono (fun a' w' ⟨σ', h1, h2, h3⟩ => hn σ' a' w' h1 ⟨ρ, h2⟩ fun j hj x hx => h3 x ?_) (vcStore_ok hT r hop hd hp' h)
        simp only [Bool.or_eq_true, Bool.and_eq_true, Bool.not_eq_true'] at hok
        rcases hok with hok | hok
        · have hk0 : k ∈ nm0 := by simpa using hok.1
          have h4 := (r.hd _ (hhd k hk0)).2.2 x
          have h5 := hdj k hk0 j (hpt j hj) (fun he => hk1 (he ▸ hj)) x
          simp only at h4
          omega
        · have hbj := List.all_eq_true.1 hok.2 j hj
          have hblk : σ1.blk = σ.blk := by
            rcases hs with rfl | ⟨d, t, hd, rfl⟩ <;> rfl
          rw [← hblk] at hbj
          have hdk : dom σ1.blk k := by
            have := ev_ok r.e p
            rw [hp'] at this
            exact this.1
          cases hgj : getB σ1.blk j with
          | none => rw [hgj] at hbj; cases hbj
          | some B =>
            rw [hgj] at hbj
            cases B with
            | box cs =>
              obtain ⟨b, vs, e, fz, e1, e2, _⟩ := r.b.blk j _ (getB_mem hgj)
              have h6 := (r.hd _ (hhd j (hpt j hj))).2.1
              have h7 := hbx j hj b (by rw [← e1]; exact h6.symm)
              have h8 := tot_two (ρ := ρ) hdk (getB_dom hgj) (fun he => hk1 (he ▸ hj)) x
              have h9 := r.b.sum x
              rw [e2] at h8
              rcases h7 with h7 | h7
              · rw [h7] at hx
                omega
              · rw [h7] at hx
                omega
            | _ => cases hbj
      · rename_i k E i off hp
        simp only [Bool.and_eq_true, Bool.not_eq_true', List.contains_eq_mem, decide_eq_false_iff_not] at hok
        have hp' : σ1.ev p = .c (.oel k E i off) := by
          rcases hs with rfl | ⟨d, t, hd, rfl⟩
          · exact hp
          · rcases setE_ev (b := t ()) hd p with h1 | ⟨⟨t', h1⟩, _⟩
            · rw [h1]; exact hp
            · rw [hp] at h1; cases h1
        have hblk : σ1.blk = σ.blk := by
          rcases hs with rfl | ⟨d, t, hd, rfl⟩ <;> rfl
        have hcal : calleeV σ1 o = none := by simp [calleeV, hop]
        have hmem : isMem tab σ1 o = true := by simp [isMem, hop]
        unfold vcOp at h
        simp only [hcal, hmem, if_true] at h
        unfold vcLst at h
        simp only [hop, hd, hp'] at h
        have ep := ev_ok r.e p
        rw [hp'] at ep
        obtain ⟨σ', w', ρ', h1, h2, h3, h4⟩ := vcStoreE_ok hT r (fun q hq he => hok.1 (by rw [← he]; exact hhd2 q hq)) h ep (ev_ok r.e v)
        refine wp_skip' (w' := w') (by simp only [execOp, hop, Sem.run_bind, h4, Result.andThen_ok, Sem.run_pure]) hd (hn σ' a w' h1 ⟨ρ', h2⟩ fun j hj x hx => h3 x ?_)
        have hdk : dom σ1.blk k := ep.1
        obtain ⟨q1, q2⟩ := box_foot r (hblk ▸ List.all_eq_true.1 hok.2 j hj) ((r.hd _ (hhd j (hpt j hj))).2.1) (hbx j hj) hx
        have h8 := tot_two (ρ := ρ) hdk q1 (fun he => hok.1 (he ▸ hpt j hj)) x
        have h9 := r.b.sum x
        omega
      · cases hok
    · rename_i c hop
      split at hok
      · rename_i x y hcal hargs
        have hcal1 : calleeV σ1 o = none := by simp [calleeV, hop, hcal]
        have hmem1 : isMem tab σ1 o = true := by simp [isMem, hop, hcal]
        unfold vcOp at h
        simp only [hcal1, hmem1, if_true] at h
        have hev : ∀ k, σ1.ev x = .c (.own k) → σ.ev x = .c (.own k) := fun k hk => by
          rcases hs with rfl | ⟨d, t, hd, rfl⟩
          · exact hk
          · rcases setE_ev (b := t ()) hd x with h1 | ⟨_, b', h2⟩
            · rw [← h1]; exact hk
            · rw [h2] at hk; cases hk
        have hblk : σ1.blk = σ.blk := by
          rcases hs with rfl | ⟨d, t, hd, rfl⟩ <;> rfl
        refine Oper.wp_mono (fun a' w' ⟨σ', h1, h2, h3⟩ => hn σ' a' w' h1 h2 fun j hj b hb => h3 b ?_ fun k hk => ?_) (vcApp_ok hT r hop hcal hargs h)
        · obtain ⟨o', ho'⟩ := hth j hj b hb
          exact lt_of_aget ho'
        · have hk0 := hev k hk
          rw [hk0] at hok
          simp only [Bool.and_eq_true, Bool.not_eq_true'] at hok
          have hk1 : k ∉ pt := by simpa using hok.1
          have hbj := List.all_eq_true.1 hok.2 j hj
          rw [← hblk] at hbj
          have hdk : dom σ1.blk k := by
            have := ev_ok r.e x
            rw [hk] at this
            exact this.1
          cases hgj : getB σ1.blk j with
          | none => rw [hgj] at hbj; cases hbj
          | some B =>
            rw [hgj] at hbj
            cases B with
            | box cs =>
              obtain ⟨b', vs, e, fz, e1, e2, _⟩ := r.b.blk j _ (getB_mem hgj)
              have h6 := (r.hd _ (hhd j (hpt j hj))).2.1
              have h7 := hbx j hj b' (by rw [← e1]; exact h6.symm)
              have h8 := tot_two (ρ := ρ) hdk (getB_dom hgj) (fun he => hk1 (he ▸ hj)) b
              have h9 := r.b.sum b
              rw [e2] at h8
              rcases h7 with h7 | h7
              · rw [h7] at hb
                omega
              · rw [h7] at hb
                omega
            | _ => cases hbj
      · rename_i f hcal
        split at hok
        · rename_i ms hms
          simp only [Bool.and_eq_true, List.all_eq_true, Bool.not_eq_true', List.contains_eq_mem, decide_eq_false_iff_not] at hok
          have hcal1 : calleeV σ1 o = some (.c (.fn f []), c) := by simp [calleeV, hop, hcal, SS.ev]
          have hblk : σ1.blk = σ.blk := by
            rcases hs with rfl | ⟨d, t, hd, rfl⟩ <;> rfl
          have hnm : ∀ x, (σ1.ev x).nm = (σ.ev x).nm := fun x => by
            rcases hs with rfl | ⟨d, t, hd, rfl⟩
            · rfl
            · rcases setE_ev (b := t ()) hd x with h1 | ⟨⟨t', h1⟩, b', h2⟩
              · rw [h1]
              · rw [h1, h2]; rfl
          have hks : handNm σ1.blk ms (c.args.toList.map σ1.ev) = handNm σ.blk ms (c.args.toList.map σ.ev) := by
            unfold handNm
            rw [hblk, argNm_congr hnm]
          unfold vcOp at h
          simp only [hcal1] at h
          unfold vcCall at h
          cases hd : o.dst with
          | none => simp only [hd] at h
          | some d =>
            simp only [hd, hms] at h
            refine Oper.wp_mono (fun a' w' ⟨σ', h1, h2, h3⟩ => hn σ' a' w' h1 h2 fun j hj x hx => ?_) (vcCallM_ok r (fun p hp hm => hok.1 _ (hks ▸ hm) (hhd2 p hp)) hcal1 hd h)
            obtain ⟨q1, q2⟩ := box_foot r (hblk ▸ hok.2 j hj) ((r.hd _ (hhd j (hpt j hj))).2.1) (hbx j hj) hx
            exact h3 j q1 (fun hm => hok.1 _ (hks ▸ hm) (hpt j hj)) x (by rw [q2]; exact Nat.one_pos)
        · cases hok
      · cases hok
    · cases hok
end
end Go.Proofs.Ytlochjpjlhkjaaa
namespace Go.Proofs.Ytlochjpjlhkjaaa
open Go
section
variable {P : Program} {tab : Tab} (hT : tabB P tab = true) {Γ : Ctx} {H : Hp}
include hT
omit hT in
theorem pickI_ok {ops : Array Oper} {b : Bool} {nm0 : List Nat} {listed : Array Bool} {σ : SS} : ∀ {l : List Nat} {i : Nat}, pickI tab ops b nm0 listed σ l = some i → i ∈ l ∧ ∃ o, ops[i]? = some o ∧ isDet tab b nm0 σ o = true ∧ Region.free .any ops listed i = true
  | [], i, h => by simp [pickI] at h
  | j :: l, i, h => by
    unfold pickI at h
    split at h
    · rename_i o ho
      split at h
      · rename_i hc
        cases h
        simp only [Bool.and_eq_true] at hc
        exact ⟨List.mem_cons_self, o, ho, hc.1, hc.2⟩
      · obtain ⟨h1, h2⟩ := pickI_ok h; exact ⟨List.mem_cons_of_mem _ h1, h2⟩
    · obtain ⟨h1, h2⟩ := pickI_ok h; exact ⟨List.mem_cons_of_mem _ h1, h2⟩
omit hT in
theorem allOf_get {p : Nat → Prop} : ∀ {l : List Nat}, allOf l p → ∀ i ∈ l, p i
  | [], _, i, hi => by cases hi
  | [j], h, i, hi => by
    simp only [List.mem_singleton] at hi
    subst hi; exact h
  | j :: k :: l, h, i, hi => by
    rcases List.mem_cons.1 hi with rfl | hi
    · exact h.1
    · exact allOf_get h.2 i hi
omit hT in
theorem setE_rd {σ σ' : SS} {o : Oper} (hev : ∀ x, σ'.ev x = σ.ev x ∨ (∃ t, σ.ev x = .c (.lf (.bool t))) ∧ ∃ b', σ'.ev x = .c (.bl b')) : rdN o σ' = rdN o σ := by
  unfold rdN
  split
  · rename_i T x _
    rcases hev x with h | ⟨⟨t, h1⟩, b', h2⟩
    · rw [h]
    · rw [h1, h2]; rfl
  · rfl
theorem vcG_det {S : World → Prop} {ρ : Rho} {ops : Array Oper} {o : Oper} {b : Bool} {pt : List Nat} {σ : SS} {a : Act} {w : World} {K : SS → Prop} (h : vcG P tab ops.toList o σ K) (hd : isDet tab b pt σ o = true) (r : RelH Γ H ρ σ a w)
    (hS : ∀ w', S w' → ∀ rd : List Nat, rdOk b pt rd = true → Keeps H ρ rd w w') :
    ∃ v σ', YieldsIf P ops S o v a ∧ K σ' ∧ RelH Γ H ρ σ' (a.put o.dst v) w := by
  simp only [isDet, Bool.and_eq_true, Bool.not_eq_true', Option.isNone_iff_eq_none] at hd
  obtain ⟨⟨hc, hm⟩, hrd⟩ := hd
  have go : ∀ {σ1 : SS}, vcOp P tab o σ1 K → RelH Γ H ρ σ1 a w → calleeV σ1 o = none → isMem tab σ1 o = false → rdOk b pt (rdN o σ1) = true →
      ∃ v σ', (∀ w', S w' → (execOp a.eval o).run P w' = .ok (.value v) w') ∧ K σ' ∧ RelH Γ H ρ σ' (a.put o.dst v) w := fun {σ1} h r hc hm hrd => by
    unfold vcOp at h
    simp only [hc, hm, Bool.false_eq_true, if_false] at h
    obtain ⟨v, y, hk, hv, hrun⟩ := vcDet_ok hT r h
    exact ⟨y, _, fun w' hw' => hrun w' (hS w' hw' _ hrd), hk, r.put hv _⟩
  unfold vcG at h
  split at h
  · rename_i hg
    obtain ⟨v, σ', h1, h2, h3⟩ := go h r hc hm hrd
    exact ⟨v, σ', .inl ⟨by simp [Region.wanted, hg], h1⟩, h2, h3⟩
  · rename_i j want hg
    split at h
    · rename_i d hdd
      obtain ⟨y1, y2⟩ := yielded_env (⟨H, ρ, r⟩ : Rel Γ σ a w) hdd
      split at h
      · rename_i c hb
        split at h
        · rename_i hbw
          obtain ⟨v, σ', h1, h2, h3⟩ := go h r hc hm hrd
          exact ⟨v, σ', .inl ⟨by simp [Region.wanted, hg, y1 c hb, hbw], h1⟩, h2, h3⟩
        · rename_i hbw
          exact ⟨Go.undef, _, .inr ⟨by simp [Region.wanted, hg, y1 c hb, hbw], rfl⟩, h, r.skip _⟩
      · rename_i hb
        exact ⟨Go.undef, _, .inr ⟨by simp [Region.wanted, hg, y2 hb], rfl⟩, h, r.skip _⟩
      · rename_i t hb
        obtain ⟨h⟩ := h
        have r' := r.setE hb
        have hlt : d < σ.env.length := by
          rcases Nat.lt_or_ge d σ.env.length with h | h
          · exact h
          · rw [List.getD_eq_getElem?_getD, List.getElem?_eq_none h] at hb; cases hb
        have y3 := (yielded_env (⟨H, ρ, r'⟩ : Rel Γ _ a w) hdd).1 (t ()) (by simp [SS.setE, List.getD_eq_getElem?_getD, hlt])
        have hev := setE_ev (b := t ()) hb
        split at h
        · rename_i hbw
          obtain ⟨v, σ', h1, h2, h3⟩ := go h r' (setE_callee hc) (setE_mem hev rfl hm) (by rw [setE_rd hev]; exact hrd)
          exact ⟨v, σ', .inl ⟨by simp [Region.wanted, hg, y3, hbw], h1⟩, h2, h3⟩
        · rename_i hbw
          exact ⟨Go.undef, _, .inr ⟨by simp [Region.wanted, hg, y3, hbw], rfl⟩, h, r'.skip _⟩
      · cases h
    · cases h
theorem vcDraw_ok {ops : Array Oper} {b : Bool} {nm0 pt : List Nat} {Q : Exit → Act → World → Prop} {w0 : World} {ρ0 : Rho} {K : SS → Prop} (hsel : Region.noSelect ops = true)
    (hw0 : b = false → Γ.hd = []) (hhd : b = true → ∀ k ∈ nm0, (k, ρ0 k) ∈ Γ.hd) (hhd2 : b = true → ∀ p ∈ Γ.hd, p.1 ∈ nm0) (hpt : ∀ k ∈ pt, k ∈ nm0) (hlt : ∀ k ∈ nm0, ∀ x, 0 < (ρ0 k).2 x → x < w0.heap.size) (hdj : ∀ k ∈ nm0, ∀ j ∈ nm0, k ≠ j → ∀ x, (ρ0 k).2 x + (ρ0 j).2 x ≤ 1)
    (hbx : ∀ k ∈ pt, ∀ b, (ρ0 k).1 = .pointer (some ⟨b, 0, none⟩) → (ρ0 k).2 = one b ∨ ∀ x, (ρ0 k).2 x = 0) (hpan : ∀ c a w, ¬ Q (.panic c) a w) (hQ : ∀ σ' a' w', K σ' → (∃ ρ, RelH Γ H ρ σ' a' w') → Q .normal a' w') :
    ∀ (n : Nat) {listed : Array Bool} {σ : SS} {a : Act} {w : World} {ρ : Rho}, vcDraw P tab ops b nm0 pt n listed σ K → RelH Γ H ρ σ a w → (b = true → PtW ρ0 pt w0 w) →
      wpAnyH P .any ops Q (fun w' => (∀ x o, H x = some o → w'.heap[x]? = some o) ∧ (b = true → PtW ρ0 pt w0 w')) n listed a w
  | 0, listed, σ, a, w, ρ, h, r, hk => by
    unfold vcDraw at h
    split at h
    · rename_i he
      exact ⟨he, hQ _ _ _ h ⟨ρ, r⟩⟩
    · cases h
  | n + 1, listed, σ, a, w, ρ, h, r, hk => by
    unfold vcDraw at h
    have h := pzIf_out h
    split at h
    · rename_i he
      exact wpAnyH_done he (hQ _ _ _ h ⟨ρ, r⟩) _
    · rename_i r0 rs he
      split at h
      · rename_i i hp
        obtain ⟨hi, o, ho, hd, hf⟩ := pickI_ok hp
        simp only [ho] at h
        obtain ⟨v, σ', hy, hK, r'⟩ := vcG_det hT h hd r (S := fun w' => (∀ x o, H x = some o → w'.heap[x]? = some o) ∧ (b = true → PtW ρ0 pt w0 w')) fun w' hw' rd hrd => by
          refine ⟨hw'.1, fun k hk' x hx => ?_⟩
          cases b with
          | false => simp only [rdOk, List.isEmpty_iff] at hrd; subst hrd; cases hk'
          | true =>
            have h1 : k ∈ pt := by
              simp only [rdOk, List.all_eq_true] at hrd
              simpa using hrd k hk'
            have h2 := (r.hd _ (hhd rfl k (hpt k h1))).2.2 x
            have h0 : 0 < (ρ0 k).2 x := by simp only at h2; omega
            rw [hw'.2 rfl k h1 x h0, hk rfl k h1 x h0]
        exact wpAnyH_take ho hsel hf (by rw [he]; simpa using hi) (fun c a w hq => (hpan _ _ _ hq).elim) hy ⟨r.b.hh, hk⟩ (vcDraw_ok hsel hw0 hhd hhd2 hpt hlt hdj hbx hpan hQ n hK r' hk)
      · refine wpAnyH_all he (by simp) fun i hi => ?_
        have h := allOf_get h i hi
        split at h
        · rename_i o ho
          split at h
          · rename_i hok
            cases b with
            | false =>
              refine vcG_ok hT (fun _ => hw0 rfl) ho h r fun σ' a' w' hK hr => ?_
              obtain ⟨⟨ρ', r'⟩, _⟩ := hr
              exact ⟨⟨r'.b.hh, fun hb => by cases hb⟩, vcDraw_ok hsel hw0 hhd hhd2 hpt hlt hdj hbx hpan hQ n hK r' (fun hb => by cases hb)⟩
            | true =>
              refine vcG_pt hT ho (by simpa using hok) h r (hhd rfl) (hhd2 rfl) hpt (fun k hk' x hx => ⟨_, by rw [hk rfl k hk' x hx]; exact Array.getElem?_eq_getElem (hlt k (hpt k hk') x hx)⟩) hdj hbx fun σ' a' w' hK hr hptw => ?_
              obtain ⟨ρ', r'⟩ := hr
              have hk' : true = true → PtW ρ0 pt w0 w' := fun _ k hk0 x hx => by rw [hptw k hk0 x hx, hk rfl k hk0 x hx]
              exact ⟨⟨r'.b.hh, hk'⟩, vcDraw_ok hsel hw0 hhd hhd2 hpt hlt hdj hbx hpan hQ n hK r' hk'⟩
          · cases h
        · cases h
omit hT in
theorem box_one {h : Array Obj} {H : Hp} {ρ : Rho} {D : Nat → Prop} {B : Blk} {p : Value × (Nat → Nat)} (hr : BlkR h H ρ D B p) {b : Nat} (hp : p.1 = .pointer (some ⟨b, 0, none⟩)) : p.2 = one b ∨ ∀ x, p.2 x = 0 := by
  cases B with
  | dead => simp only [BlkR] at hr; exact .inr fun x => by rw [hr]
  | box cs =>
    obtain ⟨b', vs, e, fz, h1, h2, _⟩ := hr
    rw [hp] at h1
    simp only [Value.pointer.injEq, Option.some.injEq, Addr.mk.injEq, and_true] at h1
    subst h1
    exact .inl h2
  | own E xs l =>
    obtain ⟨b', c, h1, _⟩ := OwnL.slice hr
    rw [hp] at h1; cases h1
  | view E xs => exact .inr fun x => by rw [hr.2]
  | hol E xs i fs =>
    obtain ⟨b', o, c, cs, e, fz, S, h1, _⟩ := hr
    rw [hp] at h1; cases h1
  | mp m =>
    obtain ⟨b', es, c, h1, _⟩ := hr
    rw [hp] at h1; cases h1
omit hT in
theorem onlyBox_mem {bs : List (Nat × Blk)} {k : Nat} : ∀ {ks : List Nat}, k ∈ onlyBox bs ks → k ∈ ks
  | [], h => by cases h
  | j :: ks, h => by
    simp only [onlyBox] at h
    split at h
    · rcases List.mem_cons.1 h with rfl | h
      · exact List.mem_cons_self
      · exact List.mem_cons_of_mem _ (onlyBox_mem h)
    · exact List.mem_cons_of_mem _ (onlyBox_mem h)
omit hT in
theorem without_mem {l : List Nat} {k : Nat} : ∀ {ks : List Nat}, k ∈ without l ks → k ∈ ks
  | [], h => by cases h
  | j :: ks, h => by
    simp only [without] at h
    split at h
    · exact List.mem_cons_of_mem _ (without_mem h)
    · rcases List.mem_cons.1 h with rfl | h
      · exact List.mem_cons_self
      · exact List.mem_cons_of_mem _ (without_mem h)
theorem vcDraw_region {id : Nat} {ops : Array Oper} {σ : SS} {a : Act} {w : World} {K : Exit → SS → Prop} {Q : Exit → Act → World → Prop} (hd0 : Γ.hd = [])
    (h : if Region.noSelect ops = true then vcDrawR P tab ops σ fun σ' => K .normal σ' else False)
    (r : Rel Γ σ a w) (hQ : ∀ σ' a' w', K .normal σ' → Rel Γ σ' a' w' → Q .normal a' w') : (Code.region id ops true).wp P Q a w := by
  split at h
  · rename_i hsel
    have key : ∀ (b : Bool) (pt : List Nat), (∀ k ∈ pt, k ∈ σ.blk.map (·.1)) → vcDraw P tab ops b (σ.blk.map (·.1)) pt ops.size (Array.replicate ops.size false) σ (fun σ' => K .normal σ') → (Code.region id ops true).wp P Q a w := by
      intro b pt hpt h
      obtain ⟨H, ρ, r⟩ := r
      let Γ' : Ctx := { Γ with hd := if b = true then σ.blk.map fun p => (p.1, ρ p.1) else [] }
      have r' : RelH Γ' H ρ σ a { w with drawn := w.drawn + 1 } := by
        refine ⟨r.b, r.e, r.d, r.n.trans (Ext.of (Nat.le_refl _) rfl rfl fun _ => rfl), fun p hp => ?_, r.hm⟩
        simp only [Γ'] at hp
        split at hp
        · obtain ⟨q, hq, rfl⟩ := List.mem_map.1 hp
          exact ⟨List.mem_map.2 ⟨q, hq, rfl⟩, rfl, fun x => Nat.le_refl _⟩
        · cases hp
      refine Code.wp_mono (Q := fun e a w => match e with | .normal => Q .normal a w | _ => False) (fun e a w hq => by cases e <;> first | exact hq | exact hq.elim) ?_
      refine wp_region_held (tabB_mix hT) (vcDraw_ok (Γ := Γ') (H := H) (ρ0 := ρ) (w0 := { w with drawn := w.drawn + 1 }) hT hsel (fun hb => by simp only [Γ', hb]; rfl) (fun hb k hk => ?_) (fun hb p hp => ?_) hpt (fun k hk x hx => ?_) (fun k hk j hj hne x => ?_) (fun k hk b hb => ?_) (fun c a w hq => hq)
        (fun σ' a' w' hK hr => ?_) _ h r' (fun _ _ _ _ _ => rfl))
      · obtain ⟨q, hq, rfl⟩ := List.mem_map.1 hk
        simp only [Γ', hb, if_true]
        exact List.mem_map.2 ⟨q, hq, rfl⟩
      · simp only [Γ', hb, if_true] at hp
        obtain ⟨q, hq, rfl⟩ := List.mem_map.1 hp
        exact List.mem_map.2 ⟨q, hq, rfl⟩
      · obtain ⟨q, hq, rfl⟩ := List.mem_map.1 hk
        exact r'.lt (Nat.lt_of_lt_of_le hx (tot_le hq x))
      · exact Nat.le_trans (tot_two hk hj (Ne.symm hne) x) (r.b.sum x)
      · obtain ⟨q, hq, rfl⟩ := List.mem_map.1 (hpt k hk)
        have h1 := r.b.blk _ _ hq
        exact box_one h1 hb
      · obtain ⟨ρ', r2⟩ := hr
        exact hQ _ _ _ hK ⟨H, ρ', r2.b, r2.e, r2.d, r2.n, by rw [hd0]; (intro p hp; cases hp), r2.hm⟩
    unfold vcDrawR at h
    split at h
    · rename_i nw ws _
      cases nw with
      | true => exact key true _ (fun k hk => without_mem (onlyBox_mem hk)) h
      | false => exact key true _ (fun k hk => without_mem hk) h
    · exact key false [] (fun k hk => by cases hk) h
  · cases h
omit hT in
theorem getL_eq : ∀ (l : List Bool) (j : Nat), getL l j = l.toArray.getD j false
  | [], j => by simp [getL]
  | b :: l, 0 => by simp [getL]
  | b :: l, j + 1 => by
    have := getL_eq l j
    simp only [getL, this]
    simp [Array.getD_eq_getD_getElem?]
omit hT in
theorem setL_eq : ∀ (l : List Bool) (i : Nat), setL l i = l.set i true
  | [], i => by simp [setL]
  | b :: l, 0 => by simp [setL]
  | b :: l, i + 1 => by simp [setL, setL_eq l i]
omit hT in
theorem allL_eq : ∀ {l : List Bool}, allL l = true → ∀ b ∈ l, b = true
  | [], _, b, hb => by cases hb
  | c :: l, h, b, hb => by
    cases c with
    | false => cases h
    | true =>
      cases hb with
      | head => rfl
      | tail _ hb => exact allL_eq (l := l) h b hb
omit hT in
theorem falseL_eq : ∀ (os : List Oper), falseL os = List.replicate os.length false
  | [] => rfl
  | _ :: os => by simp [falseL, falseL_eq os, List.replicate_succ]
omit hT in
theorem afterOk_eq {l : List Bool} : ∀ {es : List Edge}, afterOk l es = true ↔ ∀ e ∈ es, Region.binds .any e = true → getL l e.on = true
  | [] => by simp [afterOk]
  | e :: es => by
    have ih := afterOk_eq (l := l) (es := es)
    unfold afterOk
    cases h : Region.binds .any e with
    | false => simp [ih, h]
    | true =>
      cases h2 : getL l e.on with
      | false => simp [h, h2]
      | true => simp [ih, h, h2]
omit hT in
theorem scanJ_ok {b : Bool} {pt : List Nat} {l0 : List Bool} {σ : SS} : ∀ {os : List Oper} {ls : List Bool} {k i : Nat} {o : Oper}, scanJ tab b pt l0 σ os ls k = some (i, o) →
    ∃ j, i = k + j ∧ os[j]? = some o ∧ ls[j]? = some false ∧ afterOk l0 o.after.toList = true ∧ isDet tab b pt σ o = true
  | [], ls, k, i, o, h => by simp [scanJ] at h
  | _ :: _, [], k, i, o, h => by simp [scanJ] at h
  | q :: os, l :: ls, k, i, o, h => by
    have next : scanJ tab b pt l0 σ os ls (k + 1) = some (i, o) → ∃ j, i = k + j ∧ (q :: os)[j]? = some o ∧ (l :: ls)[j]? = some false ∧ afterOk l0 o.after.toList = true ∧ isDet tab b pt σ o = true := fun h => by
      obtain ⟨j, h1, h2, h3, h4⟩ := scanJ_ok h
      exact ⟨j + 1, by omega, by simpa using h2, by simpa using h3, h4⟩
    unfold scanJ at h
    cases l with
    | true => exact next h
    | false =>
      simp only at h
      split at h
      · rename_i ha
        split at h
        · rename_i hd
          cases h
          exact ⟨0, rfl, rfl, rfl, ha, hd⟩
        · exact next h
      · exact next h
omit hT in
theorem readyL_mem {l0 : List Bool} : ∀ {os : List Oper} {ls : List Bool} {k j : Nat} {o : Oper}, os[j]? = some o → ls[j]? = some false → afterOk l0 o.after.toList = true → (k + j, o) ∈ readyL l0 os ls k
  | [], ls, k, j, o, h, _, _ => by simp at h
  | _ :: _, [], k, j, o, _, h, _ => by simp at h
  | q :: os, l :: ls, k, 0, o, h1, h2, h3 => by
    simp only [List.getElem?_cons_zero, Option.some.injEq] at h1 h2
    subst h1; subst h2
    unfold readyL
    simp only [h3, Nat.add_zero, List.mem_cons, true_or]
  | q :: os, l :: ls, k, j + 1, o, h1, h2, h3 => by
    have ih := readyL_mem (l0 := l0) (os := os) (ls := ls) (k := k + 1) (j := j) (o := o) (by simpa using h1) (by simpa using h2) h3
    rw [show k + (j + 1) = k + 1 + j by omega]
    unfold readyL
    split
    · exact ih
    · split
      · exact List.mem_cons_of_mem _ ih
      · exact ih
omit hT in
theorem readyL_get {l0 : List Bool} : ∀ {os : List Oper} {ls : List Bool} {k i : Nat} {o : Oper}, (i, o) ∈ readyL l0 os ls k → ∃ j, i = k + j ∧ os[j]? = some o ∧ ls[j]? = some false ∧ afterOk l0 o.after.toList = true
  | [], ls, k, i, o, h => by simp [readyL] at h
  | _ :: _, [], k, i, o, h => by simp [readyL] at h
  | q :: os, l :: ls, k, i, o, h => by
    have next : (i, o) ∈ readyL l0 os ls (k + 1) → ∃ j, i = k + j ∧ (q :: os)[j]? = some o ∧ (l :: ls)[j]? = some false ∧ afterOk l0 o.after.toList = true := fun h => by
      obtain ⟨j, h1, h2, h3, h4⟩ := readyL_get h
      exact ⟨j + 1, by omega, by simpa using h2, by simpa using h3, h4⟩
    unfold readyL at h
    split at h
    · exact next h
    · split at h
      · rename_i ha
        rcases List.mem_cons.1 h with h | h
        · cases h
          exact ⟨0, rfl, rfl, rfl, ha⟩
        · exact next h
      · exact next h
omit hT in
theorem allO_get {q : Nat → Oper → Prop} : ∀ {l : List (Nat × Oper)}, allO l q → ∀ p ∈ l, q p.1 p.2
  | [], _, p, hp => by cases hp
  | [_], h, p, hp => by cases List.mem_singleton.1 hp; exact h
  | _ :: r :: l, h, p, hp => by
    rcases List.mem_cons.1 hp with rfl | hp
    · exact h.1
    · exact allO_get (l := r :: l) h.2 p hp
omit hT in
theorem mem_readyA {ops : Array Oper} {l : List Bool} {i : Nat} : i ∈ Region.ready .any ops l.toArray ↔ l.toArray.getD i true = false ∧ ∃ o, ops.toList[i]? = some o ∧ afterOk l o.after.toList = true := by
  rw [mem_ready]
  simp only [afterOk_eq, getL_eq, Array.getElem?_toList, Array.mem_toList_iff]
omit hT in
theorem getD_false {l : List Bool} {i : Nat} : l.toArray.getD i true = false ↔ l[i]? = some false := by
  rw [Array.getD_eq_getD_getElem?, List.getElem?_toArray]
  cases h : l[i]? with
  | none => simp
  | some b => simp
omit hT in
theorem ready_free {ops : Array Oper} (hf : freeAll ops = true) {l : Array Bool} {i : Nat} (hi : i ∈ Region.ready .any ops l) : Region.free .any ops l i = true := by
  obtain ⟨h1, o, h2, h3⟩ := mem_ready.1 hi
  simp only [freeAll, Bool.and_eq_true, List.all_eq_true, List.mem_range] at hf
  have hlt := (Array.getElem?_eq_some_iff.1 h2).1
  have h4 := hf.1 i hlt
  simp only [freeI, h2, List.all_eq_true, List.mem_range] at h4
  simp only [Region.free, h2, List.all_eq_true, List.mem_range]
  intro j hj
  have h5 := h4 j hj
  simp only [Bool.or_eq_true] at h5 ⊢
  rcases h5 with h5 | h5
  · exact .inl (.inl h5)
  · cases hlj : l.getD j true with
    | true => exact .inl (.inr rfl)
    | false =>
      refine .inr ?_
      cases hoj : ops[j]? with
      | none => rfl
      | some oj =>
        simp only [hoj, Bool.or_eq_true] at h5 ⊢
        rcases h5 with (h5 | h5) | h5
        · exact .inl h5
        · exfalso
          obtain ⟨e, he, h6⟩ := Array.any_eq_true'.1 h5
          simp only [Bool.and_eq_true, beq_iff_eq] at h6
          have h7 := h3 e he h6.1
          rw [h6.2] at h7
          rw [Array.getD_eq_getD_getElem?] at h7 hlj
          cases h8 : l[j]? with
          | none => rw [h8] at h7; cases h7
          | some b => rw [h8] at h7 hlj; simp at h7 hlj; rw [h7] at hlj; cases hlj
        · exact .inr h5
omit hT in
theorem eqLB_eq : ∀ {l m : List Bool}, eqLB l m = true → l = m
  | [], [], _ => rfl
  | [], _ :: _, h => by simp [eqLB] at h
  | _ :: _, [], h => by simp [eqLB] at h
  | b :: bs, c :: cs, h => by
    cases b <;> cases c <;> simp only [eqLB] at h
    · rw [eqLB_eq h]
    · cases h
    · cases h
    · rw [eqLB_eq h]
omit hT in
theorem nodesP_get {p : List Bool → Prop} : ∀ {rs : List Row} {l l' : List Bool}, nodesP rs l p → inN rs l l' = true → p l'
  | [], l, l', h, hi => by
    rw [← eqLB_eq hi]; exact h.1
  | r :: rs, l, l', h, hi => by
    unfold nodesP at h
    unfold inN at hi
    split at h
    · rename_i ha
      rw [ha] at hi
      exact nodesP_get h hi
    · rename_i ha
      rw [ha] at hi
      split at h
      · rename_i ht
        rw [ht] at hi
        exact nodesP_get h hi
      · rename_i ht
        rw [ht] at hi
        simp only at hi
        split at hi
        · exact nodesP_get h.1.1 hi
        · exact nodesP_get h.2.1 hi
omit hT in
theorem cntF_set : ∀ {l : List Bool} {i : Nat}, l[i]? = some false → cntF l = cntF (setL l i) + 1
  | [], i, h => by simp at h
  | b :: l, 0, h => by
    simp only [List.getElem?_cons_zero, Option.some.injEq] at h
    subst h; rfl
  | b :: l, i + 1, h => by
    have ih := cntF_set (l := l) (i := i) (by simpa using h)
    cases b <;> simp only [cntF, setL, ih]
omit hT in
theorem cntF_zero : ∀ {l : List Bool}, cntF l = 0 → allL l = true
  | [], _ => rfl
  | b :: l, h => by
    cases b with
    | true => exact cntF_zero (l := l) h
    | false => simp [cntF] at h
omit hT in
theorem stOf_out {l : List Bool} {σ : SS} : ∀ {rs : List Row}, outR l rs = true → stOf l rs σ = σ
  | [], _ => rfl
  | r :: rs, h => by
    unfold outR at h
    unfold stOf
    split at h
    · cases h
    · exact stOf_out h
omit hT in
theorem wp_out {o : Oper} {a : Act} {w : World} {C : Prop} (h : o.wp P a w (fun _ _ => C) (fun _ _ _ => False)) : C := by
  unfold Oper.wp at h
  cases hr : (execOp a.eval o).run P w with
  | ok n w' =>
    rw [hr] at h
    cases n with
    | value v => exact h
    | skip => exact h
    | defer d => exact h
    | enter f args =>
      obtain ⟨e, w'', fr, h1, _⟩ := h []
      cases e with
      | returned v => exact h1
      | panicked c => exact h1.elim
      | outgrown => obtain ⟨_, _, h2⟩ := h1; exact h2.elim
    | row r args =>
      obtain ⟨v, w'', h1, _⟩ := h (Frame.ofRow P r args .normal) []
      exact h1
    | _ => exact h.elim
  | halt x w' =>
    rw [hr] at h
    cases x <;> exact h.elim
theorem path_ex {ops : Array Oper} {b : Bool} {pt : List Nat} (hd0 : Γ.hd = []) : ∀ (n : Nat) {l : List Bool} {σ : SS} {rs : List Row} {J : List Row → SS → Prop} {ρ : Rho} {a : Act} {w : World}, vcPath P tab ops.toList b pt n l σ rs J → RelH Γ H ρ σ a w → ∃ rs' σ', J rs' σ'
  | 0, l, σ, rs, J, ρ, a, w, h, r => by
    unfold vcPath at h
    split at h
    · exact ⟨_, _, h⟩
    · cases h
  | n + 1, l, σ, rs, J, ρ, a, w, h, r => by
    unfold vcPath at h
    split at h
    · exact ⟨_, _, h⟩
    · split at h
      · rename_i i o hp
        obtain ⟨j, hj, h1, h2, h3, hd⟩ := scanJ_ok hp
        obtain ⟨v, σ', _, hK, r'⟩ := vcG_det hT h hd r (S := fun w' => w' = w) (fun w' hw' rd _ => by rw [hw']; exact Keeps.refl r _)
        exact path_ex hd0 n hK r'
      · split at h
        · cases h
        · rename_i i o _ _
          split at h
          · have h1 := vcOpK_ok hT (Q := fun _ _ _ => False) (fun _ => hd0) h r
            refine wp_out (o := o) (a := a) (w := w) (P := P) (Oper.wp_mono (fun a' w' h2 => ?_) h1)
            obtain ⟨σ', hK, ⟨ρ', r'⟩, _⟩ := h2
            exact path_ex hd0 n hK r'
          · cases h
theorem closeD_ok {ops : Array Oper} {b : Bool} {nm0 pt : List Nat} {Q : Exit → Act → World → Prop} {w0 : World} {ρ0 : Rho} (hfree : freeAll ops = true)
    (hhd : b = true → ∀ k ∈ nm0, (k, ρ0 k) ∈ Γ.hd) (hpt : ∀ k ∈ pt, k ∈ nm0) (hpan : ∀ c a w, ¬ Q (.panic c) a w) {J : List Bool → SS → Prop} :
    ∀ (n : Nat) {m : Nat} {l : List Bool} {σ : SS} {a : Act} {w : World} {ρ : Rho}, closeD P tab ops.toList b pt n l σ J → RelH Γ H ρ σ a w → (b = true → PtW ρ0 pt w0 w) → cntF l ≤ m →
      (∀ m' l' σ' a' w' ρ', m' ≤ m → J l' σ' → RelH Γ H ρ' σ' a' w' → (b = true → PtW ρ0 pt w0 w') → cntF l' ≤ m' → wpAnyH P .any ops Q (fun w' => (∀ x o, H x = some o → w'.heap[x]? = some o) ∧ (b = true → PtW ρ0 pt w0 w')) m' l'.toArray a' w') →
      wpAnyH P .any ops Q (fun w' => (∀ x o, H x = some o → w'.heap[x]? = some o) ∧ (b = true → PtW ρ0 pt w0 w')) m l.toArray a w
  | 0, m, l, σ, a, w, ρ, h, r, hk, hc, go => go m l σ a w ρ (Nat.le_refl _) h r hk hc
  | n + 1, m, l, σ, a, w, ρ, h, r, hk, hc, go => by
    have hsel : Region.noSelect ops = true := by
      have h1 := hfree
      simp only [freeAll, Bool.and_eq_true] at h1
      exact h1.2
    unfold closeD at h
    split at h
    · rename_i i o hp
      obtain ⟨j, hj, h1, h2, h3, hd⟩ := scanJ_ok hp
      rw [Nat.zero_add] at hj
      subst hj
      have hi : i ∈ Region.ready .any ops l.toArray := mem_readyA.2 ⟨getD_false.2 h2, o, h1, h3⟩
      have ho : ops[i]? = some o := by rw [← Array.getElem?_toList]; exact h1
      obtain ⟨v, σ', hy, hK, r'⟩ := vcG_det hT h hd r (S := fun w' => (∀ x o, H x = some o → w'.heap[x]? = some o) ∧ (b = true → PtW ρ0 pt w0 w')) fun w' hw' rd hrd => by
        refine ⟨hw'.1, fun k hk' x hx => ?_⟩
        cases b with
        | false => simp only [rdOk, List.isEmpty_iff] at hrd; subst hrd; cases hk'
        | true =>
          have h1 : k ∈ pt := by
            simp only [rdOk, List.all_eq_true] at hrd
            simpa using hrd k hk'
          have h2 := (r.hd _ (hhd rfl k (hpt k h1))).2.2 x
          have h0 : 0 < (ρ0 k).2 x := by simp only at h2; omega
          rw [hw'.2 rfl k h1 x h0, hk rfl k h1 x h0]
      have hcs := cntF_set h2
      obtain ⟨m, rfl⟩ : ∃ m', m = m' + 1 := ⟨m - 1, by omega⟩
      have hnext := closeD_ok hfree hhd hpt hpan n (m := m) hK r' hk (by omega) (fun m' l' σ' a' w' ρ' hm => go m' l' σ' a' w' ρ' (by omega))
      rw [setL_eq, ← List.setIfInBounds_toArray] at hnext
      exact wpAnyH_take ho hsel (ready_free hfree hi) (by simpa using hi) (fun c a w hq => (hpan _ _ _ hq).elim) hy ⟨r.b.hh, hk⟩ hnext
    · exact go m l σ a w ρ (Nat.le_refl _) h r hk hc
theorem tab_ok {ops : Array Oper} {b : Bool} {nm0 pt : List Nat} {Q : Exit → Act → World → Prop} {w0 : World} {ρ0 : Rho} {K : SS → Prop} (hfree : freeAll ops = true)
    (hw0 : b = false → Γ.hd = []) (hhd : b = true → ∀ k ∈ nm0, (k, ρ0 k) ∈ Γ.hd) (hhd2 : b = true → ∀ p ∈ Γ.hd, p.1 ∈ nm0) (hpt : ∀ k ∈ pt, k ∈ nm0) (hlt : ∀ k ∈ nm0, ∀ x, 0 < (ρ0 k).2 x → x < w0.heap.size) (hdj : ∀ k ∈ nm0, ∀ j ∈ nm0, k ≠ j → ∀ x, (ρ0 k).2 x + (ρ0 j).2 x ≤ 1)
    (hbx : ∀ k ∈ pt, ∀ b, (ρ0 k).1 = .pointer (some ⟨b, 0, none⟩) → (ρ0 k).2 = one b ∨ ∀ x, (ρ0 k).2 x = 0) (hpan : ∀ c a w, ¬ Q (.panic c) a w) (hQ : ∀ σ' a' w', K σ' → (∃ ρ, RelH Γ H ρ σ' a' w') → Q .normal a' w')
    {nodes : List Bool → Bool} {st : List Bool → SS} (hK : ∀ l, allL l = true → K (st l)) (hn : ∀ l, nodes l = true → edgesOk P tab ops.toList b nm0 pt nodes st l) :
    ∀ (m : Nat) {l : List Bool} {a : Act} {w : World} {ρ : Rho}, nodes l = true → RelH Γ H ρ (st l) a w → (b = true → PtW ρ0 pt w0 w) → cntF l ≤ m →
      wpAnyH P .any ops Q (fun w' => (∀ x o, H x = some o → w'.heap[x]? = some o) ∧ (b = true → PtW ρ0 pt w0 w')) m l.toArray a w := by
  have hall : ∀ {l : List Bool}, allL l = true → Region.ready .any ops l.toArray = [] := fun {l} h => by
    refine List.eq_nil_iff_forall_not_mem.2 fun i hi => ?_
    obtain ⟨h1, _⟩ := mem_readyA.1 hi
    have := allL_eq h _ (List.mem_of_getElem? (getD_false.1 h1))
    cases this
  intro m
  induction m using Nat.strongRecOn with
  | ind m ih =>
    intro l a w ρ hl r hk hc
    cases hal : allL l with
    | true => exact wpAnyH_done (hall hal) (hQ _ _ _ (hK l hal) ⟨ρ, r⟩) _
    | false =>
      have h := hn l hl
      unfold edgesOk at h
      rw [hal] at h
      simp only at h
      split at h
      · cases h
      · rename_i r0 rs he
        have hne : Region.ready .any ops l.toArray ≠ [] := by
          obtain ⟨i0, o0⟩ := r0
          obtain ⟨j, hj, h1, h2, h3⟩ := readyL_get (i := i0) (o := o0) (by rw [he]; exact List.mem_cons_self)
          rw [Nat.zero_add] at hj
          subst hj
          intro h0
          have : i0 ∈ Region.ready .any ops l.toArray := mem_readyA.2 ⟨getD_false.2 h2, o0, h1, h3⟩
          rw [h0] at this; cases this
        obtain ⟨m, rfl⟩ : ∃ m', m = m' + 1 := by
          cases m with
          | zero =>
            have := cntF_zero (Nat.le_zero.1 hc)
            rw [this] at hal; cases hal
          | succ m => exact ⟨m, rfl⟩
        refine wpAnyH_all rfl hne fun i hi => ?_
        obtain ⟨h1, o, h2, h3⟩ := mem_readyA.1 hi
        have hmem := readyL_mem (l0 := l) (k := 0) h2 (getD_false.1 h1) h3
        rw [Nat.zero_add, he] at hmem
        have h := allO_get h _ hmem
        have ho : ops[i]? = some o := by rw [← Array.getElem?_toList]; exact h2
        have hcs := cntF_set (getD_false.1 h1)
        have next : ∀ (σ' : SS) (a' : Act) (w' : World) (ρ' : Rho), closeD P tab ops.toList b pt (cntF l) (setL l i) σ' (fun l' σ'' => match nodes l' with | true => σ'' = st l' | false => False) → RelH Γ H ρ' σ' a' w' → (b = true → PtW ρ0 pt w0 w') →
            wpAnyH P .any ops Q (fun w' => (∀ x o, H x = some o → w'.heap[x]? = some o) ∧ (b = true → PtW ρ0 pt w0 w')) m (l.toArray.setIfInBounds i true) a' w' := fun σ' a' w' ρ' hc' r' hk' => by
          have := closeD_ok hT hfree hhd hpt hpan (cntF l) (m := m) hc' r' hk' (by omega) (fun m' l' σ' a' w' ρ' hm hJ r' hk' hcc => by
            split at hJ
            · rename_i hmn
              subst hJ
              exact ih m' (by omega) hmn r' hk' hcc
            · cases hJ)
          rw [setL_eq, ← List.setIfInBounds_toArray] at this
          exact this
        simp only at h
        split at h
        · rename_i hok
          cases b with
          | false =>
            refine vcG_ok hT (fun _ => hw0 rfl) ho h r fun σ' a' w' hK' hr => ?_
            obtain ⟨⟨ρ', r'⟩, _⟩ := hr
            exact ⟨⟨r'.b.hh, fun hb => by cases hb⟩, next _ _ _ _ hK' r' (fun hb => by cases hb)⟩
          | true =>
            refine vcG_pt hT ho (by simpa using hok) h r (hhd rfl) (hhd2 rfl) hpt (fun k hk' x hx => ⟨_, by rw [hk rfl k hk' x hx]; exact Array.getElem?_eq_getElem (hlt k (hpt k hk') x hx)⟩) hdj hbx fun σ' a' w' hK' hr hptw => ?_
            obtain ⟨ρ', r'⟩ := hr
            have hk' : true = true → PtW ρ0 pt w0 w' := fun _ k hk0 x hx => by rw [hptw k hk0 x hx, hk rfl k hk0 x hx]
            exact ⟨⟨r'.b.hh, hk'⟩, next _ _ _ _ hK' r' hk'⟩
        · cases h
theorem vcTabD_ok {ops : Array Oper} {b : Bool} {nm0 pt : List Nat} {Q : Exit → Act → World → Prop} {w0 : World} {ρ0 : Rho} {K : SS → Prop} (hfree : freeAll ops = true)
    (hw0 : b = false → Γ.hd = []) (hhd : b = true → ∀ k ∈ nm0, (k, ρ0 k) ∈ Γ.hd) (hhd2 : b = true → ∀ p ∈ Γ.hd, p.1 ∈ nm0) (hpt : ∀ k ∈ pt, k ∈ nm0) (hlt : ∀ k ∈ nm0, ∀ x, 0 < (ρ0 k).2 x → x < w0.heap.size) (hdj : ∀ k ∈ nm0, ∀ j ∈ nm0, k ≠ j → ∀ x, (ρ0 k).2 x + (ρ0 j).2 x ≤ 1)
    (hbx : ∀ k ∈ pt, ∀ b, (ρ0 k).1 = .pointer (some ⟨b, 0, none⟩) → (ρ0 k).2 = one b ∨ ∀ x, (ρ0 k).2 x = 0) (hpan : ∀ c a w, ¬ Q (.panic c) a w) (hQ : ∀ σ' a' w', K σ' → (∃ ρ, RelH Γ H ρ σ' a' w') → Q .normal a' w')
    {n : Nat} {l : List Bool} {σ : SS} {a : Act} {w : World} {ρ : Rho} (hl : allL l = false) (h : vcTabD P tab ops.toList b nm0 pt n l σ K) (r : RelH Γ H ρ σ a w) (hk : b = true → PtW ρ0 pt w0 w) :
      wpAnyH P .any ops Q (fun w' => (∀ x o, H x = some o → w'.heap[x]? = some o) ∧ (b = true → PtW ρ0 pt w0 w')) n l.toArray a w := by
  have r0 : RelH { Γ with hd := [] } H ρ σ a w := ⟨r.b, r.e, r.d, r.n, (fun p hp => by cases hp), r.hm⟩
  obtain ⟨rows, σE, hk1, hb, ht⟩ := path_ex (Γ := { Γ with hd := [] }) hT rfl n h r0
  simp only [Bool.and_eq_true] at hb
  obtain ⟨hb1, hb2, hb3⟩ := hb
  have e0 : stAt rows σ σE l = σ := by
    unfold stAt
    rw [hl]
    exact stOf_out hb3
  refine tab_ok hT hfree hw0 hhd hhd2 hpt hlt hdj hbx hpan hQ (nodes := inN rows l) (st := stAt rows σ σE) (fun l' hl' => ?_) (fun l' hl' => nodesP_get ht hl') n hb1 (by rw [e0]; exact r) hk (Nat.le_of_ble_eq_true hb2)
  unfold stAt
  rw [hl']
  exact hk1
theorem vcDrawF_ok {ops : Array Oper} {b : Bool} {nm0 pt : List Nat} {Q : Exit → Act → World → Prop} {w0 : World} {ρ0 : Rho} {K : SS → Prop} (hfree : freeAll ops = true)
    (hw0 : b = false → Γ.hd = []) (hhd : b = true → ∀ k ∈ nm0, (k, ρ0 k) ∈ Γ.hd) (hhd2 : b = true → ∀ p ∈ Γ.hd, p.1 ∈ nm0) (hpt : ∀ k ∈ pt, k ∈ nm0) (hlt : ∀ k ∈ nm0, ∀ x, 0 < (ρ0 k).2 x → x < w0.heap.size) (hdj : ∀ k ∈ nm0, ∀ j ∈ nm0, k ≠ j → ∀ x, (ρ0 k).2 x + (ρ0 j).2 x ≤ 1)
    (hbx : ∀ k ∈ pt, ∀ b, (ρ0 k).1 = .pointer (some ⟨b, 0, none⟩) → (ρ0 k).2 = one b ∨ ∀ x, (ρ0 k).2 x = 0) (hpan : ∀ c a w, ¬ Q (.panic c) a w) (hQ : ∀ σ' a' w', K σ' → (∃ ρ, RelH Γ H ρ σ' a' w') → Q .normal a' w') :
    ∀ (n : Nat) {l : List Bool} {σ : SS} {a : Act} {w : World} {ρ : Rho}, vcDrawF P tab ops.toList b nm0 pt n l σ K → RelH Γ H ρ σ a w → (b = true → PtW ρ0 pt w0 w) →
      wpAnyH P .any ops Q (fun w' => (∀ x o, H x = some o → w'.heap[x]? = some o) ∧ (b = true → PtW ρ0 pt w0 w')) n l.toArray a w := by
  have hsel : Region.noSelect ops = true := by
    simp only [freeAll, Bool.and_eq_true] at hfree
    exact hfree.2
  have hall : ∀ {l : List Bool}, allL l = true → Region.ready .any ops l.toArray = [] := fun {l} h => by
    refine List.eq_nil_iff_forall_not_mem.2 fun i hi => ?_
    obtain ⟨h1, _⟩ := mem_readyA.1 hi
    have := allL_eq h _ (List.mem_of_getElem? (getD_false.1 h1))
    cases this
  intro n
  induction n with
  | zero =>
    intro l σ a w ρ h r hk
    unfold vcDrawF at h
    split at h
    · rename_i he
      exact ⟨hall he, hQ _ _ _ h ⟨ρ, r⟩⟩
    · cases h
  | succ n ih =>
    intro l σ a w ρ h r hk
    unfold vcDrawF at h
    split at h
    · rename_i he
      exact wpAnyH_done (hall he) (hQ _ _ _ h ⟨ρ, r⟩) _
    · split at h
      · rename_i i o hp
        obtain ⟨j, hj, h1, h2, h3, hd⟩ := scanJ_ok hp
        rw [Nat.zero_add] at hj
        subst hj
        have hi : i ∈ Region.ready .any ops l.toArray := mem_readyA.2 ⟨getD_false.2 h2, o, h1, h3⟩
        have ho : ops[i]? = some o := by rw [← Array.getElem?_toList]; exact h1
        obtain ⟨v, σ', hy, hK, r'⟩ := vcG_det hT h hd r (S := fun w' => (∀ x o, H x = some o → w'.heap[x]? = some o) ∧ (b = true → PtW ρ0 pt w0 w')) fun w' hw' rd hrd => by
          refine ⟨hw'.1, fun k hk' x hx => ?_⟩
          cases b with
          | false => simp only [rdOk, List.isEmpty_iff] at hrd; subst hrd; cases hk'
          | true =>
            have h1 : k ∈ pt := by
              simp only [rdOk, List.all_eq_true] at hrd
              simpa using hrd k hk'
            have h2 := (r.hd _ (hhd rfl k (hpt k h1))).2.2 x
            have h0 : 0 < (ρ0 k).2 x := by simp only at h2; omega
            rw [hw'.2 rfl k h1 x h0, hk rfl k h1 x h0]
        have hnext := ih hK r' hk
        rw [setL_eq, ← List.setIfInBounds_toArray] at hnext
        exact wpAnyH_take ho hsel (ready_free hfree hi) (by simpa using hi) (fun c a w hq => (hpan _ _ _ hq).elim) hy ⟨r.b.hh, hk⟩ hnext
      · split at h
        · cases h
        · rename_i r0 rs he
          have hne : Region.ready .any ops l.toArray ≠ [] := by
            obtain ⟨i0, o0⟩ := r0
            obtain ⟨j, hj, h1, h2, h3⟩ := readyL_get (i := i0) (o := o0) (by rw [he]; exact List.mem_cons_self)
            rw [Nat.zero_add] at hj
            subst hj
            intro h0
            have : i0 ∈ Region.ready .any ops l.toArray := mem_readyA.2 ⟨getD_false.2 h2, o0, h1, h3⟩
            rw [h0] at this; cases this
          split at h
          · exact vcTabD_ok hT hfree hw0 hhd hhd2 hpt hlt hdj hbx hpan hQ (by assumption) h r hk
          refine wpAnyH_all rfl hne fun i hi => ?_
          obtain ⟨h1, o, h2, h3⟩ := mem_readyA.1 hi
          have hmem := readyL_mem (l0 := l) (k := 0) h2 (getD_false.1 h1) h3
          rw [Nat.zero_add, he] at hmem
          have h := allO_get h _ hmem
          have ho : ops[i]? = some o := by rw [← Array.getElem?_toList]; exact h2
          simp only at h
          split at h
          · rename_i hok
            cases b with
            | false =>
              refine vcG_ok hT (fun _ => hw0 rfl) ho h r fun σ' a' w' hK hr => ?_
              obtain ⟨⟨ρ', r'⟩, _⟩ := hr
              have hnext := ih hK r' (fun hb => by cases hb)
              rw [setL_eq, ← List.setIfInBounds_toArray] at hnext
              exact ⟨⟨r'.b.hh, fun hb => by cases hb⟩, hnext⟩
            | true =>
              refine vcG_pt hT ho (by simpa using hok) h r (hhd rfl) (hhd2 rfl) hpt (fun k hk' x hx => ⟨_, by rw [hk rfl k hk' x hx]; exact Array.getElem?_eq_getElem (hlt k (hpt k hk') x hx)⟩) hdj hbx fun σ' a' w' hK hr hptw => ?_
              obtain ⟨ρ', r'⟩ := hr
              have hk' : true = true → PtW ρ0 pt w0 w' := fun _ k hk0 x hx => by rw [hptw k hk0 x hx, hk rfl k hk0 x hx]
              have hnext := ih hK r' hk'
              rw [setL_eq, ← List.setIfInBounds_toArray] at hnext
              exact ⟨⟨r'.b.hh, hk'⟩, hnext⟩
          · cases h
theorem vcDrawF_region {id : Nat} {ops : Array Oper} {σ : SS} {a : Act} {w : World} {K : Exit → SS → Prop} {Q : Exit → Act → World → Prop} (hd0 : Γ.hd = []) (hfree : freeAll ops = true)
    (h : vcDrawRF P tab ops σ fun σ' => K .normal σ')
    (r : Rel Γ σ a w) (hQ : ∀ σ' a' w', K .normal σ' → Rel Γ σ' a' w' → Q .normal a' w') : (Code.region id ops true).wp P Q a w := by
  have key : ∀ (b : Bool) (nm0 pt : List Nat), (∀ k ∈ nm0, k ∈ σ.blk.map (·.1)) → (∀ k ∈ pt, k ∈ nm0) → vcDrawF P tab ops.toList b nm0 pt ops.toList.length (falseL ops.toList) σ (fun σ' => K .normal σ') → (Code.region id ops true).wp P Q a w := by
    intro b nm0 pt hnm hpt h
    obtain ⟨H, ρ, r⟩ := r
    let Γ' : Ctx := { Γ with hd := if b = true then nm0.map fun k => (k, ρ k) else [] }
    have r' : RelH Γ' H ρ σ a { w with drawn := w.drawn + 1 } := by
      refine ⟨r.b, r.e, r.d, r.n.trans (Ext.of (Nat.le_refl _) rfl rfl fun _ => rfl), fun p hp => ?_, r.hm⟩
      simp only [Γ'] at hp
      split at hp
      · obtain ⟨q, hq, rfl⟩ := List.mem_map.1 hp
        exact ⟨hnm q hq, rfl, fun x => Nat.le_refl _⟩
      · cases hp
    have hls : (falseL ops.toList).toArray = Array.replicate ops.size false := by rw [falseL_eq]; simp
    have hsz : ops.toList.length = ops.size := by simp
    refine Code.wp_mono (Q := fun e a w => match e with | .normal => Q .normal a w | _ => False) (fun e a w hq => by cases e <;> first | exact hq | exact hq.elim) ?_
    have main := vcDrawF_ok (Γ := Γ') (H := H) (ρ0 := ρ) (w0 := { w with drawn := w.drawn + 1 }) (b := b) (nm0 := nm0) (pt := pt) (K := fun σ' => K .normal σ') (Q := fun e a w => match e with | .normal => Q .normal a w | _ => False) hT hfree (fun hb => by simp only [Γ', hb]; rfl) (fun hb k hk => by
        simp only [Γ', hb, if_true]
        exact List.mem_map.2 ⟨k, hk, rfl⟩) (fun hb p hp => by
        simp only [Γ', hb, if_true] at hp
        obtain ⟨q, hq, rfl⟩ := List.mem_map.1 hp
        exact hq) hpt (fun k hk x hx => by
        obtain ⟨q, hq, rfl⟩ := List.mem_map.1 (hnm k hk)
        exact r'.lt (Nat.lt_of_lt_of_le hx (tot_le hq x))) (fun k hk j hj hne x => Nat.le_trans (tot_two (hnm k hk) (hnm j hj) (Ne.symm hne) x) (r.b.sum x)) (fun k hk b hb => by
        obtain ⟨q, hq, rfl⟩ := List.mem_map.1 (hnm k (hpt k hk))
        exact box_one (r.b.blk _ _ hq) hb) (fun c a w hq => hq) (fun σ' a' w' hK hr => by
        obtain ⟨ρ', r2⟩ := hr
        exact hQ _ _ _ hK ⟨H, ρ', r2.b, r2.e, r2.d, r2.n, by rw [hd0]; (intro p hp; cases hp), r2.hm⟩) _ h r' (fun _ _ _ _ _ => rfl)
    rw [hls, hsz] at main
    exact wp_region_held (tabB_mix hT) main
  unfold vcDrawRF at h
  split at h
  · rename_i nw ws _
    cases nw with
    | true => exact key true _ _ (fun k hk => hk) (fun k hk => without_mem (onlyBox_mem hk)) h
    | false => exact key true _ _ (fun k hk => hk) (fun k hk => without_mem hk) h
  · split at h
    · exact key true _ _ (fun k hk => without_mem (onlyBox_mem hk)) (fun k hk => hk) h
    · exact key false _ [] (fun k hk => hk) (fun k hk => by cases hk) h
end
end Go.Proofs.Ytlochjpjlhkjaaa

