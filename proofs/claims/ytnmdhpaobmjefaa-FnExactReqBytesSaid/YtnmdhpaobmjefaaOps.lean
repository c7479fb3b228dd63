/-
  The operations that make lists or write them: what is to be shown, and that it is enough. No conditions.
-/
import Derived.Test.YtnmdhpaobmjefaaElt
import Derived.Laws.BytesArg
namespace Go.Proofs.Ytnmdhpaobmjefaa
open Go

/-- names are used up for a new list -/
def SS.eat (σ : SS) (ks : List Nat) (k : Nat) (B : Blk) : SS := { σ with blk := insB (killL σ.blk ks) k B }

/-- what is to be shown of an operation that makes memory or writes it -/
def vcLst (tab : Tab) (o : Oper) (σ : SS) (K : SS → Prop) : Prop :=
  match o.op, o.dst with
  | .buildSlice T n parts, some d =>
    match tget tab T, getB σ.blk (8 * d) with
    | some (.sl E _ _), none =>
      match mkEs σ.blk E (parts.toList.map fun p => σ.ev p.2) with
      | some (xs, ks) => if dense 0 parts.toList = true ∧ parts.toList.length = n ∧ n * E.sz ≤ 16777216 ∧ nodupB ks = true then K ((σ.eat ks (8 * d) (.own E xs false)).put (some d) (.c (.own (8 * d)))) else False
      | none => False
    | _, _ => False
  | .call c, some d =>
    match c.callee, c.args.toList, c.argTypes.toList with
    | .builtin .append, [x, y], [T, T2] =>
      match tget tab T, tget tab T2, getB σ.blk (8 * d) with
      | some (.sl E _ bytes), some (.sl _ _ _), none =>
        match listV σ.blk E (σ.ev x), srcL σ.blk E (σ.ev y) with
        | some (xs, k1), some (ys, k2) =>
          if nodupB (k1 ++ k2) = true ∧ 0 < bytes then
            Ob (fun _ => ((xs ()).length + (ys ()).length) * bytes ≤ 140737488355328) fun _ => K ((σ.eat (k1 ++ k2) (8 * d) (.own E (fun _ => xs () ++ ys ()) false)).put (some d) (.c (.own (8 * d))))
          else False
        | _, _ => False
      | _, _, _ => False
    | _, _, _ => False
  | .makeSlice T l c, some d =>
    match tget tab T, getB σ.blk (8 * d), σ.ev l, σ.ev c with
    | some (.sl E _ bytes), none, .c (.lf (.int _ i)), .c (.lf (.int _ j)) =>
      if 0 < bytes then
        Ob (fun _ => 0 ≤ i () ∧ i () ≤ j () ∧ j () * (bytes : Int) ≤ 140737488355328) fun _ => K ((σ.eat [] (8 * d) (.own E (fun _ => List.replicate (i ()).toNat E.dflt) false)).put (some d) (.c (.own (8 * d))))
      else False
    | _, _, _, _ => False
  | .slice T x lo hi none, some d =>
    match tget tab T, getB σ.blk (8 * d), σ.ev x with
    | some (.sl E _ _), none, .c (.own k) =>
      match listV σ.blk E (.c (.own k)) with
      | some (xs, ks) =>
        match boundV (lo.map σ.ev) fun _ => 0, boundV (hi.map σ.ev) fun _ => ((xs ()).length : Int) with
        | some l, some h => Ob (fun _ => 0 ≤ l () ∧ l () ≤ h () ∧ h () ≤ (xs ()).length) fun _ =>
            K ((σ.eat ks (8 * d) (.own E (fun _ => ((xs ()).take (h ()).toNat).drop (l ()).toNat) false)).put (some d) (.c (.own (8 * d))))
        | _, _ => False
      | none => False
    | _, _, _ => False
  | .convert S D x, some d =>
    match tget tab S, tget tab D, σ.ev x with
    | some (.sl .byte e _), some .ss, .c (.own k) =>
      match getB σ.blk k, tget tab e with
      | some (.own E xs _), some (.it .u8) => (match castL .byte E xs with | some ys => K (σ.put (some d) (.c (.lf (.str ys)))) | none => False)
      | _, _ => False
    | _, _, _ => False
  | .store T p v, none =>
    match σ.ev p with
    | .c (.oel k E i off) => vcStoreE tab σ K T k E i off (σ.ev v)
    | _ => vcMem tab o σ K
  | .load T x, some d =>
    match σ.ev x with
    | .c (.oel k E i off) => if tyL tab T = true then vcLoadE tab σ K T d k E i off else False
    | _ => False
  | _, _ => vcMem tab o σ K

section
variable {P : Program} {tab : Tab} (hT : tabB P tab = true) {Γ : Ctx} {H : Hp} {ρ : Rho} {σ : SS} {a : Act} {w : World} (r : RelH Γ H ρ σ a w)
include hT r

omit hT in
/-- a new list, and the slot that holds it -/
theorem eat_put {ks : List Nat} (hn : nodupB ks = true) (hu : unlent σ.blk ks = true) {d : Nat} (hk : getB σ.blk (8 * d) = none) {E : ETy} {xs : Unit → List E.α} {v : Value} {p : Nat → Nat} {w' : World}
    (hh : ∀ x, x < w.heap.size → sumK ρ ks x = 0 → w'.heap[x]? = w.heap[x]?) (hsz : Ext w w') (hown : OwnL w'.heap (.list E xs) v p)
    (hp : ∀ x, x < w.heap.size → p x ≤ sumK ρ ks x) (hp' : ∀ x, w.heap.size ≤ x → p x ≤ 1) :
    ∃ ρ, RelH Γ H ρ ((σ.eat ks (8 * d) (.own E xs false)).put (some d) (.c (.own (8 * d)))) (a.put (some d) v) w' := by
  obtain ⟨ρ', r1, h1, _⟩ := r.eat hn hu hk (p := (v, p)) hh hsz hown hown.one hp hp'
  exact ⟨ρ', RelH.put r1 (v := .c (.own (8 * d))) ⟨dom_insB.2 (.inl rfl), h1.symm⟩ (some d)⟩

omit hT r in
theorem list_eta {E : ETy} {xs : Unit → List E.α} : (fun _ => xs ()) = xs := rfl

omit hT in
theorem listV_ok {E : ETy} {v : V} {xs : Unit → List E.α} {ks : List Nat} {u : Value} (h : listV σ.blk E v = some (xs, ks)) (hv : RV H ρ (dom σ.blk) v u) :
    unlent σ.blk ks = true ∧ OwnL w.heap (.list E xs) u (sumK ρ ks) := by
  unfold listV at h
  split at h
  · cases h
    simp only [RV, RC] at hv
    subst hv
    exact ⟨rfl, OwnL.nil rfl⟩
  · rename_i k
    split at h
    · rename_i E' xs' hg
      split at h
      · rename_i ys hc
        cases h
        obtain ⟨_, rfl⟩ := hv
        have := own_of r hg
        rw [castL_ok hc] at this
        refine ⟨by simp [unlent, hg], ?_⟩
        have e : sumK ρ [k] = (ρ k).2 := by funext x; simp [sumK]
        rw [e]; exact this
      · cases h
    · cases h
  · cases h

omit hT r in
theorem own_news {E : ETy} {xs : Unit → List E.α} {u : Value} {p : Nat → Nat} (ho : OwnL w.heap (.list E xs) u p) : ∃ news S, News w E (xs ()) u news S ∧ ∀ x, segN (xs ()).length E.sz S x ≤ p x := by
  rcases ho.seg with ⟨rfl, h0, rfl⟩ | ⟨b, off, c, vs, e, fz, S, rfl, rfl, hb, hf, hl, hm, hoff, hs⟩
  · rw [h0]; exact ⟨[], _, News.nil none 0, fun x => by simp [segN, sumN]⟩
  · obtain ⟨news, hN⟩ := News.of (c := c) hb (by have := Nat.mul_le_mul_right E.sz hl; omega) hs
    exact ⟨news, S, hN, fun x => by simp only [cnt, segN]; exact Nat.le_add_left _ _⟩

omit hT in
theorem srcL_ok {E : ETy} {v : V} {xs : Unit → List E.α} {ks : List Nat} {u : Value} (h : srcL σ.blk E v = some (xs, ks)) (hv : RV H ρ (dom σ.blk) v u) :
    unlent σ.blk ks = true ∧ ∃ news S, News w E (xs ()) u news S ∧ ∀ x, segN (xs ()).length E.sz S x ≤ sumK ρ ks x := by
  unfold srcL at h
  split at h
  · rename_i E' t
    split at h
    · rename_i hf
      split at h
      · rename_i ys hc
        cases h
        have hr : RL H (.list E' t) u := hv
        rw [castL_ok hc] at hr
        refine ⟨rfl, ?_⟩
        rcases hr.seg (h := w.heap) r.b.hh hf with ⟨a, c, rfl, h0⟩ | ⟨b, off, c, vs, e, fz, rfl, hb, ho, hm, hs⟩
        · rw [h0]; exact ⟨[], _, News.nil a c, fun x => by simp [segN, sumN]⟩
        · obtain ⟨news, hN⟩ := News.of (c := c) hb ho hs
          refine ⟨news, _, hN, fun x => ?_⟩
          have : segN (xs ()).length E.sz (fun _ _ _ => 0) x = 0 := sumN_zero fun i _ => sumN_zero fun j _ => rfl
          omega
      · cases h
    · cases h
  · rename_i k
    split at h
    · rename_i hf
      split at h
      · rename_i E' xs' l hg
        split at h
        · rename_i ys hc
          cases h
          obtain ⟨_, rfl⟩ := hv
          have ho := own_of r hg
          rw [castL_ok hc] at ho
          obtain ⟨news, S, hN, _⟩ := own_news ho
          refine ⟨rfl, news, fun _ _ _ => 0, ⟨hN.len, hN.one, hN.seg.flat hf, hN.val⟩, fun x => ?_⟩
          have : segN (xs ()).length E.sz (fun _ _ _ => 0) x = 0 := sumN_zero fun i _ => sumN_zero fun j _ => rfl
          omega
        · cases h
      · cases h
    · obtain ⟨h1, h2⟩ := listV_ok r h hv
      exact ⟨h1, own_news h2⟩
  · obtain ⟨h1, h2⟩ := listV_ok r h hv
    exact ⟨h1, own_news h2⟩

omit r in
theorem sl_info {T : TypeId} {E : ETy} {elem bytes : Nat} (h : tget tab T = some (.sl E elem bytes)) :
    P.underlying T = some (.slice elem) ∧ ∃ i z, P.info? elem = some i ∧ i.size = E.sz ∧ i.bytes = bytes ∧ i.zero = some z ∧ Z.oks (zOf E) z.cells.toList = true ∧ z.cells.size = E.sz := by
  obtain ⟨h1, i, z, h2, h3, h4, h5, h6⟩ := ti_sl (tget_ok hT h)
  refine ⟨h1, i, z, h2, h3, h4, h5, h6, ?_⟩
  have := Z.oks_len h6
  rw [zOf_len] at this
  simpa using this

theorem vcLst_ok {o : Oper} {K : SS → Prop} {Q : Exit → Act → World → Prop} (hw : isWr tab o = true → Γ.hd = []) (h : vcLst tab o σ K) :
    o.wp P a w (fun a' w' => ∃ σ', K σ' ∧ RelK Γ H (isWr tab o) w σ' a' w') Q := by
  have ev := ev_ok r.e
  unfold vcLst at h
  split at h
  · -- a literal
    rename_i T n parts d hop hd
    split at h
    · rename_i E elem bytes hti hg
      split at h
      · rename_i xs ks hm
        split at h
        · rename_i hc
          obtain ⟨hc1, hc2, hc3, hc4⟩ := hc
          obtain ⟨hU, i, z, hi, hsz, hby, hz, hzo, hzs⟩ := sl_info hT hti
          obtain ⟨g1, g2, g3, g4, S, g5, g6⟩ := mkEs_ok r hm (us := parts.toList.map fun p => a.eval p.2) (by simp) fun j v u hj hj' => by
            rw [List.getElem?_map, Option.map_eq_some_iff] at hj hj'
            obtain ⟨p, h1, rfl⟩ := hj
            obtain ⟨p', h2, rfl⟩ := hj'
            rw [h1] at h2
            cases h2
            exact ev _
          have hlen : (parts.toList.map fun p => a.eval p.2).length = n := by simpa using hc2
          generalize hus : (parts.toList.map fun p => a.eval p.2) = us at g1 g2 g3 g5 g6 hlen
          generalize hcl : (us.flatMap fun u => u.cells.toList) = cl at g3 g5
          have hrun : (Instr.buildSlice T n (parts.map fun p => (p.1, a.eval p.2))).run P w = .ok (.slice (some ⟨w.heap.size, 0, none⟩) n n) (w.alloc (.cells cl.toArray elem)) := by
            have hpl : (parts.map fun p => (p.1, a.eval p.2)).toList = (us.zipIdx 0).map fun x => (x.2, x.1) := by
              rw [Array.toList_map, dense_ok (f := a.eval) hc1, hus]
            rcases Nat.eq_zero_or_pos n with h0 | h0
            · subst h0
              have : us = [] := List.length_eq_zero_iff.1 hlen
              subst this
              simp only [List.flatMap_nil] at hcl
              subst hcl
              have hp0 : parts = #[] := Array.toList_inj.1 (List.length_eq_zero_iff.1 hc2)
              subst hp0
              simp [Instr.buildSlice, run_underlying hU, sizeOf, typeInfo, hi, Instr.fill, newRow]
              have h00 : Array.map (fun _ : Nat => (default : Value)) (Array.range 0) = #[] := by simp [Array.range]
              rw [h00]
            · refine run_buildSlice w T elem n _ _ i z hU hi hz (by rw [hsz]; omega) (by rw [hsz]; have := Nat.mul_pos h0 (sz_pos E); omega) ?_
              rw [hpl, hsz, ← hcl]
              refine Great.fill_whole (sz_pos E) us _ g2 ?_
              simp [hlen]
          refine wp_value (v := .slice (some ⟨w.heap.size, 0, none⟩) n n) (w' := w.alloc (.cells cl.toArray elem)) ?_ ⟨_, h, ?_, fun _ => KeepW.alloc w _⟩
          · simp only [execOp, hop, Sem.run_bind, hrun, Result.andThen_ok]; rfl
          · rw [hd]
            have hown := (Seg.mono (h' := (w.alloc (.cells cl.toArray elem)).heap) (g5.cells (ds := fun q => cl.toArray.getD (0 + q) Go.undef) fun q hq => by
                rw [Nat.zero_add, Array.getD_eq_getD_getElem?, List.getElem?_toArray, List.getD_eq_getElem?_getD]) fun x hx => by
                rw [g1, g6] at hx
                have := sumK_le (ρ := ρ) ks hc4 (fun k hk => by obtain ⟨E, xs, hg⟩ := unlent_get g4 k hk; exact getB_dom hg) x
                exact alloc_old w _ x (r.lt (by omega))).own (b := w.heap.size) (c := n) (fz := (0, 0)) (alloc_new w _) (NF_zero _) (by omega) (by unfold maxL; have := Nat.le_mul_of_pos_right n (sz_pos E); omega)
                (by rw [Nat.zero_add, List.size_toArray, g3, hlen]; exact Nat.le_refl _)
            rw [g1, hlen] at hown
            refine eat_put r hc4 g4 hg (fun x hx _ => alloc_old w _ x hx) (alloc_ext w _ _) hown (fun x hx => ?_) fun x hx => ?_
            · simp only [cnt]
              rw [if_neg (Nat.ne_of_lt hx)]
              have := g6 x
              rw [hlen] at this
              simp only [segN] at this
              omega
            · have h1 := g6 x
              have h2 := sumK_le (ρ := ρ) ks hc4 (fun k hk => by obtain ⟨E, xs, hg⟩ := unlent_get g4 k hk; exact getB_dom hg) x
              have h3 := (r.none_above hx).2
              rw [hlen] at h1
              simp only [segN] at h1
              simp only [cnt]
              split <;> omega
        · cases h
      · cases h
    · cases h
  · -- append
    rename_i c d hop hd
    split at h
    · rename_i x y T T2 hcal hargs htys
      split at h
      · rename_i E elem bytes E2 elem2 bytes2 hti hti2 hg
        split at h
        · rename_i xs k1 ys k2 hx hy
          split at h
          · rename_i hc
            obtain ⟨hc1, hc2⟩ := hc
            obtain ⟨hob, hk⟩ := h
            obtain ⟨hU, i, z, hi, hsz, hby, hz, hzo, hzs⟩ := sl_info hT hti
            obtain ⟨hU2, _⟩ := sl_info hT hti2
            obtain ⟨u1, ox⟩ := listV_ok r hx (ev x)
            obtain ⟨u2, news, S2, hN, hS2⟩ := srcL_ok r hy (ev y)
            have hdd : ∀ k ∈ k1 ++ k2, dom σ.blk k := fun k hk => by obtain ⟨E, xs, hg⟩ := unlent_get (unlent_app u1 u2) k hk; exact getB_dom hg
            have hle : ∀ x, sumK ρ k1 x + sumK ρ k2 x ≤ tot ρ σ.blk x := fun x => by rw [← sumK_app]; exact sumK_le (ρ := ρ) _ hc1 hdd x
            obtain ⟨v, p, w', r1, r2, r3, r4, r5, r6⟩ := run_append (P := P) (T := T) (T2 := T2) (ty := o.type) (E := E) (xs := xs ()) (ys := ys ()) ox hN hS2 (fun x => Nat.le_trans (hle x) (r.b.sum x)) (fun x hx => r.lt (Nat.lt_of_lt_of_le hx (hle x)))
              hU hU2 hi hz hsz hzs (by omega) (by rw [hby]; exact hob)
            refine wp_value (v := v) (w' := w') ?_ ⟨_, hk, ?_, fun hw => by simp [isWr, hop, hcal] at hw⟩
            · have e1 : c.args = #[x, y] := by rw [← Array.toArray_toList (xs := c.args), hargs]
              have e2 : c.argTypes = #[T, T2] := by rw [← Array.toArray_toList (xs := c.argTypes), htys]
              obtain ⟨callee, args, argTypes⟩ := c
              simp only at hcal e1 e2
              subst hcal e1 e2
              simp [execOp, hop, resolve, invoke, builtin, r1, Result.andThen]
            · rw [hd]
              refine eat_put r hc1 (unlent_app u1 u2) hg (fun x hx h0 => ?_) r3 r2 (fun x hx => ?_) r6
              · rw [sumK_app] at h0
                exact r4 x hx (by omega)
              · rw [sumK_app]; exact r5 x hx
          · cases h
        · cases h
      · cases h
    · cases h
  · -- make
    rename_i T l c d hop hd
    split at h
    · rename_i E elem bytes kl i kc j hti hg hl hcap
      split at h
      · rename_i hb
        obtain ⟨⟨o1, o2, o3⟩, hk⟩ := h
        obtain ⟨hU, ii, z, hi, hsz, hby, hz, hzo, hzs⟩ := sl_info hT hti
        have el := ev l
        have ec := ev c
        rw [hl] at el
        rw [hcap] at ec
        obtain ⟨el, _⟩ := RL.of_int el
        obtain ⟨ec, _⟩ := RL.of_int ec
        have hjb : j () ≤ 140737488355328 := by
          have : j () * 1 ≤ j () * (bytes : Int) := Int.mul_le_mul_of_nonneg_left (by omega) (by omega)
          omega
        have hrun := run_make (P := P) w T elem ii z hU hi hz kl kc (i ()) (j ()) o1 o2 (by rw [hby, Int.mul_comm]; omega) (by omega)
        refine wp_value (v := _) (w' := _) (by simp only [execOp, hop, el, ec, Sem.run_bind, hrun, Result.andThen_ok]; rfl) ⟨_, hk, ?_, fun _ => KeepW.alloc w _⟩
        rw [hd]
        have hlen : (List.replicate (i ()).toNat E.dflt).length = (i ()).toNat := by simp
        have hseg : Seg (w.alloc (.cells (madeCells z.cells ((j ()).toNat * ii.size)) elem)).heap E (List.replicate (i ()).toNat E.dflt) (fun q => (madeCells z.cells ((j ()).toNat * ii.size)).getD (0 + q) Go.undef) fun _ _ _ => 0 := by
          rw [hsz]
          intro q x hx jj ll hj
          refine seg_zero hzo (j ()).toNat q x ?_ jj ll hj
          have := lt_of_get hx
          rw [hlen] at this
          rw [List.getElem?_replicate, if_pos this] at hx
          rw [List.getElem?_replicate, if_pos (by omega)]
          exact hx
        have hown := hseg.own (b := w.heap.size) (c := (j ()).toNat) (fz := (0, 0)) (alloc_new w _) (NF_zero _) (by rw [hlen]; omega) (by rw [hlen]; unfold maxL; omega) (by rw [size_madeCells, hsz]; omega)
        rw [hlen] at hown
        have hcnt : ∀ x, cnt w.heap.size (i ()).toNat E.sz (fun _ _ _ => 0) x = if x = w.heap.size then 1 else 0 := fun x => by
          simp only [cnt]
          rw [sumN_zero fun i _ => sumN_zero fun j _ => rfl]
          rfl
        refine eat_put r (ks := []) rfl rfl hg (fun x hx _ => alloc_old w _ x hx) (alloc_ext w _ _) hown (fun x hx => ?_) fun x hx => ?_
        · rw [hcnt, if_neg (Nat.ne_of_lt hx)]; exact Nat.zero_le _
        · rw [hcnt]; split <;> omega
      · cases h
    · cases h
  · -- a part of a list
    rename_i T x lo hi d hop hd
    split at h
    · rename_i E elem bytes k hti hg hxv
      split at h
      · rename_i xs ks hm
        split at h
        · rename_i l hh hl hhi
          obtain ⟨⟨o1, o2, o3⟩, hk⟩ := h
          obtain ⟨hU, ii, z, hin, hsz, _⟩ := sl_info hT hti
          have evx := ev x
          rw [hxv] at evx
          obtain ⟨hu, ho⟩ := listV_ok r hm evx
          have hks : ks = [k] := by
            simp only [listV] at hm
            split at hm
            · split at hm
              · cases hm; rfl
              · cases hm
            · cases hm
          subst hks
          obtain ⟨L, hL⟩ := Int.eq_ofNat_of_zero_le o1
          obtain ⟨U, hU'⟩ := Int.eq_ofNat_of_zero_le (show 0 ≤ hh () by omega)
          have e1 : (lo.map a.eval = none ∧ L = 0) ∨ ∃ k, lo.map a.eval = some (.int k (L : Int)) := by
            rcases boundV_ok hl ev with ⟨h1, h2⟩ | ⟨k, h1⟩
            · refine .inl ⟨h1, ?_⟩; rw [h2] at hL; simp at hL; omega
            · exact .inr ⟨k, by rw [h1, hL]⟩
          have e2 : (hi.map a.eval = none ∧ U = (xs ()).length) ∨ ∃ k, hi.map a.eval = some (.int k (U : Int)) := by
            rcases boundV_ok hhi ev with ⟨h1, h2⟩ | ⟨k, h1⟩
            · refine .inl ⟨h1, ?_⟩; rw [h2] at hU'; simp at hU'; omega
            · exact .inr ⟨k, by rw [h1, hU']⟩
          have hLU : L ≤ U := by omega
          have hUn : U ≤ (xs ()).length := by omega
          have eL : (l ()).toNat = L := by omega
          have eU : (hh ()).toNat = U := by omega
          have hlen : (((xs ()).take U).drop L).length = U - L := by simp; omega
          have hrun : ∀ (bb : Option Addr) (cc : Nat), (xs ()).length ≤ cc → a.eval x = .slice bb (xs ()).length cc → (execOp a.eval o).run P w =
              .ok (.value (.slice (if cc = L then bb else bb.map (·.add (L * E.sz))) (U - L) (cc - L))) w := fun bb cc hcc hv => by
            simp only [execOp, hop, Option.map_none, hv, Instr.sliceAt, Sem.run_bind, run_und w hU, Result.andThen_ok, Instr.slice]
            rw [run_bounds true w e1 e2 hLU (by omega)]
            simp only [Result.andThen_ok, run_szOf w hin, hsz, Sem.run_pure]
          rcases ho.seg with ⟨hv, h0, hp⟩ | ⟨b, off, c, vs, e, fz, S, hv, hp, hb, hf, hlc, hmx, hoff, hs⟩
          · have hx0 : (xs ()).length = 0 := by rw [h0]; rfl
            refine wp_value (hrun none 0 (by omega) (by rw [hv, hx0])) ⟨_, hk, ?_, fun _ => KeepW.refl w⟩
            rw [hd]
            have : (if 0 = L then none else Option.map (fun x : Addr => x.add (L * E.sz)) none) = none := by split <;> rfl
            rw [this, show U - L = 0 by omega, Nat.zero_sub]
            exact eat_put r rfl hu hg (fun _ _ _ => rfl) (Ext.refl _) (OwnL.nil (by rw [eL, eU, h0]; simp)) (fun _ _ => Nat.zero_le _) fun _ _ => Nat.zero_le _
          · refine wp_value (hrun _ c hlc hv) ⟨_, hk, ?_, fun _ => KeepW.refl w⟩
            rw [hd]
            have hcb : ∀ x, segN (U - L) E.sz (fun i => S (L + i)) x ≤ segN (xs ()).length E.sz S x := fun x => by
              have h1 : segN (xs ()).length E.sz S x = segN L E.sz S x + segN ((xs ()).length - L) E.sz (fun i => S (L + i)) x := by
                have : (xs ()).length = L + ((xs ()).length - L) := by omega
                rw [this]
                unfold segN
                rw [sumN_app]
                simp
              have h2 : segN ((xs ()).length - L) E.sz (fun i => S (L + i)) x = segN (U - L) E.sz (fun i => S (L + i)) x + segN ((xs ()).length - U) E.sz (fun i => S (L + (U - L + i))) x := by
                have : (xs ()).length - L = (U - L) + ((xs ()).length - U) := by omega
                rw [this]
                unfold segN
                rw [sumN_app]
              omega
            have hseg : ∀ o', o' = off + L * E.sz → Seg w.heap E (((xs ()).take (hh ()).toNat).drop (l ()).toNat) (fun q => vs.getD (o' + q) Go.undef) fun i => S (L + i) := by
              intro o' ho' i y hy j l' hj
              subst ho'
              rw [eL, eU, List.getElem?_drop, List.getElem?_take] at hy
              split at hy
              · have := hs (L + i) y hy j l' hj
                simp only [Nat.add_mul] at this
                simp only
                rw [show off + L * E.sz + (i * E.sz + j) = off + (L * E.sz + i * E.sz + j) by omega]
                exact this
              · cases hy
            have hcc : L * E.sz ≤ c * E.sz := Nat.mul_le_mul_right _ (by omega)
            have fin : ∀ (o' : Nat) (p' : Nat → Nat), OwnL w.heap (.list E fun _ => ((xs ()).take (hh ()).toNat).drop (l ()).toNat) (.slice (some ⟨b, o', none⟩) (U - L) (c - L)) p' → (∀ x, p' x ≤ cnt b (xs ()).length E.sz S x) →
                ∃ ρ, RelH Γ H ρ ((σ.eat [k] (8 * d) (.own E (fun _ => ((xs ()).take (hh ()).toNat).drop (l ()).toNat) false)).put (some d) (.c (.own (8 * d)))) (a.put (some d) (.slice (some ⟨b, o', none⟩) (U - L) (c - L))) w := fun o' p' h1 h2 => by
              have hq : ∀ x, p' x ≤ sumK ρ [k] x := fun x => by rw [hp]; exact h2 x
              refine eat_put r rfl hu hg (fun _ _ _ => rfl) (Ext.refl _) h1 (fun x _ => hq x) fun x _ => ?_
              have h3 := sumK_le (ρ := ρ) [k] rfl (fun k' hk' => by obtain ⟨E, xs, hg⟩ := unlent_get hu k' hk'; exact getB_dom hg) x
              have h4 := r.b.sum x
              have h5 := hq x
              omega
            have hcnt : ∀ x, cnt b (U - L) E.sz (fun i => S (L + i)) x ≤ cnt b (xs ()).length E.sz S x := fun x => by
              have := hcb x
              simp only [segN] at this
              simp only [cnt]; omega
            by_cases hcl : c = L
            · rw [if_pos hcl]
              have hz0 : ((xs ()).take (hh ()).toNat).drop (l ()).toNat = [] := List.length_eq_zero_iff.1 (by rw [eL, eU, hlen]; omega)
              have hU0 : U - L = 0 := by omega
              refine fin off (cnt b 0 E.sz fun i => S (L + i)) ?_ fun x => ?_
              · have h7 := Seg.own (h := w.heap) (E := E) (xs := []) (S := fun i => S (L + i)) (b := b) (off := off) (c := c - L) (vs := vs) (e := e) (fz := fz) Seg.nil hb hf (by simp) (by simp) (by
                  have : (c - L) * E.sz ≤ c * E.sz := Nat.mul_le_mul_right _ (Nat.sub_le _ _)
                  omega)
                rw [hU0, hz0]
                exact h7
              · have := hcnt x
                rw [hU0] at this
                exact this
            · rw [if_neg hcl]
              simp only [Option.map_some, addr_add]
              refine fin (off + L * E.sz) (cnt b (U - L) E.sz fun i => S (L + i)) ?_ hcnt
              have h7 := (hseg _ rfl).own (b := b) (c := c - L) (e := e) (fz := fz) hb hf (by rw [eL, eU, hlen]; omega) (by rw [eL, eU, hlen]; omega) (by
                have : L * E.sz + (c - L) * E.sz = c * E.sz := by rw [← Nat.add_mul]; congr 1; omega
                omega)
              rw [eL, eU, hlen] at h7
              rw [eL, eU]
              exact h7
        · cases h
      · cases h
    · cases h
  · -- bytes to a string
    rename_i S D x d hop hd
    split at h
    · rename_i e bytes k hti hD hxv
      split at h
      · rename_i E xs lent hg hte
        split at h
        · rename_i ys hc
          obtain ⟨hU, _⟩ := sl_info hT hti
          have hUe := (ti_it (tget_ok hT hte)).1
          have hUD := (ti_ss (tget_ok hT hD)).1
          have evx := ev x
          rw [hxv] at evx
          obtain ⟨_, hpv⟩ := evx
          have ho := own_of r hg
          rw [castL_ok hc] at ho
          have hrun : (convert S D (a.eval x)).run P w = .ok (.string ⟨(ys ()).toArray⟩) w ∧ (ys ()).length ≤ maxL := by
            rw [hpv]
            rcases ho.seg with ⟨hv, h0, hp⟩ | ⟨b, off, c, vs, e', fz, SS, hv, hp, hb, hf, hlc, hmx, hoff, hs⟩
            · rw [hv, h0]
              exact ⟨run_convert_bytes_nil w S e hU hUe 0 0 D hUD, by simp⟩
            · rw [hv]
              have := run_convert_bytes_arg w S e hU hUe b off (ys ()).length c ((ys ()).map fun y => (y.toNat : Int)) (by simp) (fun i hi => by
                have h1 := hs i _ (List.getElem?_eq_getElem hi) 0 _ rfl
                simp only [ETy.sz, Nat.mul_one, Nat.add_zero] at h1
                have h2 : (⟨b, off + i, none⟩ : Addr) = ⟨b, off + i, none⟩ := rfl
                rw [cell_of hb (getD_some (show off + i < vs.size by simp only [ETy.sz, Nat.mul_one] at hoff; omega))]
                generalize vs.getD (off + i) Go.undef = u, SS i 0 = T at h1
                cases h1 with
                | int hr => simp [List.getD_eq_getElem?_getD, hi]) D hUD
              rw [this]
              refine ⟨?_, hmx⟩
              congr 2
              unfold strOfNums
              rw [List.map_map]
              refine congrArg (fun l : List UInt8 => (⟨l.toArray⟩ : ByteArray)) ?_
              refine Eq.trans (List.map_congr_left fun y _ => ?_) (List.map_id _)
              simp
          refine wp_value (v := .string ⟨(ys ()).toArray⟩) (w' := w) (by simp only [execOp, hop, Sem.run_bind, hrun.1, Result.andThen_ok]; rfl) ⟨_, h, ⟨ρ, ?_⟩, fun _ => KeepW.refl w⟩
          rw [hd]
          exact RelH.put r (v := .c (.lf (.str ys))) (RL.str hrun.2) (some d)
        · cases h
      · cases h
    · cases h
  · -- an element is stored
    rename_i T p v hop hd
    split at h
    · rename_i k E i off hp
      have ep := ev p
      rw [hp] at ep
      obtain ⟨σ', w', ρ', h1, h2, h3⟩ := vcStoreE_ok hT r (hw (by simp [isWr, hop])) h ep (ev v)
      refine wp_skip' (w' := w') ?_ hd ⟨_, h1, ⟨ρ', h2⟩, fun hw => by simp [isWr, hop] at hw⟩
      simp only [execOp, hop, Sem.run_bind, h3, Result.andThen_ok]
      rfl
    · exact vcMem_ok hT r h
  · -- an element is loaded
    rename_i T x d hop hd
    split at h
    · rename_i k E i off hp
      split at h
      · rename_i hty
        have ep := ev x
        rw [hp] at ep
        obtain ⟨σ', y, ρ', h1, h2, h3⟩ := vcLoadE_ok hT r (hw (by simp [isWr, hop, hty])) h ep
        refine wp_value (v := y) (w' := w) ?_ ⟨_, h1, ⟨ρ', by rw [hd]; exact h2⟩, fun _ => KeepW.refl w⟩
        simp only [execOp, hop, Sem.run_bind, h3, Result.andThen_ok]
        rfl
      · cases h
    · cases h
  · exact vcMem_ok hT r h

end

end Go.Proofs.Ytnmdhpaobmjefaa
