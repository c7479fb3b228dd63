/-
  Calls, lists of operations, code with loops: what is to be shown, and that it gives a function's contract. No conditions.
-/
import Derived.Test.YtnmdhpaobmjefaaOps
namespace Go.Proofs.Ytnmdhpaobmjefaa
open Go

/-! ### handing values over to be read -/

def lendP (bs : List (Nat × Blk)) (k off : Nat) : Option (Unit → Int) :=
  match getB bs k with
  | some (.box cs) => (match cs[off]? with | some (.lf (.int .i64 t)) => some t | _ => none)
  | _ => none

def lendCp (bs : List (Nat × Blk)) : Cp → Cp
  | .ptr k off => match lendP bs k off with | some t => .el .int t 0 | none => .ptr k off
  | c => c

def lendC (bs : List (Nat × Blk)) (z : Z) : C → C
  | .nil => match z with | .nl E => .lf (.list E fun _ => []) | _ => .undef
  | .own k => match getB bs k with | some (.own E xs _) => .lf (.list E xs) | _ => .undef
  | .ptr k off => match lendP bs k off with | some t => .el .int t 0 | none => .undef
  | .oel _ _ _ _ => .undef
  | .fn f l => .fn f (l.map (lendCp bs))
  | c => c

def lendL (bs : List (Nat × Blk)) : List Z → List C → List C
  | _, [] => []
  | [], c :: cs => lendC bs .un c :: lendL bs [] cs
  | z :: zs, c :: cs => lendC bs z c :: lendL bs zs cs

def lendV (tab : Tab) (bs : List (Nat × Blk)) (T : TypeId) : V → V
  | .c x => .c (lendC bs (match tget tab T with | some (.sl E _ _) => .nl E | _ => .un) x)
  | .agg cs => .agg (lendL bs (match tget tab T with | some (.st _ _ z _) => z | _ => []) cs)
  | .tup _ => .c .undef

def lendVs (tab : Tab) (bs : List (Nat × Blk)) : List TypeId → List V → List V
  | _, [] => []
  | [], _ :: vs => .c .undef :: lendVs tab bs [] vs
  | T :: Ts, v :: vs => lendV tab bs T v :: lendVs tab bs Ts vs

def capC (bs : List (Nat × Blk)) (c : Cp) : V :=
  match lendCp bs c with
  | .el E x off => .c (.el E x off)
  | .ptr _ _ => .c .undef

/-- captured pointers that cannot be lent -/
def capsOk (bs : List (Nat × Blk)) (l : List Cp) : Bool := l.all fun c => match lendCp bs c with | .el _ _ _ => true | _ => false

def C.fnOk (bs : List (Nat × Blk)) : C → Bool
  | .fn _ l => capsOk bs l
  | _ => true

def V.fnOk (bs : List (Nat × Blk)) : V → Bool
  | .c x => x.fnOk bs
  | .agg cs => cs.all (C.fnOk bs)
  | .tup _ => true

section
variable {Γ : Ctx} {H : Hp} {ρ : Rho} {σ : SS} {a : Act} {w : World} (r : RelH Γ H ρ σ a w)
include r

theorem lendP_ok {k off : Nat} {t : Unit → Int} {v : Value} (h : lendP σ.blk k off = some t) (hv : RCp H ρ (dom σ.blk) (.ptr k off) v) :
    RCp (fun b => w.heap[b]?) (fun _ => default) (fun _ => False) (.el .int t 0) v := by
  unfold lendP at h
  split at h
  · rename_i cs hg
    split at h
    · rename_i t' hc
      cases h
      obtain ⟨_, b, h1, rfl⟩ := hv
      obtain ⟨b', vs, e, fz, h2, h3, h4, h5, h6⟩ := r.b.blk k _ (getB_mem hg)
      rw [h1] at h2
      simp only [Value.pointer.injEq, Option.some.injEq, Addr.mk.injEq, and_true] at h2
      subst h2
      refine ⟨b, off, vs, e, fz, h4, rfl, fun j l hj => ?_⟩
      cases j with
      | zero =>
        simp only [Nat.add_zero, cellsT, List.getElem?_cons_zero, Option.some.injEq] at hj
        subst hj
        have := h6.2 _ _ hc
        obtain ⟨h7, h8⟩ := RL.of_int this
        exact ⟨by rw [h6.1]; exact lt_of_get hc, by rw [Nat.add_zero, h7]; exact RL.int h8⟩
      | succ j => simp [cellsT] at hj
    · cases h
  · cases h

theorem lendCp_ok {c : Cp} {v : Value} (hv : RCp H ρ (dom σ.blk) c v) (ho : (match lendCp σ.blk c with | .el _ _ _ => true | _ => false) = true) :
    RCp (fun b => w.heap[b]?) (fun _ => default) (fun _ => False) (lendCp σ.blk c) v := by
  cases c with
  | ptr k off =>
    cases ht : lendP σ.blk k off with
    | some t => simp only [lendCp, ht]; exact lendP_ok r ht hv
    | none => simp [lendCp, ht] at ho
  | el E x off =>
    obtain ⟨b, o, cs, e, fz, h1, h2, h3⟩ := hv
    exact ⟨b, o, cs, e, fz, r.b.hh _ _ h1, h2, fun j l hj => ⟨(h3 j l hj).1, (h3 j l hj).2.mono r.b.hh⟩⟩

theorem lendC_ok {c : C} {v : Value} (z : Z) (hv : RC H ρ (dom σ.blk) c v) (ho : c.fnOk σ.blk = true) : RC (fun b => w.heap[b]?) (fun _ => default) (fun _ => False) (lendC σ.blk z c) v := by
  cases c with
  | lf l => exact RL.mono hv r.b.hh
  | bl b => exact hv
  | nil =>
    simp only [lendC]
    split
    · simp only [RC] at hv; subst hv; exact RL.nil rfl
    · trivial
  | own k =>
    simp only [lendC]
    split
    · rename_i E xs l hg
      obtain ⟨_, rfl⟩ := hv
      exact (own_of r hg).rl fun _ _ => rfl
    · trivial
  | ptr k off =>
    simp only [lendC]
    split
    · rename_i t ht; exact lendP_ok r ht hv
    · trivial
  | el E x off =>
    obtain ⟨b, o, cs, e, fz, h1, h2, h3⟩ := hv
    exact ⟨b, o, cs, e, fz, r.b.hh _ _ h1, h2, fun j l hj => ⟨(h3 j l hj).1, (h3 j l hj).2.mono r.b.hh⟩⟩
  | oel k E i off => trivial
  | fn f l =>
    obtain ⟨vs, h1, h2, h3⟩ := hv
    refine ⟨vs, h1, by simpa using h2, fun j c hj => ?_⟩
    rw [List.getElem?_map, Option.map_eq_some_iff] at hj
    obtain ⟨c0, hj, rfl⟩ := hj
    exact lendCp_ok r (h3 j c0 hj) (List.all_eq_true.1 ho c0 (List.mem_of_getElem? hj))
  | undef => trivial

omit r in
theorem lendL_get {bs : List (Nat × Blk)} : ∀ {cs : List C} {zs : List Z} {j : Nat} {c : C}, (lendL bs zs cs)[j]? = some c → ∃ c0 z, cs[j]? = some c0 ∧ c = lendC bs z c0
  | [], zs, j, c, h => by cases zs <;> simp [lendL] at h
  | c0 :: cs, [], 0, c, h => by simp [lendL] at h; exact ⟨c0, _, rfl, h.symm⟩
  | c0 :: cs, [], j + 1, c, h => by simp only [lendL, List.getElem?_cons_succ] at h ⊢; exact lendL_get h
  | c0 :: cs, z :: zs, 0, c, h => by simp [lendL] at h; exact ⟨c0, _, rfl, h.symm⟩
  | c0 :: cs, z :: zs, j + 1, c, h => by simp only [lendL, List.getElem?_cons_succ] at h ⊢; exact lendL_get h

omit r in
theorem lendL_len {bs : List (Nat × Blk)} : ∀ {cs : List C} {zs : List Z}, (lendL bs zs cs).length = cs.length
  | [], zs => by cases zs <;> rfl
  | c0 :: cs, [] => by simp [lendL, lendL_len (cs := cs)]
  | c0 :: cs, z :: zs => by simp [lendL, lendL_len (cs := cs)]

theorem lendV_ok {tab : Tab} {T : TypeId} {c : V} {v : Value} (hv : RV H ρ (dom σ.blk) c v) (ho : c.fnOk σ.blk = true) : RV (fun b => w.heap[b]?) (fun _ => default) (fun _ => False) (lendV tab σ.blk T c) v := by
  cases c with
  | c x => exact lendC_ok r _ hv ho
  | agg cs =>
    obtain ⟨vs, h1, h2⟩ := hv
    refine ⟨vs, h1, by rw [lendL_len]; exact h2.1, fun j c hj => ?_⟩
    obtain ⟨c0, z, h3, rfl⟩ := lendL_get hj
    exact lendC_ok r z (h2.2 j c0 h3) (List.all_eq_true.1 ho c0 (List.mem_of_getElem? h3))
  | tup cs => trivial

end


/-! ### calls -/

/-- a call: by the contract of the function that is called -/
inductive CallA (P : Program) (f : FuncId) (as : List V) (K : V → List Blk → Prop) : Prop where
  | mk (post : V → List Blk → Prop) (hs : Spec P f as post) (hk : ∀ r nb, post r nb → K r nb)

/-- the blocks of a result get names -/
def addRes : List (Nat × Blk) → Nat → List Blk → List (Nat × Blk)
  | bs, _, [] => bs
  | bs, k, B :: nb => addRes (insB bs k B) (k + 1) nb

def freeB (bs : List (Nat × Blk)) (d : Nat) : Bool := bs.all fun p => p.1 < 8 * d || 8 * d + 8 ≤ p.1

theorem RelH.addRes {Γ : Ctx} {H : Hp} {a : Act} {w' : World} {H' : Hp} {ρ' : Rho} : ∀ (nb : List Blk) (j k : Nat) {ρ : Rho} {σ : SS} {w : World}, RelH Γ H ρ σ a w →
    (∀ b o, H b = some o → w'.heap[b]? = w.heap[b]?) → (∀ b, 0 < tot ρ σ.blk b → w'.heap[b]? = w.heap[b]?) → Ext w w' →
    (∀ i B, nb[i]? = some B → BlkR w'.heap H' ρ' (fun _ => False) B (ρ' (j + i)) ∧ ownB B = true) → (∀ i, i < nb.length → (ρ' (j + i)).1.oneCell' = true) →
    (∀ i x, i < nb.length → 0 < (ρ' (j + i)).2 x → H x = none ∧ tot ρ σ.blk x = 0) → (∀ x, tot ρ' (num j nb) x ≤ 1) → (∀ i, i < nb.length → getB σ.blk (k + i) = none) →
    ∃ ρ'', RelH Γ H ρ'' { σ with blk := addRes σ.blk k nb } a w' ∧ (∀ i, i < nb.length → dom (addRes σ.blk k nb) (k + i) ∧ (ρ'' (k + i)).1 = (ρ' (j + i)).1) ∧ (∀ i, dom σ.blk i → dom (addRes σ.blk k nb) i ∧ ρ'' i = ρ i)
  | [], j, k, ρ, σ, w, r, h1, h2, h3, _, _, _, _, _ => by
    refine ⟨ρ, ⟨⟨r.b.oc, r.b.nd, r.b.h0, fun b o hb => ?_, fun k B hk => ?_, r.b.sum, r.b.fresh, r.b.tops⟩, r.e, r.d, r.n.trans h3, r.hd⟩, fun i hi => by simp at hi, fun i hi => ⟨hi, rfl⟩⟩
    · rw [h1 b o hb]; exact r.b.hh b o hb
    · exact (r.b.blk k B hk).mono (Grow.refl _ _ _) fun b hb => h2 b (Nat.lt_of_lt_of_le hb (tot_le hk b))
  | B :: nb, j, k, ρ, σ, w, r, h1, h2, h3, h4, h5, h6, h7, h8 => by
    have hk : getB σ.blk k = none := h8 0 (by simp)
    obtain ⟨hB, hown⟩ := h4 0 B rfl
    have hle : ∀ x, (ρ' j).2 x ≤ 1 := fun x => by
      have := h7 x
      simp only [num, tot] at this
      omega
    have r1 := r.new' (w' := w') (k := k) (B := B) (p := ρ' j) hk h1 h2 h3 (h5 0 (by simp)) (fun x hx => h6 0 x (by simp) hx) hle
      (by cases B with
        | own E xs l => exact hB
        | dead => simp [ownB] at hown
        | box cs => simp [ownB] at hown) (by rintro rfl; simp [ownB] at hown)
    have hkd := getB_none hk
    have hne : ∀ i, dom σ.blk i → i ≠ k := fun i hi he => hkd (he ▸ hi)
    have e1 : ∀ i, j + 1 + i = j + (i + 1) := fun i => by omega
    have e2 : ∀ i, k + 1 + i = k + (i + 1) := fun i => by omega
    obtain ⟨ρ'', r2, g1, g2⟩ := RelH.addRes nb (j + 1) (k + 1) r1 (fun _ _ _ => rfl) (fun _ _ => rfl) (Ext.refl _)
      (fun i A hi => by rw [e1]; exact h4 (i + 1) A (by simpa using hi)) (fun i hi => by rw [e1]; exact h5 (i + 1) (by simpa using hi))
      (fun i x hi hx => by
        rw [e1] at hx
        obtain ⟨g1, g2⟩ := h6 (i + 1) x (by simpa using hi) hx
        refine ⟨g1, ?_⟩
        show tot (upd ρ k (ρ' j)) (insB σ.blk k B) x = 0
        rw [tot_insB, upd_same, tot_congr (ρ := ρ) (ρ' := upd ρ k (ρ' j)) (fun i hi => upd_other (hne i hi)), g2]
        have h9 := h7 x
        simp only [num, tot] at h9
        have h10 := tot_le (ρ := ρ') (bs := num (j + 1) nb) (k := j + (i + 1)) (B := nb[i]) (mem_num.2 ⟨by omega, by rw [show j + (i + 1) - (j + 1) = i by omega]; exact List.getElem?_eq_getElem hi⟩) x
        omega)
      (fun x => by have := h7 x; simp only [num, tot] at this; omega)
      (fun i hi => by
        rw [e2]
        have h9 := h8 (i + 1) (by simpa using hi)
        have : ∀ bs : List (Nat × Blk), getB bs (k + (i + 1)) = none → getB (insB bs k B) (k + (i + 1)) = none := by
          intro bs
          induction bs with
          | nil => intro _; simp [insB, getB]
          | cons p bs ih =>
            intro h
            simp only [getB] at h
            split at h
            · cases h
            · rename_i hp
              simp only [insB]
              split
              · simp only [getB]
                rw [if_neg (by omega), if_neg hp]; exact h
              · simp only [getB]
                rw [if_neg hp]; exact ih h
        exact this _ h9)
    refine ⟨ρ'', r2, fun i hi => ?_, fun i hi => ?_⟩
    · cases i with
      | zero =>
        obtain ⟨g3, g4⟩ := g2 k (dom_insB.2 (.inl rfl))
        exact ⟨g3, by rw [Nat.add_zero, g4, upd_same]; rfl⟩
      | succ i =>
        have := g1 i (by simpa using hi)
        rw [e1, e2] at this
        exact this
    · obtain ⟨g3, g4⟩ := g2 i (dom_insB.2 (.inr hi))
      exact ⟨g3, by rw [g4, upd_other (hne i hi)]⟩

def calleeV (σ : SS) (o : Oper) : Option (V × Call) :=
  match o.op with
  | .call c => match c.callee with
    | .value x => some (σ.ev x, c)
    | _ => none
  | _ => none

/-- what is to be shown at a call -/
def vcCall (P : Program) (tab : Tab) (σ : SS) (v : V) (c : Call) (dst : Option Nat) (K : SS → Prop) : Prop :=
  match v, dst with
  | .c (.fn f l), some d =>
    if freeB σ.blk d = true ∧ capsOk σ.blk l = true ∧ (c.args.toList.map σ.ev).all (V.fnOk σ.blk) = true ∧ c.argTypes.size = c.args.size then
      CallA P f (lendVs tab σ.blk c.argTypes.toList (c.args.toList.map σ.ev) ++ l.map (capC σ.blk)) fun r nb =>
        nb.length ≤ 8 ∧ K (({ σ with blk := addRes σ.blk (8 * d) nb } : SS).put (some d) (r.ren (8 * d + ·)))
    else False
  | _, _ => False


theorem lendVs_len {tab : Tab} {bs : List (Nat × Blk)} : ∀ {vs : List V} {Ts : List TypeId}, (lendVs tab bs Ts vs).length = vs.length
  | [], Ts => by cases Ts <;> rfl
  | v :: vs, [] => by simp [lendVs, lendVs_len (vs := vs)]
  | v :: vs, T :: Ts => by simp [lendVs, lendVs_len (vs := vs)]

section
variable {P : Program} {tab : Tab} {Γ : Ctx} {H : Hp} {ρ : Rho} {σ : SS} {a : Act} {w : World} (r : RelH Γ H ρ σ a w)
include r

theorem lendVs_get : ∀ {vs : List V} {Ts : List TypeId} {us : List Value}, (∀ (j : Nat) c v, vs[j]? = some c → us[j]? = some v → RV H ρ (dom σ.blk) c v) → vs.all (V.fnOk σ.blk) = true → vs.length = us.length →
    ∀ (j : Nat) c v, (lendVs tab σ.blk Ts vs)[j]? = some c → us[j]? = some v → RV (fun b => w.heap[b]?) (fun _ => default) (fun _ => False) c v
  | [], Ts, us, _, _, _, j, c, v, h, _ => by cases Ts <;> simp [lendVs] at h
  | x :: vs, [], us, hv, ho, hl, j, c, v, h, h' => by
    cases us with
    | nil => simp at hl
    | cons u us =>
      simp only [List.all_cons, Bool.and_eq_true] at ho
      cases j with
      | zero => simp [lendVs] at h; subst h; trivial
      | succ j =>
        simp only [lendVs, List.getElem?_cons_succ] at h h'
        exact lendVs_get (Ts := []) (fun j c v g1 g2 => hv (j + 1) c v (by simpa using g1) (by simpa using g2)) ho.2 (by simpa using hl) j c v h h'
  | x :: vs, T :: Ts, us, hv, ho, hl, j, c, v, h, h' => by
    cases us with
    | nil => simp at hl
    | cons u us =>
      simp only [List.all_cons, Bool.and_eq_true] at ho
      cases j with
      | zero =>
        simp [lendVs] at h h'; subst h h'
        exact lendV_ok r (hv 0 x u rfl rfl) ho.1
      | succ j =>
        simp only [lendVs, List.getElem?_cons_succ] at h h'
        exact lendVs_get (Ts := Ts) (fun j c v g1 g2 => hv (j + 1) c v (by simpa using g1) (by simpa using g2)) ho.2 (by simpa using hl) j c v h h'

theorem vcCall_ok {o : Oper} {v : V} {c : Call} {K : SS → Prop} {Q : Exit → Act → World → Prop} (hc : calleeV σ o = some (v, c)) (h : vcCall P tab σ v c o.dst K) :
    o.wp P a w (fun a' w' => ∃ σ', K σ' ∧ Rel Γ σ' a' w') Q := by
  unfold calleeV at hc
  split at hc
  · rename_i c0 hop
    split at hc
    · rename_i x hcal
      cases hc
      unfold vcCall at h
      split at h
      · rename_i f l d hx hd
        split at h
        · rename_i hcond
          obtain ⟨hfree, hcaps, hfn, hsize⟩ := hcond
          obtain ⟨post, ⟨⟨fn, hf1, hf2, hf3⟩, hs⟩, hk⟩ := h
          have ev := ev_ok r.e x
          rw [hx] at ev
          obtain ⟨vs, e1, e2, e3⟩ := ev
          have hrun : (execOp a.eval o).run P w = .ok (.enter f (c.args.map a.eval ++ vs)) w := by
            simp only [execOp, hop, resolve, hcal, Deferred.ofValue, e1, Sem.run_bind, Sem.run_pure, Result.andThen_ok, invoke, callFunc, run_program, hf1, hf2, hf3]
            simp
          have hargs : args (fun b => w.heap[b]?) (fun _ => default) (fun _ => False) (lendVs tab σ.blk c.argTypes.toList (c.args.toList.map σ.ev) ++ l.map (capC σ.blk)) (c.args.map a.eval ++ vs) := by
            refine ⟨by simp [lendVs_len, e2], fun j cv hj => ?_⟩
            rw [Array.getD_eq_getD_getElem?]
            by_cases hlt : j < c.args.size
            · rw [List.getElem?_append_left (by simpa [lendVs_len] using hlt)] at hj
              rw [Array.getElem?_append_left (by simpa using hlt)]
              have h1 : (c.args.map a.eval).toList[j]? = some (a.eval c.args[j]) := by simp [hlt]
              have h2 := lendVs_get r (map_ev r c.args) hfn (by simp) j cv _ hj h1
              simpa [hlt] using h2
            · rw [List.getElem?_append_right (by simpa [lendVs_len] using Nat.le_of_not_lt hlt)] at hj
              rw [Array.getElem?_append_right (by simpa using Nat.le_of_not_lt hlt)]
              simp only [lendVs_len, List.length_map, Array.length_toList, Array.size_map, List.getElem?_map, Option.map_eq_some_iff] at hj ⊢
              obtain ⟨c0, h1, rfl⟩ := hj
              have h2 := e3 _ c0 h1
              have h3 := List.all_eq_true.1 hcaps c0 (List.mem_of_getElem? h1)
              have h4 := lendCp_ok r h2 h3
              rw [Array.getD_eq_getD_getElem?] at h4
              unfold capC
              split at h3
              · rename_i E x off heq
                rw [heq] at h4 ⊢
                exact h4
              · cases h3
          unfold Oper.wp
          rw [hrun]
          simp only [Oper.upon]
          refine (hs w _ hargs).mono fun e w' he => ?_
          obtain ⟨v, rv, nb, H', ρ', rfl, hp, hown, hB, hv, hsz⟩ := he
          obtain ⟨hlen, hK⟩ := hk rv nb hp
          have hHn : ∀ x o, w.heap[x]? = some o → w'.heap[x]? = some o := fun x o hx => hB.hh x o (hB.h0 x o hx)
          have hsame : ∀ x, x < w.heap.size → w'.heap[x]? = w.heap[x]? := fun x hx => by rw [Array.getElem?_eq_getElem hx]; exact hHn x _ (Array.getElem?_eq_getElem hx)
          have hkeys : ∀ i, i < nb.length → getB σ.blk (8 * d + i) = none := fun i hi => by
            have : ∀ bs : List (Nat × Blk), freeB bs d = true → getB bs (8 * d + i) = none := by
              intro bs
              induction bs with
              | nil => intro _; rfl
              | cons p bs ih =>
                intro hfb
                simp only [freeB, List.all_cons, Bool.and_eq_true, Bool.or_eq_true, decide_eq_true_eq] at hfb
                simp only [getB]
                rw [if_neg (by omega)]
                exact ih hfb.2
            exact this _ hfree
          have hnum : ∀ (i : Nat) B, nb[i]? = some B → (i, B) ∈ num 0 nb := fun i B hi => mem_num.2 ⟨Nat.zero_le _, by simpa using hi⟩
          obtain ⟨ρ'', r1, g1, g2⟩ := RelH.addRes (H' := H') (ρ' := ρ') (w' := w') nb 0 (8 * d) r (fun b o hb => hsame b (lt_of_aget (r.b.hh b o hb))) (fun b hb => hsame b (r.lt hb)) hsz
            (fun i B hi => by
              have h1 := hB.blk i B (hnum i B hi)
              rw [Nat.zero_add]
              have h2 := List.all_eq_true.1 hown B (List.mem_of_getElem? hi)
              refine ⟨?_, h2⟩
              cases B with
              | own E xs l => exact h1
              | dead => cases h2
              | box cs => cases h2)
            (fun i hi => by rw [Nat.zero_add]; exact hB.oc i (dom_num.2 ⟨Nat.zero_le _, by omega⟩))
            (fun i x hi hx => by
              rw [Nat.zero_add] at hx
              have h1 := hB.fresh i _ (hnum i _ (List.getElem?_eq_getElem hi)) x hx
              refine r.none_above ?_
              rcases Nat.lt_or_ge x w.heap.size with h2 | h2
              · rw [Array.getElem?_eq_getElem h2] at h1; cases h1
              · exact h2)
            hB.sum hkeys
          refine ⟨_, hK, H, ρ'', ?_⟩
          rw [hd]
          refine RelH.put r1 (RV.ren (m := fun i => 8 * d + i) (D := dom (num 0 nb)) (ρ := ρ') (fun i hi => ?_) (hv.grow (H' := H) (ρ' := ρ') (D' := dom (num 0 nb)) ⟨(fun _ _ h => by cases h), (fun _ h => ⟨h, rfl⟩)⟩)) (some d)
          obtain ⟨_, hi⟩ := dom_num.1 hi
          have := g1 i (by omega)
          rw [Nat.zero_add] at this
          exact this
        · cases h
      · cases h
    · cases hc
  · cases hc

end

end Go.Proofs.Ytnmdhpaobmjefaa
