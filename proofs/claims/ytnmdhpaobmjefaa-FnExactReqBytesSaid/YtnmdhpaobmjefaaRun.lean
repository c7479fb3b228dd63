/-
  Calls, lists of operations, code with loops: what is to be shown, and that it gives a function's contract. No conditions.
-/
import Derived.Test.YtnmdhpaobmjefaaOps
namespace Go.Proofs.Ytnmdhpaobmjefaa
open Go

/-! ### handing values over to be read -/

def lendLf (bs : List (Nat × Blk)) : C → Option Lf
  | .lf l => some l
  | .bl b => some (.bool fun _ => b)
  | .own k => match getB bs k with | some (.own E xs _) => some (.list E xs) | some (.view E xs) => some (.list E xs) | _ => none
  | _ => none

def lendLfs (bs : List (Nat × Blk)) : List C → Option (List Lf)
  | [] => some []
  | c :: cs => match lendLf bs c, lendLfs bs cs with | some l, some ls => some (l :: ls) | _, _ => none

/-- a variable, as its cells read -/
def lendP (bs : List (Nat × Blk)) (k : Nat) : Option (List Lf) :=
  match getB bs k with
  | some (.box cs) => lendLfs bs cs
  | _ => none

def lendCp (bs : List (Nat × Blk)) : Cp → Cp
  | .ptr k off => match lendP bs k with | some ls => .pcs ls off | none => .ptr k off
  | c => c

def lendC (bs : List (Nat × Blk)) (z : Z) : C → C
  | .nil => match z with | .nl E => .lf (.list E fun _ => []) | _ => .undef
  | .own k => match lendLf bs (.own k) with | some l => .lf l | none => .undef
  | .ptr k off => match lendP bs k with | some ls => .pcs ls off | none => .undef
  | .oel _ _ _ _ => .undef
  | .fn f l => .fn f (l.map (lendCp bs))
  | c => c

def lendL (bs : List (Nat × Blk)) : List Z → List C → List C
  | _, [] => []
  | [], c :: cs => lendC bs .un c :: lendL bs [] cs
  | z :: zs, c :: cs => lendC bs z c :: lendL bs zs cs

def lendV (tab : Tab) (bs : List (Nat × Blk)) (T : TypeId) : V → V
  | .c x => .c (lendC bs (match tget tab T with | some (.sl E _ _) => .nl E | _ => .un) x)
  | .agg cs => .agg (lendL bs (match tget tab T with | some (.st _ _ z _) => z | _ => []) cs)
  | .tup _ => .c .undef

def lendVs (tab : Tab) (bs : List (Nat × Blk)) : List TypeId → List V → List V
  | _, [] => []
  | [], _ :: vs => .c .undef :: lendVs tab bs [] vs
  | T :: Ts, v :: vs => lendV tab bs T v :: lendVs tab bs Ts vs

def capC (bs : List (Nat × Blk)) (c : Cp) : V :=
  match lendCp bs c with
  | .el E x off => .c (.el E x off)
  | .pcs ls off => .c (.pcs ls off)
  | .ptr _ _ => .c .undef

/-- captured pointers that cannot be lent -/
def capsOk (bs : List (Nat × Blk)) (l : List Cp) : Bool := l.all fun c => match lendCp bs c with | .ptr _ _ => false | _ => true

def C.fnOk (bs : List (Nat × Blk)) : C → Bool
  | .fn _ l => capsOk bs l
  | _ => true

def V.fnOk (bs : List (Nat × Blk)) : V → Bool
  | .c x => x.fnOk bs
  | .agg cs => cs.all (C.fnOk bs)
  | .tup _ => true

/-- blocks that may be lent: what they own is as it is -/
structure Lends (w : World) (H H1 : Hp) (ρ : Rho) (D : Nat → Prop) (bs : List (Nat × Blk)) : Prop where
  hH : ∀ b o, H b = some o → H1 b = some o
  blk : ∀ k B, getB bs k = some B → BlkR w.heap H ρ D B (ρ k) ∧ ∀ x, 0 < (ρ k).2 x → H1 x = w.heap[x]?

theorem RelH.lends {Γ : Ctx} {H : Hp} {ρ : Rho} {σ : SS} {a : Act} {w : World} (r : RelH Γ H ρ σ a w) : Lends w H (fun b => w.heap[b]?) ρ (dom σ.blk) σ.blk :=
  ⟨r.b.hh, fun k B hk => ⟨r.b.blk k B (getB_mem hk), fun _ _ => rfl⟩⟩

section
variable {w : World} {H H1 : Hp} {ρ ρ1 : Rho} {D D1 : Nat → Prop} {bs : List (Nat × Blk)} (L : Lends w H H1 ρ D bs)
include L

theorem lendLf_ok {c : C} {l : Lf} {v : Value} (h : lendLf bs c = some l) (hv : RC H ρ D c v) : RL H1 l v := by
  unfold lendLf at h
  split at h
  · cases h; exact RL.mono hv L.hH
  · cases h; simp only [RC] at hv; subst hv; exact RL.bool (t := fun _ => _)
  · rename_i k
    split at h
    · rename_i E xs l hg
      cases h
      obtain ⟨_, rfl⟩ := hv
      obtain ⟨h1, h2⟩ := L.blk k _ hg
      exact OwnL.rl h1 h2
    · rename_i E xs hg
      cases h
      obtain ⟨_, rfl⟩ := hv
      obtain ⟨h1, h2⟩ := L.blk k _ hg
      exact h1.1.mono L.hH
    · cases h
  · cases h

theorem lendLfs_ok : ∀ {cs : List C} {ls : List Lf} {f : Nat → Value}, lendLfs bs cs = some ls → (∀ (j : Nat) c, cs[j]? = some c → RC H ρ D c (f j)) → ls.length = cs.length ∧ ∀ (j : Nat) l, ls[j]? = some l → RL H1 l (f j)
  | [], ls, f, h, _ => by simp only [lendLfs, Option.some.injEq] at h; subst h; exact ⟨rfl, fun j l hj => by simp at hj⟩
  | c :: cs, ls, f, h, hc => by
    simp only [lendLfs] at h
    split at h
    · rename_i l ls' h1 h2
      cases h
      obtain ⟨g1, g2⟩ := lendLfs_ok (f := fun j => f (j + 1)) h2 fun j c hj => hc (j + 1) c (by simpa using hj)
      refine ⟨by simp [g1], fun j l' hj => ?_⟩
      cases j with
      | zero => simp at hj; subst hj; exact lendLf_ok L h1 (hc 0 c rfl)
      | succ j => exact g2 j l' (by simpa using hj)
    · cases h

theorem lendP_ok {k off : Nat} {ls : List Lf} {v : Value} (h : lendP bs k = some ls) (hv : RCp H ρ D (.ptr k off) v) :
    RCp H1 ρ1 D1 (.pcs ls off) v := by
  unfold lendP at h
  split at h
  · rename_i cs hg
    obtain ⟨_, b, h1, rfl⟩ := hv
    obtain ⟨⟨b', vs, e, fz, h2, h3, h4, h5, h6⟩, h0⟩ := L.blk k _ hg
    rw [h1] at h2
    simp only [Value.pointer.injEq, Option.some.injEq, Addr.mk.injEq, and_true] at h2
    subst h2
    obtain ⟨g1, g2⟩ := lendLfs_ok (f := fun j => vs.getD j Go.undef) L h h6.2
    refine ⟨b, off, vs, e, fz, by rw [h0 b (by simp [h3, one])]; exact h4, rfl, fun j l hj => ⟨?_, g2 _ _ hj⟩⟩
    have := lt_of_get hj
    rw [h6.1, ← g1]; exact this
  · cases h

theorem RCp.lend_el {E : ETy} {x : Unit → E.α} {off : Nat} {v : Value} (hv : RCp H ρ D (.el E x off) v) : RCp H1 ρ1 D1 (.el E x off) v := by
  obtain ⟨b, o, cs, e, fz, h1, h2, h3⟩ := hv
  exact ⟨b, o, cs, e, fz, L.hH _ _ h1, h2, fun j l hj => ⟨(h3 j l hj).1, (h3 j l hj).2.mono L.hH⟩⟩

theorem RCp.lend_pcs {ls : List Lf} {off : Nat} {v : Value} (hv : RCp H ρ D (.pcs ls off) v) : RCp H1 ρ1 D1 (.pcs ls off) v := by
  obtain ⟨b, o, cs, e, fz, h1, h2, h3⟩ := hv
  exact ⟨b, o, cs, e, fz, L.hH _ _ h1, h2, fun j l hj => ⟨(h3 j l hj).1, (h3 j l hj).2.mono L.hH⟩⟩

theorem lendCp_ok {c : Cp} {v : Value} (hv : RCp H ρ D c v) (ho : (match lendCp bs c with | .ptr _ _ => false | _ => true) = true) :
    RCp H1 ρ1 D1 (lendCp bs c) v := by
  cases c with
  | ptr k off =>
    cases ht : lendP bs k with
    | some t => simp only [lendCp, ht]; exact lendP_ok L ht hv
    | none => simp [lendCp, ht] at ho
  | el E x off => exact RCp.lend_el (ρ1 := ρ1) (D1 := D1) L hv
  | pcs ls off => exact RCp.lend_pcs (ρ1 := ρ1) (D1 := D1) L hv

theorem lendC_ok {c : C} {v : Value} (z : Z) (hv : RC H ρ D c v) (ho : c.fnOk bs = true) : RC H1 ρ1 D1 (lendC bs z c) v := by
  cases c with
  | lf l => exact RL.mono hv L.hH
  | bl b => exact hv
  | nil =>
    simp only [lendC]
    split
    · simp only [RC] at hv; subst hv; exact RL.nil rfl
    · trivial
  | own k =>
    simp only [lendC]
    split
    · rename_i l hl; exact lendLf_ok L hl hv
    · trivial
  | ptr k off =>
    simp only [lendC]
    split
    · rename_i t ht; exact lendP_ok (ρ1 := ρ1) (D1 := D1) L ht hv
    · trivial
  | el E x off => exact RCp.lend_el (ρ1 := ρ1) (D1 := D1) L hv
  | pcs ls off => exact RCp.lend_pcs (ρ1 := ρ1) (D1 := D1) L hv
  | oel k E i off => trivial
  | fn f l =>
    obtain ⟨vs, h1, h2, h3⟩ := hv
    refine ⟨vs, h1, by simpa using h2, fun j c hj => ?_⟩
    rw [List.getElem?_map, Option.map_eq_some_iff] at hj
    obtain ⟨c0, hj, rfl⟩ := hj
    exact lendCp_ok L (h3 j c0 hj) (List.all_eq_true.1 ho c0 (List.mem_of_getElem? hj))
  | undef => trivial

omit L in
theorem lendL_get {bs : List (Nat × Blk)} : ∀ {cs : List C} {zs : List Z} {j : Nat} {c : C}, (lendL bs zs cs)[j]? = some c → ∃ c0 z, cs[j]? = some c0 ∧ c = lendC bs z c0
  | [], zs, j, c, h => by cases zs <;> simp [lendL] at h
  | c0 :: cs, [], 0, c, h => by simp [lendL] at h; exact ⟨c0, _, rfl, h.symm⟩
  | c0 :: cs, [], j + 1, c, h => by simp only [lendL, List.getElem?_cons_succ] at h ⊢; exact lendL_get h
  | c0 :: cs, z :: zs, 0, c, h => by simp [lendL] at h; exact ⟨c0, _, rfl, h.symm⟩
  | c0 :: cs, z :: zs, j + 1, c, h => by simp only [lendL, List.getElem?_cons_succ] at h ⊢; exact lendL_get h

omit L in
theorem lendL_len {bs : List (Nat × Blk)} : ∀ {cs : List C} {zs : List Z}, (lendL bs zs cs).length = cs.length
  | [], zs => by cases zs <;> rfl
  | c0 :: cs, [] => by simp [lendL, lendL_len (cs := cs)]
  | c0 :: cs, z :: zs => by simp [lendL, lendL_len (cs := cs)]

theorem lendV_ok {tab : Tab} {T : TypeId} {c : V} {v : Value} (hv : RV H ρ D c v) (ho : c.fnOk bs = true) : RV H1 ρ1 D1 (lendV tab bs T c) v := by
  cases c with
  | c x => exact lendC_ok L _ hv ho
  | agg cs =>
    obtain ⟨vs, h1, h2⟩ := hv
    refine ⟨vs, h1, by rw [lendL_len]; exact h2.1, fun j c hj => ?_⟩
    obtain ⟨c0, z, h3, rfl⟩ := lendL_get hj
    exact lendC_ok L z (h2.2 j c0 h3) (List.all_eq_true.1 ho c0 (List.mem_of_getElem? h3))
  | tup cs => trivial

theorem capC_ok {c : Cp} {v : Value} (hv : RCp H ρ D c v) (ho : (match lendCp bs c with | .ptr _ _ => false | _ => true) = true) : RV H1 ρ1 D1 (capC bs c) v := by
  have h := lendCp_ok (ρ1 := ρ1) (D1 := D1) L hv ho
  unfold capC
  split
  · rename_i E x off heq; rw [heq] at h; exact h
  · rename_i ls off heq; rw [heq] at h; exact h
  · trivial

end

/-! ### calls -/

/-- a call: by the contract of the function that is called -/
inductive CallA (P : Program) (f : FuncId) (as : List V) (K : V → List Blk → Prop) : Prop where
  | mk (post : V → List Blk → Prop) (hs : Spec P f as post) (hk : ∀ r nb, post r nb → K r nb)

/-- the blocks of a result get names -/
def addRes : List (Nat × Blk) → Nat → List Blk → List (Nat × Blk)
  | bs, _, [] => bs
  | bs, k, B :: nb => addRes (insB bs k B) (k + 1) nb

def freeB (bs : List (Nat × Blk)) (d : Nat) : Bool := bs.all fun p => p.1 < 8 * d || 8 * d + 8 ≤ p.1

theorem RelH.addRes {Γ : Ctx} {H : Hp} {a : Act} {w' : World} {H' : Hp} {ρ' : Rho} : ∀ (nb : List Blk) (j k : Nat) {ρ : Rho} {σ : SS} {w : World}, RelH Γ H ρ σ a w →
    (∀ b o, H b = some o → w'.heap[b]? = w.heap[b]?) → (∀ b, 0 < tot ρ σ.blk b → w'.heap[b]? = w.heap[b]?) → Ext w w' →
    (∀ i B, nb[i]? = some B → BlkR w'.heap H' ρ' (fun _ => False) B (ρ' (j + i)) ∧ ownB B = true) → (∀ i, i < nb.length → (ρ' (j + i)).1.oneCell' = true) →
    (∀ i x, i < nb.length → 0 < (ρ' (j + i)).2 x → H x = none ∧ tot ρ σ.blk x = 0) → (∀ x, tot ρ' (num j nb) x ≤ 1) → (∀ i, i < nb.length → getB σ.blk (k + i) = none) →
    ∃ ρ'', RelH Γ H ρ'' { σ with blk := addRes σ.blk k nb } a w' ∧ (∀ i, i < nb.length → dom (addRes σ.blk k nb) (k + i) ∧ (ρ'' (k + i)).1 = (ρ' (j + i)).1) ∧ (∀ i, dom σ.blk i → dom (addRes σ.blk k nb) i ∧ ρ'' i = ρ i)
  | [], j, k, ρ, σ, w, r, h1, h2, h3, _, _, _, _, _ => by
    refine ⟨ρ, ⟨⟨r.b.oc, r.b.nd, r.b.h0, fun b o hb => ?_, fun k B hk => ?_, r.b.sum, r.b.fresh, r.b.tops⟩, r.e, r.d, r.n.trans h3, r.hd, r.hm⟩, fun i hi => by simp at hi, fun i hi => ⟨hi, rfl⟩⟩
    · rw [h1 b o hb]; exact r.b.hh b o hb
    · exact (r.b.blk k B hk).mono (Grow.refl _ _ _) fun b hb => h2 b (Nat.lt_of_lt_of_le hb (tot_le hk b))
  | B :: nb, j, k, ρ, σ, w, r, h1, h2, h3, h4, h5, h6, h7, h8 => by
    have hk : getB σ.blk k = none := h8 0 (by simp)
    obtain ⟨hB, hown⟩ := h4 0 B rfl
    have hle : ∀ x, (ρ' j).2 x ≤ 1 := fun x => by
      have := h7 x
      simp only [num, tot] at this
      omega
    have r1 := r.new' (w' := w') (k := k) (B := B) (p := ρ' j) hk h1 h2 h3 (h5 0 (by simp)) (fun x hx => h6 0 x (by simp) hx) hle
      (by cases B with
        | own E xs l => exact hB
        | dead => simp [ownB] at hown
        | box cs => simp [ownB] at hown
        | view E xs => simp [ownB] at hown
        | hol E xs i fs => simp [ownB] at hown) (by rintro rfl; simp [ownB] at hown)
    have hkd := getB_none hk
    have hne : ∀ i, dom σ.blk i → i ≠ k := fun i hi he => hkd (he ▸ hi)
    have e1 : ∀ i, j + 1 + i = j + (i + 1) := fun i => by omega
    have e2 : ∀ i, k + 1 + i = k + (i + 1) := fun i => by omega
    obtain ⟨ρ'', r2, g1, g2⟩ := RelH.addRes nb (j + 1) (k + 1) r1 (fun _ _ _ => rfl) (fun _ _ => rfl) (Ext.refl _)
      (fun i A hi => by rw [e1]; exact h4 (i + 1) A (by simpa using hi)) (fun i hi => by rw [e1]; exact h5 (i + 1) (by simpa using hi))
      (fun i x hi hx => by
        rw [e1] at hx
        obtain ⟨g1, g2⟩ := h6 (i + 1) x (by simpa using hi) hx
        refine ⟨g1, ?_⟩
        show tot (upd ρ k (ρ' j)) (insB σ.blk k B) x = 0
        rw [tot_insB, upd_same, tot_congr (ρ := ρ) (ρ' := upd ρ k (ρ' j)) (fun i hi => upd_other (hne i hi)), g2]
        have h9 := h7 x
        simp only [num, tot] at h9
        have h10 := tot_le (ρ := ρ') (bs := num (j + 1) nb) (k := j + (i + 1)) (B := nb[i]) (mem_num.2 ⟨by omega, by rw [show j + (i + 1) - (j + 1) = i by omega]; exact List.getElem?_eq_getElem hi⟩) x
        omega)
      (fun x => by have := h7 x; simp only [num, tot] at this; omega)
      (fun i hi => by
        rw [e2]
        have h9 := h8 (i + 1) (by simpa using hi)
        have : ∀ bs : List (Nat × Blk), getB bs (k + (i + 1)) = none → getB (insB bs k B) (k + (i + 1)) = none := by
          intro bs
          induction bs with
          | nil => intro _; simp [insB, getB]
          | cons p bs ih =>
            intro h
            simp only [getB] at h
            split at h
            · cases h
            · rename_i hp
              simp only [insB]
              split
              · simp only [getB]
                rw [if_neg (by omega), if_neg hp]; exact h
              · simp only [getB]
                rw [if_neg hp]; exact ih h
        exact this _ h9)
    refine ⟨ρ'', r2, fun i hi => ?_, fun i hi => ?_⟩
    · cases i with
      | zero =>
        obtain ⟨g3, g4⟩ := g2 k (dom_insB.2 (.inl rfl))
        exact ⟨g3, by rw [Nat.add_zero, g4, upd_same]; rfl⟩
      | succ i =>
        have := g1 i (by simpa using hi)
        rw [e1, e2] at this
        exact this
    · obtain ⟨g3, g4⟩ := g2 i (dom_insB.2 (.inr hi))
      exact ⟨g3, by rw [g4, upd_other (hne i hi)]⟩

def calleeV (σ : SS) (o : Oper) : Option (V × Call) :=
  match o.op with
  | .call c => match c.callee with
    | .value x => some (σ.ev x, c)
    | _ => none
  | _ => none

/-- what is to be shown at a call -/
def vcCallR (P : Program) (tab : Tab) (σ : SS) (v : V) (c : Call) (dst : Option Nat) (K : SS → Prop) : Prop :=
  match v, dst with
  | .c (.fn f l), some d =>
    if freeB σ.blk d = true ∧ capsOk σ.blk l = true ∧ (c.args.toList.map σ.ev).all (V.fnOk σ.blk) = true ∧ c.argTypes.size = c.args.size then
      CallA P f (lendVs tab σ.blk c.argTypes.toList (c.args.toList.map σ.ev) ++ l.map (capC σ.blk)) fun r nb =>
        nb.length ≤ 8 ∧ K (({ σ with blk := addRes σ.blk (8 * d) nb } : SS).put (some d) (r.ren (8 * d + ·)))
    else False
  | _, _ => False


theorem lendVs_len {tab : Tab} {bs : List (Nat × Blk)} : ∀ {vs : List V} {Ts : List TypeId}, (lendVs tab bs Ts vs).length = vs.length
  | [], Ts => by cases Ts <;> rfl
  | v :: vs, [] => by simp [lendVs, lendVs_len (vs := vs)]
  | v :: vs, T :: Ts => by simp [lendVs, lendVs_len (vs := vs)]

section
variable {P : Program} {tab : Tab} {Γ : Ctx} {H : Hp} {ρ : Rho} {σ : SS} {a : Act} {w : World} (r : RelH Γ H ρ σ a w)
include r

theorem lendVs_get : ∀ {vs : List V} {Ts : List TypeId} {us : List Value}, (∀ (j : Nat) c v, vs[j]? = some c → us[j]? = some v → RV H ρ (dom σ.blk) c v) → vs.all (V.fnOk σ.blk) = true → vs.length = us.length →
    ∀ (j : Nat) c v, (lendVs tab σ.blk Ts vs)[j]? = some c → us[j]? = some v → RV (fun b => w.heap[b]?) (fun _ => default) (fun _ => False) c v
  | [], Ts, us, _, _, _, j, c, v, h, _ => by cases Ts <;> simp [lendVs] at h
  | x :: vs, [], us, hv, ho, hl, j, c, v, h, h' => by
    cases us with
    | nil => simp at hl
    | cons u us =>
      simp only [List.all_cons, Bool.and_eq_true] at ho
      cases j with
      | zero => simp [lendVs] at h; subst h; trivial
      | succ j =>
        simp only [lendVs, List.getElem?_cons_succ] at h h'
        exact lendVs_get (Ts := []) (fun j c v g1 g2 => hv (j + 1) c v (by simpa using g1) (by simpa using g2)) ho.2 (by simpa using hl) j c v h h'
  | x :: vs, T :: Ts, us, hv, ho, hl, j, c, v, h, h' => by
    cases us with
    | nil => simp at hl
    | cons u us =>
      simp only [List.all_cons, Bool.and_eq_true] at ho
      cases j with
      | zero =>
        simp [lendVs] at h h'; subst h h'
        exact lendV_ok r.lends (hv 0 x u rfl rfl) ho.1
      | succ j =>
        simp only [lendVs, List.getElem?_cons_succ] at h h'
        exact lendVs_get (Ts := Ts) (fun j c v g1 g2 => hv (j + 1) c v (by simpa using g1) (by simpa using g2)) ho.2 (by simpa using hl) j c v h h'

theorem vcCallR_ok {o : Oper} {v : V} {c : Call} {K : SS → Prop} {Q : Exit → Act → World → Prop} (hc : calleeV σ o = some (v, c)) (h : vcCallR P tab σ v c o.dst K) :
    o.wp P a w (fun a' w' => ∃ σ', K σ' ∧ RelK Γ H (isWr tab o) w σ' a' w') Q := by
  unfold calleeV at hc
  split at hc
  · rename_i c0 hop
    split at hc
    · rename_i x hcal
      cases hc
      unfold vcCallR at h
      split at h
      · rename_i f l d hx hd
        split at h
        · rename_i hcond
          obtain ⟨hfree, hcaps, hfn, hsize⟩ := hcond
          obtain ⟨post, ⟨⟨fn, hf1, hf2, hf3⟩, hs⟩, hk⟩ := h
          have ev := ev_ok r.e x
          rw [hx] at ev
          obtain ⟨vs, e1, e2, e3⟩ := ev
          have hrun : (execOp a.eval o).run P w = .ok (.enter f (c.args.map a.eval ++ vs)) w := by
            simp only [execOp, hop, resolve, hcal, Deferred.ofValue, e1, Sem.run_bind, Sem.run_pure, Result.andThen_ok, invoke, callFunc, run_program, hf1, hf2, hf3]
            simp
          have hargs : args (fun b => w.heap[b]?) (fun _ => default) (fun _ => False) (lendVs tab σ.blk c.argTypes.toList (c.args.toList.map σ.ev) ++ l.map (capC σ.blk)) (c.args.map a.eval ++ vs) := by
            refine ⟨by simp [lendVs_len, e2], fun j cv hj => ?_⟩
            rw [Array.getD_eq_getD_getElem?]
            by_cases hlt : j < c.args.size
            · rw [List.getElem?_append_left (by simpa [lendVs_len] using hlt)] at hj
              rw [Array.getElem?_append_left (by simpa using hlt)]
              have h1 : (c.args.map a.eval).toList[j]? = some (a.eval c.args[j]) := by simp [hlt]
              have h2 := lendVs_get r (map_ev r c.args) hfn (by simp) j cv _ hj h1
              simpa [hlt] using h2
            · rw [List.getElem?_append_right (by simpa [lendVs_len] using Nat.le_of_not_lt hlt)] at hj
              rw [Array.getElem?_append_right (by simpa using Nat.le_of_not_lt hlt)]
              simp only [lendVs_len, List.length_map, Array.length_toList, Array.size_map, List.getElem?_map, Option.map_eq_some_iff] at hj ⊢
              obtain ⟨c0, h1, rfl⟩ := hj
              have h2 := e3 _ c0 h1
              have h3 := List.all_eq_true.1 hcaps c0 (List.mem_of_getElem? h1)
              rw [← Array.getD_eq_getD_getElem?]
              exact capC_ok r.lends h2 h3
          unfold Oper.wp
          rw [hrun]
          simp only [Oper.upon]
          refine (hs w _ hargs).mono fun e w' he => ?_
          obtain ⟨v, rv, nb, H', ρ', rfl, hp, hown, hB, hv, hsz⟩ := he
          obtain ⟨hlen, hK⟩ := hk rv nb hp
          have hHn : ∀ x o, w.heap[x]? = some o → w'.heap[x]? = some o := fun x o hx => hB.hh x o (hB.h0 x o hx)
          have hsame : ∀ x, x < w.heap.size → w'.heap[x]? = w.heap[x]? := fun x hx => by rw [Array.getElem?_eq_getElem hx]; exact hHn x _ (Array.getElem?_eq_getElem hx)
          have hkeys : ∀ i, i < nb.length → getB σ.blk (8 * d + i) = none := fun i hi => by
            have : ∀ bs : List (Nat × Blk), freeB bs d = true → getB bs (8 * d + i) = none := by
              intro bs
              induction bs with
              | nil => intro _; rfl
              | cons p bs ih =>
                intro hfb
                simp only [freeB, List.all_cons, Bool.and_eq_true, Bool.or_eq_true, decide_eq_true_eq] at hfb
                simp only [getB]
                rw [if_neg (by omega)]
                exact ih hfb.2
            exact this _ hfree
          have hnum : ∀ (i : Nat) B, nb[i]? = some B → (i, B) ∈ num 0 nb := fun i B hi => mem_num.2 ⟨Nat.zero_le _, by simpa using hi⟩
          obtain ⟨ρ'', r1, g1, g2⟩ := RelH.addRes (H' := H') (ρ' := ρ') (w' := w') nb 0 (8 * d) r (fun b o hb => hsame b (lt_of_aget (r.b.hh b o hb))) (fun b hb => hsame b (r.lt hb)) hsz
            (fun i B hi => by
              have h1 := hB.blk i B (hnum i B hi)
              rw [Nat.zero_add]
              have h2 := List.all_eq_true.1 hown B (List.mem_of_getElem? hi)
              refine ⟨?_, h2⟩
              cases B with
              | own E xs l => exact h1
              | dead => cases h2
              | box cs => cases h2
              | view E xs => cases h2
              | hol E xs i fs => cases h2)
            (fun i hi => by rw [Nat.zero_add]; exact hB.oc i (dom_num.2 ⟨Nat.zero_le _, by omega⟩))
            (fun i x hi hx => by
              rw [Nat.zero_add] at hx
              have h1 := hB.fresh i _ (hnum i _ (List.getElem?_eq_getElem hi)) x hx
              refine r.none_above ?_
              rcases Nat.lt_or_ge x w.heap.size with h2 | h2
              · rw [Array.getElem?_eq_getElem h2] at h1; cases h1
              · exact h2)
            hB.sum hkeys
          refine ⟨_, hK, ⟨ρ'', ?_⟩, fun _ => hHn⟩
          rw [hd]
          refine RelH.put r1 (RV.ren (m := fun i => 8 * d + i) (D := dom (num 0 nb)) (ρ := ρ') (fun i hi => ?_) (hv.grow (H' := H) (ρ' := ρ') (D' := dom (num 0 nb)) ⟨(fun _ _ h => by cases h), (fun _ h => ⟨h, rfl⟩)⟩)) (some d)
          obtain ⟨_, hi⟩ := dom_num.1 hi
          have := g1 i (by omega)
          rw [Nat.zero_add] at this
          exact this
        · cases h
      · cases h
    · cases hc
  · cases hc

end

end Go.Proofs.Ytnmdhpaobmjefaa
