/-
  What a function's result is to be, and that a contract may say so in one form. No conditions.
-/
import Derived.Test.YtnmdhpaobmjefaaNorm
namespace Go.Proofs.Ytnmdhpaobmjefaa
open Go

/-- what a cell of a result is to be -/
inductive Sh where
  | int (k : IntKind) (x : Unit → Int)
  | bool (x : Unit → Bool)
  | str (x : Unit → List UInt8)
  | own (E : ETy) (x : Unit → List E.α)

inductive RSh where
  | c (s : Sh)
  | agg (ss : List Sh)
  | tup (ps : List (Bool × List Sh))

/-- how many blocks -/
def Sh.nb : Sh → Nat
  | .own _ _ => 1
  | _ => 0

def Sh.cell (k : Nat) : Sh → C
  | .int i x => .lf (.int i x)
  | .bool x => .lf (.bool x)
  | .str x => .lf (.str x)
  | .own _ _ => .own k

def cellsS : Nat → List Sh → List C
  | _, [] => []
  | k, s :: ss => s.cell k :: cellsS (k + s.nb) ss

def nbS : List Sh → Nat
  | [] => 0
  | s :: ss => s.nb + nbS ss

def cellsP : Nat → List (Bool × List Sh) → List (Bool × List C)
  | _, [] => []
  | k, p :: ps => (p.1, cellsS k p.2) :: cellsP (k + nbS p.2) ps

def Sh.blk : Sh → List Blk
  | .own E x => [.own E x false]
  | _ => []

def blksS : List Sh → List Blk
  | [] => []
  | s :: ss => s.blk ++ blksS ss

def flatS : List (Bool × List Sh) → List Sh
  | [] => []
  | p :: ps => p.2 ++ flatS ps

def RSh.v : RSh → V
  | .c s => .c (s.cell 0)
  | .agg ss => .agg (cellsS 0 ss)
  | .tup ps => .tup (cellsP 0 ps)

def RSh.bs : RSh → List Blk
  | .c s => s.blk
  | .agg ss => blksS ss
  | .tup ps => blksS (flatS ps)

/-- the same list, of the same type -/
def eqL : (E E' : ETy) → (Unit → List E.α) → (Unit → List E'.α) → Prop
  | .int, .int, x, t => t () = x ()
  | .byte, .byte, x, t => t () = x ()
  | .str, .str, x, t => t () = x ()
  | .pin, .pin, x, t => t () = x ()
  | .ent, .ent, x, t => t () = x ()
  | .pty, .pty, x, t => t () = x ()
  | .spk, .spk, x, t => t () = x ()
  | .cab, .cab, x, t => t () = x ()
  | .req, .req, x, t => t () = x ()
  | .rep, .rep, x, t => t () = x ()
  | _, _, _, _ => False

theorem eqL_eq {E E' : ETy} {x : Unit → List E.α} {t : Unit → List E'.α} {l : Bool} (h : eqL E E' x t) : Blk.own E' t l = Blk.own E x l := by
  cases E <;> cases E' <;> first
    | (simp only [eqL] at h; have h' : t = x := funext fun _ => h; subst h'; rfl)
    | (simp only [eqL] at h)

/-- something is owed; the rest is no more kept back -/
inductive Eqn (p : Unit → Prop) (q : Prop) : Prop where
  | mk (h : p ()) (hq : q)

/-- what is owed at one cell; an owned list may be nil -/
def mS (s : Sh) (c : C) (k : Nat) (bs : List Blk) (K : Nat → List Blk → Prop) : Prop :=
  match s, c with
  | .int k' x, .lf (.int i t) => if i = k' then Eqn (fun _ => t () = x ()) (K k bs) else False
  | .bool x, .lf (.bool t) => Eqn (fun _ => t () = x ()) (K k bs)
  | .bool x, .bl b => Eqn (fun _ => b = x ()) (K k bs)
  | .str x, .lf (.str t) => Eqn (fun _ => t () = x ()) (K k bs)
  | .own _ x, .nil => Eqn (fun _ => x () = []) (K k bs)
  | .own E x, .own j => if j = k then (match bs with | .own E' t false :: bs => Eqn (fun _ => eqL E E' x t) (K (k + 1) bs) | _ => False) else False
  | _, _ => False

def mL : List Sh → List C → Nat → List Blk → Prop
  | [], [], _, [] => True
  | s :: ss, c :: cs, k, bs => mS s c k bs fun k bs => mL ss cs k bs
  | _, _, _, _ => False

def sameP : List (Bool × List Sh) → List (Bool × List C) → Bool
  | [], [] => true
  | p :: ps, q :: qs => p.1 == q.1 && p.2.length == q.2.length && sameP ps qs
  | _, _ => false

def flatC : List (Bool × List C) → List C
  | [] => []
  | p :: ps => p.2 ++ flatC ps

/-- The result is as told. -/
def Ret (s : RSh) (r : V) (nb : List Blk) : Prop :=
  match s, r with
  | .c s, .c x => mL [s] [x] 0 nb
  | .agg ss, .agg cs => mL ss cs 0 nb
  | .tup ps, .tup qs => if sameP ps qs = true then mL (flatS ps) (flatC qs) 0 nb else False
  | _, _ => False

/-- which of the result's names each block had -/
def srcS : List Sh → List C → List (Option Nat)
  | .own _ _ :: ss, .own j :: cs => some j :: srcS ss cs
  | .own _ _ :: ss, .nil :: cs => none :: srcS ss cs
  | _ :: ss, _ :: cs => srcS ss cs
  | _, _ => []

def srcV (ρ : Rho) : Option Nat → Value × (Nat → Nat)
  | some j => ρ j
  | none => (.slice none 0 0, fun _ => 0)

section
variable {ρ ρ' : Rho} {D D' : Nat → Prop}

/-- the blocks, one by one -/
theorem mL_blk : ∀ {ss : List Sh} {cs : List C} {k : Nat} {bs : List Blk}, mL ss cs k bs → (srcS ss cs).length = (blksS ss).length ∧ nbS ss = (blksS ss).length ∧
    ∀ (i : Nat) B, (blksS ss)[i]? = some B → ∃ E x, B = .own E x false ∧ (((srcS ss cs)[i]? = some none ∧ x () = []) ∨ ∃ j, (srcS ss cs)[i]? = some (some j) ∧ k ≤ j ∧ bs[j - k]? = some (.own E x false))
  | [], cs, k, bs, h => by
    cases cs <;> cases bs <;> simp only [mL] at h
    exact ⟨rfl, rfl, fun i B hi => by simp [blksS] at hi⟩
  | s :: ss, [], k, bs, h => by simp [mL] at h
  | s :: ss, c :: cs, k, bs, h => by
    simp only [mL] at h
    unfold mS at h
    split at h
    · split at h
      · obtain ⟨_, h⟩ := h; have := mL_blk h; simpa [srcS, blksS, Sh.blk, nbS, Sh.nb] using this
      · cases h
    · obtain ⟨_, h⟩ := h; have := mL_blk h; simpa [srcS, blksS, Sh.blk, nbS, Sh.nb] using this
    · obtain ⟨_, h⟩ := h; have := mL_blk h; simpa [srcS, blksS, Sh.blk, nbS, Sh.nb] using this
    · obtain ⟨_, h⟩ := h; have := mL_blk h; simpa [srcS, blksS, Sh.blk, nbS, Sh.nb] using this
    · rename_i E x
      obtain ⟨hx, h⟩ := h
      obtain ⟨h1, h2, h3⟩ := mL_blk h
      refine ⟨by simp [srcS, blksS, Sh.blk, h1], by simp [blksS, Sh.blk, nbS, Sh.nb, h2]; omega, fun i B hi => ?_⟩
      cases i with
      | zero => simp [blksS, Sh.blk] at hi; exact ⟨E, x, hi.symm, .inl ⟨by simp [srcS], hx⟩⟩
      | succ i =>
        simp [blksS, Sh.blk] at hi
        obtain ⟨E', x', h4, h5⟩ := h3 i B hi
        refine ⟨E', x', h4, ?_⟩
        simpa [srcS] using h5
    · rename_i E x j
      split at h
      · rename_i hj
        subst hj
        split at h
        · rename_i bs0 E' t bs'
          obtain ⟨hx, h⟩ := h
          have he := eqL_eq (l := false) hx
          obtain ⟨h1, h2, h3⟩ := mL_blk h
          refine ⟨by simp [srcS, blksS, Sh.blk, h1], by simp [blksS, Sh.blk, nbS, Sh.nb, h2]; omega, fun i B hi => ?_⟩
          cases i with
          | zero => simp [blksS, Sh.blk] at hi; exact ⟨E, x, hi.symm, .inr ⟨j, by simp [srcS], Nat.le_refl _, by simp [he]⟩⟩
          | succ i =>
            simp [blksS, Sh.blk] at hi
            obtain ⟨E', x', h4, h5⟩ := h3 i B hi
            refine ⟨E', x', h4, ?_⟩
            rcases h5 with h5 | ⟨j', h5, h6, h7⟩
            · exact .inl (by simpa [srcS] using h5)
            · refine .inr ⟨j', by simpa [srcS] using h5, by omega, ?_⟩
              rw [show j' - j = (j' - (j + 1)) + 1 by omega]
              simpa using h7
        · cases h
      · cases h
    · cases h

theorem mL_tot {x : Nat} : ∀ {ss : List Sh} {cs : List C} {k : Nat} {bs : List Blk} {k' : Nat}, mL ss cs k bs →
    (∀ (i : Nat) o, (srcS ss cs)[i]? = some o → ρ' (k' + i) = srcV ρ o) → tot ρ' (num k' (blksS ss)) x = tot ρ (num k bs) x
  | [], cs, k, bs, k', h, hs => by
    cases cs <;> cases bs <;> simp only [mL] at h
    rfl
  | s :: ss, [], k, bs, k', h, hs => by simp [mL] at h
  | s :: ss, c :: cs, k, bs, k', h, hs => by
    simp only [mL] at h
    unfold mS at h
    split at h
    · split at h
      · obtain ⟨_, h⟩ := h; simp only [blksS, Sh.blk, List.nil_append]; exact mL_tot (ss := ss) (cs := cs) h (by simpa [srcS] using hs)
      · cases h
    · obtain ⟨_, h⟩ := h; simp only [blksS, Sh.blk, List.nil_append]; exact mL_tot (ss := ss) (cs := cs) h (by simpa [srcS] using hs)
    · obtain ⟨_, h⟩ := h; simp only [blksS, Sh.blk, List.nil_append]; exact mL_tot (ss := ss) (cs := cs) h (by simpa [srcS] using hs)
    · obtain ⟨_, h⟩ := h; simp only [blksS, Sh.blk, List.nil_append]; exact mL_tot (ss := ss) (cs := cs) h (by simpa [srcS] using hs)
    · obtain ⟨_, h⟩ := h
      have h0 := hs 0 none (by simp [srcS])
      have := mL_tot (x := x) (k' := k' + 1) h fun i o hi => by
        have := hs (i + 1) o (by simpa [srcS] using hi)
        rwa [show k' + (i + 1) = k' + 1 + i by omega] at this
      simp only [blksS, Sh.blk, List.cons_append, List.nil_append, num, tot, this]
      rw [Nat.add_zero] at h0
      simp [h0, srcV]
    · rename_i E y j
      split at h
      · rename_i hj
        subst hj
        split at h
        · obtain ⟨_, h⟩ := h
          have h0 := hs 0 (some j) (by simp [srcS])
          have := mL_tot (x := x) (k' := k' + 1) h fun i o hi => by
            have := hs (i + 1) o (by simpa [srcS] using hi)
            rwa [show k' + (i + 1) = k' + 1 + i by omega] at this
          simp only [blksS, Sh.blk, List.cons_append, List.nil_append, num, tot, this]
          rw [Nat.add_zero] at h0
          simp [h0, srcV]
        · cases h
      · cases h
    · cases h

/-- the cells, one by one -/
theorem mL_cell : ∀ {ss : List Sh} {cs : List C} {k : Nat} {bs : List Blk} {k' : Nat}, mL ss cs k bs →
    (∀ (i : Nat) o, (srcS ss cs)[i]? = some o → ρ' (k' + i) = srcV ρ o) → (∀ i, i < nbS ss → D' (k' + i)) →
    (cellsS k' ss).length = cs.length ∧ ∀ (j : Nat) c c', cs[j]? = some c → (cellsS k' ss)[j]? = some c' → ∀ v, RC noH ρ D c v → RC noH ρ' D' c' v
  | [], cs, k, bs, k', h, hs, hd => by
    cases cs <;> cases bs <;> simp only [mL] at h
    exact ⟨rfl, fun j c c' hj => by simp at hj⟩
  | s :: ss, [], k, bs, k', h, hs, hd => by simp [mL] at h
  | s :: ss, c :: cs, k, bs, k', h, hs, hd => by
    have step : ∀ {s : Sh} {c : C} {k2 : Nat} {bs2 : List Blk}, mL ss cs k2 bs2 → (∀ (i : Nat) o, (srcS ss cs)[i]? = some o → ρ' (k' + s.nb + i) = srcV ρ o) → (∀ i, i < nbS ss → D' (k' + s.nb + i)) →
        (∀ v, RC noH ρ D c v → RC noH ρ' D' (s.cell k') v) →
        (cellsS k' (s :: ss)).length = (c :: cs).length ∧ ∀ (j : Nat) c0 c', (c :: cs)[j]? = some c0 → (cellsS k' (s :: ss))[j]? = some c' → ∀ v, RC noH ρ D c0 v → RC noH ρ' D' c' v := by
      intro s c k2 bs2 h hs hd hc
      obtain ⟨h1, h2⟩ := mL_cell h hs hd
      refine ⟨by simp [cellsS, h1], fun j c0 c' hj hj' v hv => ?_⟩
      cases j with
      | zero => simp [cellsS] at hj hj'; subst hj; subst hj'; exact hc v hv
      | succ j => simp [cellsS] at hj hj'; exact h2 j c0 c' hj hj' v hv
    simp only [mL] at h
    unfold mS at h
    split at h
    · split at h
      · rename_i k1 x1 i1 t1 hi1
        obtain ⟨hx, h⟩ := h
        subst hi1
        refine step h (by simpa [srcS, Sh.nb] using hs) (by simpa [nbS, Sh.nb] using hd) fun v hv => ?_
        simp only [RC, Sh.cell] at hv ⊢
        obtain ⟨rfl, h2⟩ := RL.of_int hv
        rw [hx] at h2 ⊢
        exact RL.int (t := x1) h2
      · cases h
    · rename_i x1 t1
      obtain ⟨hx, h⟩ := h
      refine step h (by simpa [srcS, Sh.nb] using hs) (by simpa [nbS, Sh.nb] using hd) fun v hv => ?_
      simp only [RC, Sh.cell] at hv ⊢
      have := RL.of_bool hv
      subst this
      rw [hx]
      exact RL.bool (t := x1)
    · rename_i x1 b1
      obtain ⟨hx, h⟩ := h
      refine step h (by simpa [srcS, Sh.nb] using hs) (by simpa [nbS, Sh.nb] using hd) fun v hv => ?_
      simp only [RC, Sh.cell] at hv ⊢
      subst hv
      rw [hx]
      exact RL.bool (t := x1)
    · rename_i x1 t1
      obtain ⟨hx, h⟩ := h
      refine step h (by simpa [srcS, Sh.nb] using hs) (by simpa [nbS, Sh.nb] using hd) fun v hv => ?_
      simp only [RC, Sh.cell] at hv ⊢
      obtain ⟨rfl, h2⟩ := RL.of_str hv
      rw [hx] at h2 ⊢
      exact RL.str (t := x1) h2
    · rename_i E1 x1
      obtain ⟨hx, h⟩ := h
      refine step h (fun i o hi => ?_) (fun i hi => ?_) fun v hv => ?_
      · have := hs (i + 1) o (by simpa [srcS] using hi)
        rwa [show k' + (i + 1) = k' + 1 + i by omega] at this
      · have := hd (i + 1) (by simp only [nbS, Sh.nb]; omega)
        rwa [show k' + (i + 1) = k' + 1 + i by omega] at this
      · simp only [RC, Sh.cell] at hv ⊢
        refine ⟨hd 0 (by simp only [nbS, Sh.nb]; omega), ?_⟩
        rw [hv, show k' = k' + 0 from rfl, hs 0 none (by simp [srcS])]
        rfl
    · rename_i E1 x1 j1
      split at h
      · rename_i hj
        subst hj
        split at h
        · obtain ⟨hx, h⟩ := h
          refine step h (fun i o hi => ?_) (fun i hi => ?_) fun v hv => ?_
          · have := hs (i + 1) o (by simpa [srcS] using hi)
            rwa [show k' + (i + 1) = k' + 1 + i by omega] at this
          · have := hd (i + 1) (by simp only [nbS, Sh.nb]; omega)
            rwa [show k' + (i + 1) = k' + 1 + i by omega] at this
          · simp only [RC, Sh.cell] at hv ⊢
            refine ⟨hd 0 (by simp only [nbS, Sh.nb]; omega), ?_⟩
            rw [hv.2, show k' = k' + 0 from rfl, hs 0 (some j1) (by simp [srcS])]
            rfl
        · cases h
      · cases h
    · cases h

theorem cellsS_app : ∀ {ss ts : List Sh} {k : Nat}, cellsS k (ss ++ ts) = cellsS k ss ++ cellsS (k + nbS ss) ts
  | [], ts, k => by simp [cellsS, nbS]
  | s :: ss, ts, k => by simp only [List.cons_append, cellsS, cellsS_app (ss := ss), nbS, Nat.add_assoc]

theorem cellsS_len : ∀ {ss : List Sh} {k : Nat}, (cellsS k ss).length = ss.length
  | [], _ => rfl
  | s :: ss, k => by simp [cellsS, cellsS_len (ss := ss)]

/-- the components of a tuple, from its cells -/
theorem cellsP_ok : ∀ {ps : List (Bool × List Sh)} {qs : List (Bool × List C)} {k : Nat}, sameP ps qs = true →
    (∀ (j : Nat) c c', (flatC qs)[j]? = some c → (cellsS k (flatS ps))[j]? = some c' → ∀ v, RC noH ρ D c v → RC noH ρ' D' c' v) →
    (cellsP k ps).length = qs.length ∧ ∀ (j : Nat) q p, qs[j]? = some q → (cellsP k ps)[j]? = some p → ∀ v, RT noH ρ D q v → RT noH ρ' D' p v
  | [], qs, k, h, hc => by
    cases qs <;> simp only [sameP] at h
    · exact ⟨rfl, fun j q p hj => by simp at hj⟩
    · cases h
  | p0 :: ps, [], k, h, hc => by simp [sameP] at h
  | p0 :: ps, q0 :: qs, k, h, hc => by
    simp only [sameP, Bool.and_eq_true, beq_iff_eq] at h
    obtain ⟨⟨h1, h2⟩, h3⟩ := h
    have hl : (cellsS k p0.2).length = q0.2.length := by rw [cellsS_len, h2]
    obtain ⟨h4, h5⟩ := cellsP_ok (k := k + nbS p0.2) h3 fun j c c' hj hj' => hc (q0.2.length + j) c c' (by
        simp only [flatC]; rw [List.getElem?_append_right (Nat.le_add_right _ _), Nat.add_sub_cancel_left]; exact hj) (by
        simp only [flatS, cellsS_app]; rw [List.getElem?_append_right (by omega), hl, Nat.add_sub_cancel_left]; exact hj')
    refine ⟨by simp [cellsP, h4], fun j q p hj hj' v hv => ?_⟩
    cases j with
    | succ j => simp [cellsP] at hj hj'; exact h5 j q p hj hj' v hv
    | zero =>
      simp [cellsP] at hj hj'
      subst hj; subst hj'
      have hcell : ∀ (j : Nat) c c', q0.2[j]? = some c → (cellsS k p0.2)[j]? = some c' → ∀ v, RC noH ρ D c v → RC noH ρ' D' c' v := fun j c c' hj hj' => by
        have hlt := lt_of_get hj
        exact hc j c c' (by simp only [flatC]; rw [List.getElem?_append_left hlt]; exact hj) (by
          simp only [flatS, cellsS_app]; rw [List.getElem?_append_left (by omega)]; exact hj')
      obtain ⟨b, ss⟩ := p0
      obtain ⟨b', cs⟩ := q0
      simp only at h1 hl hcell
      subst h1
      cases b with
      | true =>
        obtain ⟨vs, h6, h7, h8⟩ := hv
        refine ⟨vs, h6, by simp only at h7 ⊢; omega, fun j c hj => ?_⟩
        simp only at hj h8
        obtain ⟨c0, hc0⟩ : ∃ c0, cs[j]? = some c0 := ⟨_, List.getElem?_eq_getElem (by have := lt_of_get hj; omega)⟩
        exact hcell j c0 c hc0 hj _ (h8 j c0 hc0)
      | false =>
        obtain ⟨c, h6, h7⟩ := hv
        simp only at h6
        subst h6
        simp only [List.length_singleton] at hl
        obtain ⟨c', hc'⟩ : ∃ c', cellsS k ss = [c'] := List.length_eq_one_iff.1 hl
        exact ⟨c', hc', hcell 0 c c' rfl (by rw [hc']; rfl) _ h7⟩

end

/-- a result that is told cell by cell, in one form -/
theorem Ret.canon {h : Array Obj} {H0 H' : Hp} {ρ : Rho} {s : RSh} {r : V} {nb : List Blk} {v : Value} (hret : Ret s r nb) (hb : RelB h H0 H' ρ (num 0 nb)) (hv : RV noH ρ (dom (num 0 nb)) r v) :
    ∃ ρ', s.bs.all ownB = true ∧ RelB h H0 H' ρ' (num 0 s.bs) ∧ RV noH ρ' (dom (num 0 s.bs)) s.v v := by
  -- one list of cells
  obtain ⟨ss, cs, hm, hbs, hcan⟩ : ∃ ss cs, mL ss cs 0 nb ∧ s.bs = blksS ss ∧ ∀ {ρ' : Rho} {D' : Nat → Prop},
      (∀ (j : Nat) c c', cs[j]? = some c → (cellsS 0 ss)[j]? = some c' → ∀ v, RC noH ρ (dom (num 0 nb)) c v → RC noH ρ' D' c' v) → RV noH ρ' D' s.v v := by
    unfold Ret at hret
    split at hret
    · rename_i s x
      refine ⟨[s], [x], hret, by simp [RSh.bs, blksS], fun hc => ?_⟩
      exact hc 0 x _ rfl rfl v hv
    · rename_i ss cs
      refine ⟨ss, cs, hret, rfl, fun hc => ?_⟩
      obtain ⟨us, h1, h2, h3⟩ := hv
      have hl : (cellsS 0 ss).length = cs.length := (mL_cell (ρ := ρ) (ρ' := fun i => match (srcS ss cs)[i]? with | some o => srcV ρ o | none => default) (D := fun _ => True) (D' := fun _ => True) hret (fun i o hi => by simp [hi]) fun _ _ => trivial).1
      refine ⟨us, h1, by simp only [hl]; exact h2, fun j c hj => ?_⟩
      obtain ⟨c0, hc0⟩ : ∃ c0, cs[j]? = some c0 := ⟨_, List.getElem?_eq_getElem (by have := lt_of_get hj; omega)⟩
      exact hc j c0 c hc0 hj _ (h3 j c0 hc0)
    · rename_i ps qs
      split at hret
      · rename_i hsame
        refine ⟨flatS ps, flatC qs, hret, rfl, fun hc => ?_⟩
        obtain ⟨us, h1, h2, h3⟩ := hv
        obtain ⟨h4, h5⟩ := cellsP_ok hsame hc
        refine ⟨us, h1, by rw [h4]; exact h2, fun j p hj => ?_⟩
        obtain ⟨q, hq⟩ : ∃ q, qs[j]? = some q := ⟨_, List.getElem?_eq_getElem (by have := lt_of_get hj; omega)⟩
        exact h5 j q p hq hj _ (h3 j q hq)
      · cases hret
    · cases hret
  obtain ⟨hl, hn, hblk⟩ := mL_blk hm
  let ρ' : Rho := fun i => match (srcS ss cs)[i]? with | some o => srcV ρ o | none => default
  have hρ : ∀ (i : Nat) o, (srcS ss cs)[i]? = some o → ρ' (0 + i) = srcV ρ o := fun i o hi => by simp only [ρ', Nat.zero_add, hi]
  have hmem : ∀ k B, (k, B) ∈ num 0 (blksS ss) → ∃ E x, B = .own E x false ∧ ((ρ' k = (.slice none 0 0, fun _ => 0) ∧ x () = []) ∨ ∃ j, ρ' k = ρ j ∧ (j, Blk.own E x false) ∈ num 0 nb) := fun k B hk => by
    obtain ⟨_, h1⟩ := mem_num.1 hk
    obtain ⟨E, x, h2, h3⟩ := hblk k B (by simpa using h1)
    refine ⟨E, x, h2, ?_⟩
    rcases h3 with ⟨h3, h4⟩ | ⟨j, h3, h4, h5⟩
    · exact .inl ⟨by have := hρ k none h3; rw [Nat.zero_add] at this; exact this, h4⟩
    · exact .inr ⟨j, by have := hρ k _ h3; rw [Nat.zero_add] at this; exact this, mem_num.2 ⟨Nat.zero_le _, h5⟩⟩
  refine ⟨ρ', ?_, ?_, hcan ?_⟩
  · rw [hbs]
    refine List.all_eq_true.2 fun B hB => ?_
    obtain ⟨j, hj, hjB⟩ := List.getElem_of_mem hB
    obtain ⟨E, x, rfl, _⟩ := hblk j B (by rw [List.getElem?_eq_getElem hj, hjB])
    rfl
  · rw [hbs]
    refine ⟨fun k hk => ?_, nodup_num, hb.h0, hb.hh, fun k B hk => ?_, fun x => ?_, fun k B hk x hx => ?_, fun k B hk x hx => ?_⟩
    · obtain ⟨⟨k', B⟩, hkB, rfl⟩ := List.mem_map.1 hk
      obtain ⟨E, x, rfl, ⟨h1, _⟩ | ⟨j, h1, h2⟩⟩ := hmem k' B hkB
      · rw [h1]; rfl
      · rw [h1]; exact hb.oc j (List.mem_map.2 ⟨_, h2, rfl⟩)
    · obtain ⟨E, x, rfl, ⟨h1, h3⟩ | ⟨j, h1, h2⟩⟩ := hmem k B hk
      · rw [h1]; exact OwnL.nil h3
      · rw [h1]; exact hb.blk j _ h2
    · rw [mL_tot hm hρ]; exact hb.sum x
    · obtain ⟨E, y, rfl, ⟨h1, _⟩ | ⟨j, h1, h2⟩⟩ := hmem k B hk
      · rw [h1] at hx; simp at hx
      · rw [h1] at hx; exact hb.fresh j _ h2 x hx
    · obtain ⟨E, y, rfl, ⟨h1, _⟩ | ⟨j, h1, h2⟩⟩ := hmem k B hk
      · rw [h1] at hx; simp [Top] at hx
      · rw [h1] at hx; exact hb.tops j _ h2 x hx
  · rw [hbs]
    exact (mL_cell hm hρ fun i hi => dom_num.2 ⟨Nat.zero_le _, by rw [Nat.zero_add, Nat.zero_add, ← hn]; exact hi⟩).2

/-- a contract whose result is told cell by cell gives it in one form -/
theorem Spec.can {P : Program} {f : FuncId} {as : List V} {s : RSh} (h : Spec P f as (Ret s)) : Spec P f as fun r nb => r = s.v ∧ nb = s.bs := by
  refine ⟨h.1, fun w vs ha => Calls.mono (h.2 w vs ha) fun e w' hw => ?_⟩
  obtain ⟨v, r, nb, H', ρ, rfl, hret, hown, hb, hv, hsz⟩ := hw
  obtain ⟨ρ', h1, h2, h3⟩ := hret.canon hb hv
  exact ⟨v, s.v, s.bs, H', ρ', rfl, ⟨rfl, rfl⟩, h1, h2, h3, hsz⟩

/-- what is told of a result that hangs on a value of which something is known -/
def RetX (X : Type) (φ : X → Prop) (s : X → RSh) (r : V) (nb : List Blk) : Prop := ∃ x, φ x ∧ Ret (s x) r nb

theorem Spec.canX {P : Program} {f : FuncId} {as : List V} {X : Type} {φ : X → Prop} {s : X → RSh} (h : Spec P f as (RetX X φ s)) : Spec P f as fun r nb => ∃ x, φ x ∧ r = (s x).v ∧ nb = (s x).bs := by
  refine ⟨h.1, fun w vs ha => Calls.mono (h.2 w vs ha) fun e w' hw => ?_⟩
  obtain ⟨v, r, nb, H', ρ, rfl, ⟨x, hx, hret⟩, hown, hb, hv, hsz⟩ := hw
  obtain ⟨ρ', h1, h2, h3⟩ := hret.canon hb hv
  exact ⟨v, (s x).v, (s x).bs, H', ρ', rfl, ⟨x, hx, rfl, rfl⟩, h1, h2, h3, hsz⟩

theorem Br.dec {p : Prop} [Decidable p] {K : Bool → Prop} (h1 : p → K true) (h0 : ¬ p → K false) : Br (fun _ => decide p) K :=
  Br.split (fun h => h1 (of_decide_eq_true h)) fun h => h0 (of_decide_eq_false h)

/-- the same, for a program by another name -/
theorem spec_of {P : Program} {tab : Tab} (hT : tabB P tab = true) {f : FuncId} {fn : Func} {c : Code} (hf : P.funcs[f]? = some fn) (hb : fn.body = some c) (hnm : (fn.name == "runtime.NumGoroutine") = false)
    {as : List V} {post : V → List Blk → Prop} (h : ∀ P', P' = P → okAs as → vcFunc P' tab fn c as post) : Spec P f as post := spec_of_vc hT hf hb hnm (h P rfl)

/-- a call, by the function's contract -/
theorem CallA.by {P P0 : Program} {f : FuncId} {as : List V} {K : V → List Blk → Prop} {s : RSh} (hP : P = P0) (h : Spec P0 f as (Ret s)) (hk : K s.v s.bs) : CallA P f as K := by
  subst hP
  exact ⟨_, h.can, fun r nb ⟨h1, h2⟩ => by rw [h1, h2]; exact hk⟩

theorem CallA.byE {P P0 : Program} {f : FuncId} {as as' : List V} {K : V → List Blk → Prop} {s : RSh} (hP : P = P0) (h : Spec P0 f as (Ret s)) (ha : as' = as) (hk : K s.v s.bs) : CallA P f as' K := by
  subst ha
  exact CallA.by hP h hk

/-- a call, by a contract whose result hangs on a value of which something is known -/
theorem CallA.ex {P P0 : Program} {f : FuncId} {as : List V} {K : V → List Blk → Prop} {X : Type} {φ : X → Prop} {s : X → RSh} (hP : P = P0) (h : Spec P0 f as (RetX X φ s)) (hk : ∀ x, φ x → K (s x).v (s x).bs) : CallA P f as K := by
  subst hP
  exact ⟨_, h.canX, fun r nb ⟨x, hx, h1, h2⟩ => by rw [h1, h2]; exact hk x hx⟩

def iA (x : Int) : V := .c (.lf (.int .i64 fun _ => x))
def bA (x : Bool) : V := .c (.lf (.bool fun _ => x))
def yA (x : Int) : V := .c (.lf (.int .u8 fun _ => x))
def sA (x : List UInt8) : V := .c (.lf (.str fun _ => x))
def lA (E : ETy) (x : List E.α) : V := .c (.lf (.list E fun _ => x))
/-- a struct, as its cells read -/
def eA (E : ETy) (x : E.α) : V := .agg ((cellsT E fun _ => x).map .lf)
def iR (x : Unit → Int) : RSh := .c (.int .i64 x)
def bR (x : Unit → Bool) : RSh := .c (.bool x)
def sR (x : Unit → List UInt8) : RSh := .c (.str x)
/-- a struct, as its cells are owned -/
def eR : (E : ETy) → (Unit → E.α) → RSh
  | .int, x => .c (.int .i64 x)
  | .byte, x => .c (.int .u8 fun _ => ((x ()).toNat : Int))
  | .str, x => .c (.str x)
  | .pin, x => .agg [.int .i64 fun _ => (x ()).tm, .int .i64 fun _ => (x ()).pid]
  | .ent, x => .agg [.int .i64 fun _ => (x ()).lvl, .int .i64 fun _ => (x ()).turn, .int .i64 fun _ => (x ()).eid, .int .i64 fun _ => (x ()).siz]
  | .pty, x => .agg [.int .i64 fun _ => (x ()).id, .int .i64 fun _ => (x ()).cab, .int .i64 fun _ => (x ()).frm, .int .i64 fun _ => (x ()).siz, .int .i64 fun _ => (x ()).tier,
      .int .i64 fun _ => (x ()).since, .int .i64 fun _ => (x ()).turn, .int .i64 fun _ => (x ()).st, .int .i64 fun _ => (x ()).untl, .int .i64 fun _ => (x ()).asked]
  | .spk, x => .c (.own .pin x)
  | .cab, x => .agg [.int .i64 fun _ => (x ()).seats.total, .int .i64 fun _ => (x ()).seats.free, .int .i64 fun _ => (x ()).seats.held, .int .i64 fun _ => (x ()).seats.sold, .int .i64 fun _ => (x ()).seats.tied,
      .own .ent fun _ => (x ()).row, .own .spk fun _ => (x ()).spoke]
  | .req, x => .agg [.int .i64 fun _ => (x ()).kind, .int .i64 fun _ => (x ()).id, .int .i64 fun _ => (x ()).cab, .int .i64 fun _ => (x ()).frm, .int .i64 fun _ => (x ()).siz, .int .i64 fun _ => (x ()).tier]
  | .rep, x => .agg [.int .i64 fun _ => (x ()).code, .own .int fun _ => (x ()).ids]
def lR (E : ETy) (x : Unit → List E.α) : RSh := .c (.own E x)

end Go.Proofs.Ytnmdhpaobmjefaa
