/-
  Calls that hand over memory. No conditions.
-/
import Derived.Test.YtnmdhpaobmjefaaRun
namespace Go.Proofs.Ytnmdhpaobmjefaa
open Go

/-! ### what is handed over -/

def C.nm : C → List Nat
  | .own k => [k]
  | .ptr k _ => [k]
  | _ => []

def nmL : List C → List Nat
  | [] => []
  | c :: cs => c.nm ++ nmL cs

def V.nm : V → List Nat
  | .c x => x.nm
  | .agg cs => nmL cs
  | .tup _ => []

/-- a cell that may be handed over -/
def C.pass : C → Bool
  | .own _ | .ptr _ _ | .bl _ | .nil | .undef => true
  | .lf l => l.sc
  | _ => false

def V.pass : V → Bool
  | .c x => x.pass
  | .agg cs => cs.all C.pass
  | .tup _ => false

def insN (ks : List Nat) : List Nat → List Nat
  | [] => ks
  | x :: xs => if ks.contains x then insN ks xs else insN (ks ++ [x]) xs

def blkNm : Option Blk → List Nat
  | some (.box cs) => nmL cs
  | _ => []

/-- names in the arguments that are handed over -/
def argNm : List Bool → List V → List Nat
  | true :: ms, v :: vs => v.nm ++ argNm ms vs
  | false :: ms, _ :: vs => argNm ms vs
  | _, _ => []

def boxNm (bs : List (Nat × Blk)) : List Nat → List Nat
  | [] => []
  | k :: ks => blkNm (getB bs k) ++ boxNm bs ks

def handNm (bs : List (Nat × Blk)) (ms : List Bool) (vs : List V) : List Nat :=
  insN (insN [] (argNm ms vs)) (boxNm bs (insN [] (argNm ms vs)))

/-- blocks without those that are handed over -/
def restB (ks : List Nat) : List (Nat × Blk) → List (Nat × Blk)
  | [] => []
  | p :: bs => if ks.contains p.1 then restB ks bs else p :: restB ks bs

/-- a cell of a variable that is handed over -/
def C.box (ks : List Nat) : C → Bool
  | .own k => ks.contains k
  | .lf l => l.sc
  | .bl _ | .nil | .undef => true
  | _ => false

/-- a block, as it is handed over -/
def passB (ks : List Nat) : Option Blk → Option Blk
  | some (.own E xs false) => some (.own E xs false)
  | some (.box cs) => if cs.all (C.box ks) = true then some (.box (renL (place ks) cs)) else none
  | _ => none

def passBs (bs : List (Nat × Blk)) (ks : List Nat) : List Nat → Option (List Blk)
  | [] => some []
  | k :: r => match passB ks (getB bs k), passBs bs ks r with | some B, some l => some (B :: l) | _, _ => none

def handVs (tab : Tab) (bs : List (Nat × Blk)) (ks : List Nat) : List Bool → List TypeId → List V → List V
  | _, _, [] => []
  | true :: ms, Ts, v :: vs => v.ren (place ks) :: handVs tab bs ks ms Ts.tail vs
  | ms, T :: Ts, v :: vs => lendV tab bs T v :: handVs tab bs ks ms.tail Ts vs
  | ms, [], _ :: vs => .c .undef :: handVs tab bs ks ms.tail [] vs

def handOk (bs : List (Nat × Blk)) : List Bool → List V → Bool
  | _, [] => true
  | true :: ms, v :: vs => v.pass && handOk bs ms vs
  | ms, v :: vs => v.fnOk bs && handOk bs ms.tail vs

/-- from a name of the function that was called to one of the caller's -/
def backM (ks : List Nat) (d j : Nat) : Nat := if j < 100 then ks.getD j 0 else 8 * d + (j - 100)

def Blk.ren (m : Nat → Nat) : Blk → Blk
  | .box cs => .box (renL m cs)
  | B => B

def putB (bs : List (Nat × Blk)) (k : Nat) (B : Blk) : List (Nat × Blk) :=
  match getB bs k with
  | some _ => setB bs k B
  | none => insB bs k B

def graftB (m : Nat → Nat) : List (Nat × Blk) → List (Nat × Blk) → List (Nat × Blk)
  | [], bs => bs
  | (j, B) :: r, bs => graftB m r (putB bs (m j) (B.ren m))

/-- a cell of a variable that comes back -/
def C.bk (n : Nat) : C → Bool
  | .own k => decide (k < n)
  | .lf l => l.sc
  | .bl _ | .nil | .undef => true
  | _ => false

/-- a block that comes back -/
def backOk (n : Nat) (p : Nat × Blk) : Bool :=
  (decide (p.1 < n) || (decide (100 ≤ p.1) && decide (p.1 < 108))) &&
    match p.2 with
    | .own _ _ false => true
    | .box cs => cs.all (C.bk n)
    | _ => false

/-- a call of a function that is handed blocks: by its contract -/
inductive CallM (P : Program) (f : FuncId) (as : List V) (bs : List (Nat × Blk)) (K : V → List (Nat × Blk) → Prop) : Prop where
  | mk (post : V → List (Nat × Blk) → Prop) (hs : SpecM P f as bs post) (hk : ∀ r bs', post r bs' → K r bs')

/-- what is to be shown at a call that hands blocks over -/
def vcCallM (P : Program) (tab : Tab) (σ : SS) (f : FuncId) (l : List Cp) (ms : List Bool) (c : Call) (d : Nat) (K : SS → Prop) : Prop :=
  match passBs σ.blk (handNm σ.blk ms (c.args.toList.map σ.ev)) (handNm σ.blk ms (c.args.toList.map σ.ev)) with
  | some nb =>
    if freeB σ.blk d = true ∧ nb.length ≤ 100 ∧ nodupB (handNm σ.blk ms (c.args.toList.map σ.ev)) = true ∧ capsOk (restB (handNm σ.blk ms (c.args.toList.map σ.ev)) σ.blk) l = true ∧ c.argTypes.size = c.args.size ∧
        handOk (restB (handNm σ.blk ms (c.args.toList.map σ.ev)) σ.blk) ms (c.args.toList.map σ.ev) = true then
      CallM P f (handVs tab (restB (handNm σ.blk ms (c.args.toList.map σ.ev)) σ.blk) (handNm σ.blk ms (c.args.toList.map σ.ev)) ms c.argTypes.toList (c.args.toList.map σ.ev) ++ l.map (capC (restB (handNm σ.blk ms (c.args.toList.map σ.ev)) σ.blk))) (num 0 nb) fun r bs' =>
        (bs'.all (backOk nb.length) = true ∧ r.cl = true) ∧
          K (({ σ with blk := graftB (backM (handNm σ.blk ms (c.args.toList.map σ.ev)) d) bs' (killL σ.blk (handNm σ.blk ms (c.args.toList.map σ.ev))) } : SS).put (some d) (r.ren (backM (handNm σ.blk ms (c.args.toList.map σ.ev)) d)))
    else False
  | none => False

def vcCall (P : Program) (tab : Tab) (σ : SS) (v : V) (c : Call) (dst : Option Nat) (K : SS → Prop) : Prop :=
  match v, dst with
  | .c (.fn f l), some d =>
    match muT tab f with
    | some ms => vcCallM P tab σ f l ms c d K
    | none => vcCallR P tab σ v c dst K
  | _, _ => False

/-! ### what comes back is grafted in -/

theorem getB_restB {ks : List Nat} {bs : List (Nat × Blk)} {k : Nat} {B : Blk} (h : getB (restB ks bs) k = some B) : getB bs k = some B ∧ k ∉ ks := by
  induction bs with
  | nil => simp [restB, getB] at h
  | cons p bs ih =>
    simp only [restB] at h
    split at h
    · rename_i hc
      obtain ⟨h1, h2⟩ := ih h
      refine ⟨?_, h2⟩
      simp only [getB]
      rw [if_neg fun he => h2 (by rw [← he]; simpa using hc)]
      exact h1
    · rename_i hc
      simp only [getB] at h ⊢
      split at h
      · rename_i he
        cases h
        rw [if_pos he]
        exact ⟨rfl, by rw [← he]; simpa using hc⟩
      · rename_i he
        rw [if_neg he]
        exact ih h

theorem dom_putB {bs : List (Nat × Blk)} {k : Nat} {B : Blk} {j : Nat} : dom (putB bs k B) j ↔ j = k ∨ dom bs j := by
  unfold putB
  split
  · rename_i hk
    rw [dom_setB]
    exact ⟨.inr, fun h => by rcases h with rfl | h; exact getB_dom hk; exact h⟩
  · exact dom_insB

theorem nodupB_nodup' {l : List Nat} (h : nodupB l = true) : l.Nodup := by
  induction l with
  | nil => simp
  | cons x l ih => obtain ⟨h1, h2⟩ := nodupB_cons h; exact List.nodup_cons.2 ⟨h1, ih h2⟩

section
variable {Γ : Ctx} {H : Hp} {a : Act} {w w' : World}

/-- the heap is another, but not where it is known or owned -/
theorem RelH.move {ρ : Rho} {σ : SS} (r : RelH Γ H ρ σ a w) (h1 : ∀ b o, H b = some o → w'.heap[b]? = w.heap[b]?) (h2 : ∀ b, 0 < tot ρ σ.blk b → w'.heap[b]? = w.heap[b]?) (h3 : Ext w w') : RelH Γ H ρ σ a w' := by
  refine ⟨⟨r.b.oc, r.b.nd, r.b.h0, fun b o hb => ?_, fun k B hk => ?_, r.b.sum, r.b.fresh, r.b.tops⟩, r.e, r.d, r.n.trans h3, r.hd, r.hm⟩
  · rw [h1 b o hb]; exact r.b.hh b o hb
  · exact (r.b.blk k B hk).mono (Grow.refl _ _ _) fun b hb => h2 b (Nat.lt_of_lt_of_le hb (tot_le hk b))

theorem setB_dom_eq {bs : List (Nat × Blk)} {k : Nat} {B : Blk} : dom (setB bs k B) = dom bs := by funext j; exact propext dom_setB

/-- one block comes back: to a name that is dead, or to a new one -/
theorem RelH.put1 (hd0 : Γ.hd = []) {ρ : Rho} {σ : SS} (r : RelH Γ H ρ σ a w) {k : Nat} {B : Blk} {p : Value × (Nat → Nat)} (hk : getB σ.blk k = none ∨ (getB σ.blk k = some .dead ∧ p.1 = (ρ k).1)) (hone : p.1.oneCell' = true)
    (hnew : ∀ x, 0 < p.2 x → H x = none ∧ tot ρ σ.blk x = 0) (hle : ∀ x, p.2 x ≤ 1) (hB : ∀ ρ' : Rho, ∀ D' : Nat → Prop, (∀ q, q ≠ k → ρ' q = ρ q) → (ρ' k).1 = p.1 → (∀ q, dom σ.blk q → D' q) → D' k → BlkR w.heap H ρ' D' B p) (hdead : B ≠ .dead)
    (htop : ∀ x, Top B p x → 0 < p.2 x) :
    ∃ ρ', RelH Γ H ρ' { σ with blk := putB σ.blk k B } a w ∧ (∀ q, q ≠ k → ρ' q = ρ q) ∧ ρ' k = p := by
  rcases hk with hk | ⟨hk, hp⟩
  · have r1 := r.new' (w' := w) (k := k) (B := B) (p := p) hk (fun _ _ _ => rfl) (fun _ _ => rfl) (Ext.refl _) hone hnew hle (hB _ _ (fun q hq => upd_other hq) (by rw [upd_same]) (fun q hq => dom_insB.2 (.inr hq)) (dom_insB.2 (.inl rfl))) hdead
    refine ⟨_, ?_, fun q hq => upd_other hq, upd_same _ _ _⟩
    unfold putB
    rw [hk]
    exact r1
  · have hz : ∀ x, (ρ k).2 x = 0 := fun x => by
      have := r.b.blk k _ (getB_mem hk)
      rw [this]
    obtain ⟨pv, ps⟩ := p
    simp only at hp
    subst hp
    have r1 := r.revive (w' := w) hd0 (k := k) (B := B) (p := ps) (getB_dom hk) hz (fun _ _ _ => rfl) (Ext.refl _)
      (hB (upd ρ k ((ρ k).1, ps)) (dom (setB σ.blk k B)) (fun q hq => upd_other hq) (by rw [upd_same]) (fun q hq => dom_setB.2 hq) (dom_setB.2 (getB_dom hk))) htop hnew hle
    refine ⟨_, ?_, fun q hq => upd_other hq, upd_same _ _ _⟩
    unfold putB
    rw [hk]
    exact r1

/-- what comes back, block by block -/
theorem RelH.graft (hd0 : Γ.hd = []) {m : Nat → Nat} {n : Nat} {H' : Hp} {ρ2 : Rho} {D2 : Nat → Prop} : ∀ (l : List (Nat × Blk)) {ρ : Rho} {σ : SS}, RelH Γ H ρ σ a w →
    (l.all (backOk n) = true) → (∀ j B, (j, B) ∈ l → BlkR w.heap H' ρ2 D2 B (ρ2 j) ∧ (ρ2 j).1.oneCell' = true ∧ (getB σ.blk (m j) = none ∨ (getB σ.blk (m j) = some .dead ∧ (ρ2 j).1 = (ρ (m j)).1))) →
    (∀ j B, (j, B) ∈ l → ∀ x, 0 < (ρ2 j).2 x → H x = none ∧ tot ρ σ.blk x = 0) → (∀ x, tot ρ2 l x ≤ 1) → ((l.map fun p => m p.1).Nodup) → (∀ j, j < n → D2 j → dom σ.blk (m j) ∧ (ρ2 j).1 = (ρ (m j)).1) →
    ∃ ρ', RelH Γ H ρ' { σ with blk := graftB m l σ.blk } a w ∧ (∀ q, dom σ.blk q → dom (graftB m l σ.blk) q) ∧ (∀ q, q ∉ l.map (fun p => m p.1) → ρ' q = ρ q) ∧ (∀ j B, (j, B) ∈ l → dom (graftB m l σ.blk) (m j) ∧ ρ' (m j) = ρ2 j)
  | [], ρ, σ, r, _, _, _, _, _, _ => ⟨ρ, r, fun q hq => hq, fun q _ => rfl, fun j B hj => by cases hj⟩
  | (j, B) :: l, ρ, σ, r, hok, hblk, hnew, hsum, hnd, hnm => by
    simp only [List.all_cons, Bool.and_eq_true] at hok
    simp only [List.map_cons, List.nodup_cons] at hnd
    obtain ⟨hB, hone, hk⟩ := hblk j B List.mem_cons_self
    have hle : ∀ x, (ρ2 j).2 x ≤ 1 := fun x => by have := hsum x; simp only [tot] at this; omega
    have hB0 := hok.1
    unfold backOk at hB0
    simp only [Bool.and_eq_true] at hB0
    obtain ⟨ρ1, r1, g1, g2⟩ := r.put1 (B := B.ren m) (p := ρ2 j) hd0 hk hone (hnew j B List.mem_cons_self) hle (fun ρ' D' h1 h1k h2 h3 => by
        cases B with
        | own E xs l => exact hB
        | box cs =>
          obtain ⟨b, vs, e, fz, e1, e2, e3, e4, e5⟩ := hB
          refine ⟨b, vs, e, fz, e1, e2, e3, e4, by rw [renL_len]; exact e5.1, fun q c hq => ?_⟩
          obtain ⟨c0, hc0, rfl⟩ := renL_get hq
          have hc := e5.2 q c0 hc0
          have hbk := List.all_eq_true.1 hB0.2 c0 (List.mem_of_getElem? hc0)
          cases c0 with
          | own k =>
            simp only [C.bk, decide_eq_true_eq] at hbk
            obtain ⟨f1, f2⟩ := hc
            obtain ⟨f3, f4⟩ := hnm k hbk f1
            refine ⟨h2 _ f3, ?_⟩
            rw [f2]
            by_cases hmk : m k = m j
            · rw [hmk, h1k, f4, hmk]
              rcases hk with hk | ⟨hk, hk'⟩
              · exact (getB_none hk (hmk ▸ f3)).elim
              · exact hk'.symm
            · rw [h1 _ hmk]; exact f4
          | lf l => cases l <;> first | exact (RC.cl (H' := H) (ρ := ρ') (D := D') (c := .lf _) (by first | exact hc) rfl) | exact (by cases hbk)
          | bl b => exact hc
          | nil => exact hc
          | undef => trivial
          | ptr k off => cases hbk
          | el E x off => cases hbk
          | pcs ls off => cases hbk
          | oel k E i off => cases hbk
          | fn f l => cases hbk
        | dead => cases hB0.2
        | view E xs => cases hB0.2
        | hol E xs i fs => cases hB0.2) (by cases B <;> simp [Blk.ren] at hB0 ⊢) (fun x hx => by
        cases B with
        | own E xs l => cases l with
          | false => exact hx
          | true => cases hB0.2
        | box cs => exact hx
        | dead => cases hB0.2
        | view E xs => cases hB0.2
        | hol E xs i fs => cases hB0.2)
    have hmem : ∀ j' B', (j', B') ∈ l → m j' ≠ m j := fun j' B' h he => hnd.1 (by rw [← he]; exact List.mem_map.2 ⟨_, h, rfl⟩)
    have htot : ∀ x, tot ρ1 (putB σ.blk (m j) (B.ren m)) x = tot ρ σ.blk x + (ρ2 j).2 x := fun x => by
      unfold putB
      split
      · rename_i A hA
        have h1 := tot_setB (ρ := ρ) (ρ' := ρ1) r.b.nd (B := B.ren m) (getB_dom hA) (fun q hq => g1 q hq) x
        rw [g2] at h1
        have h2 : (ρ (m j)).2 x = 0 := by
          rcases hk with hk | ⟨hk, _⟩
          · rw [hk] at hA; cases hA
          · have := r.b.blk _ _ (getB_mem hk); rw [this]
        omega
      · rename_i hA
        rw [tot_insB, g2, tot_congr (ρ := ρ) (ρ' := ρ1) fun q hq => g1 q fun he => getB_none hA (he ▸ hq)]
        omega
    obtain ⟨ρ', r', g3, g4, g5⟩ := RelH.graft hd0 (m := m) (n := n) (H' := H') (ρ2 := ρ2) (D2 := D2) l r1 hok.2
      (fun j' B' hj' => by
        obtain ⟨q1, q2, q3⟩ := hblk j' B' (List.mem_cons_of_mem _ hj')
        have hne := hmem j' B' hj'
        refine ⟨q1, q2, ?_⟩
        have hget : getB (putB σ.blk (m j) (B.ren m)) (m j') = getB σ.blk (m j') := by
          unfold putB
          split
          · have : ∀ bs : List (Nat × Blk), getB (setB bs (m j) (B.ren m)) (m j') = getB bs (m j') := by
              intro bs
              induction bs with
              | nil => rfl
              | cons p bs ih =>
                simp only [setB]
                split
                · rename_i hp
                  simp only [getB, hp, if_neg (Ne.symm hne)]
                · simp only [getB, ih]
            exact this _
          · have : ∀ bs : List (Nat × Blk), getB (insB bs (m j) (B.ren m)) (m j') = getB bs (m j') := by
              intro bs
              induction bs with
              | nil => simp only [insB, getB, if_neg (Ne.symm hne)]
              | cons p bs ih =>
                simp only [insB]
                split
                · simp only [getB, if_neg (Ne.symm hne)]
                · simp only [getB, ih]
            exact this _
        rw [hget, g1 _ hne]
        exact q3)
      (fun j' B' hj' x hx => by
        obtain ⟨q1, q2⟩ := hnew j' B' (List.mem_cons_of_mem _ hj') x hx
        refine ⟨q1, ?_⟩
        show tot ρ1 (putB σ.blk (m j) (B.ren m)) x = 0
        rw [htot, q2]
        have h1 := hsum x
        have h2 := tot_le (ρ := ρ2) hj' x
        simp only [tot] at h1
        omega)
      (fun x => by have := hsum x; simp only [tot] at this; omega) hnd.2
      (fun q hq hD => by
        obtain ⟨q1, q2⟩ := hnm q hq hD
        refine ⟨dom_putB.2 (.inr q1), ?_⟩
        by_cases he : m q = m j
        · rw [he, g2]
          rw [q2, he]
          rcases hk with hk | ⟨_, hk⟩
          · exact (getB_none hk (he ▸ q1)).elim
          · exact hk.symm
        · rw [g1 _ he]; exact q2)
    refine ⟨ρ', r', fun q hq => g3 q (dom_putB.2 (.inr hq)), fun q hq => ?_, fun j' B' hj' => ?_⟩
    · simp only [List.map_cons, List.mem_cons, not_or] at hq
      rw [g4 q hq.2, g1 q hq.1]
    · rcases List.mem_cons.1 hj' with h | h
      · cases h
        exact ⟨g3 _ (dom_putB.2 (.inl rfl)), by rw [g4 _ hnd.1, g2]⟩
      · exact g5 j' B' h

end

/-! ### the call -/

theorem getB_setB_other {bs : List (Nat × Blk)} {k j : Nat} {B : Blk} (h : j ≠ k) : getB (setB bs k B) j = getB bs j := by
  induction bs with
  | nil => rfl
  | cons p bs ih =>
    simp only [setB]
    split
    · rename_i hp
      simp only [getB, hp, if_neg (Ne.symm h)]
    · simp only [getB, ih]

theorem getB_killL_dead : ∀ {ks : List Nat} {bs : List (Nat × Blk)} {k : Nat}, dom bs k → (k ∈ ks ∨ getB bs k = some .dead) → getB (killL bs ks) k = some .dead
  | [], bs, k, _, h => h.resolve_left (by simp)
  | j :: ks, bs, k, hd, h => by
    simp only [killL]
    refine getB_killL_dead (dom_setB.2 hd) ?_
    by_cases hk : k = j
    · subst hk; exact .inr (getB_setB_same hd)
    · rw [getB_setB_other hk]
      rcases h with h | h
      · rcases List.mem_cons.1 h with h | h
        · exact (hk h).elim
        · exact .inl h
      · exact .inr h

theorem passBs_get : ∀ {ks r : List Nat} {bs : List (Nat × Blk)} {nb : List Blk}, passBs bs ks r = some nb → nb.length = r.length ∧ ∀ (j : Nat) B, nb[j]? = some B → ∃ k A, r[j]? = some k ∧ getB bs k = some A ∧ passB ks (some A) = some B
  | ks, [], bs, nb, h => by simp only [passBs, Option.some.injEq] at h; subst h; exact ⟨rfl, fun j B hj => by simp at hj⟩
  | ks, k :: r, bs, nb, h => by
    simp only [passBs] at h
    split at h
    · rename_i B l h1 h2
      cases h
      obtain ⟨g1, g2⟩ := passBs_get h2
      refine ⟨by simp [g1], fun j B' hj => ?_⟩
      cases j with
      | zero =>
        simp at hj; subst hj
        cases hg : getB bs k with
        | none => rw [hg] at h1; simp [passB] at h1
        | some A => exact ⟨k, A, rfl, hg, by rw [← hg]; exact h1⟩
      | succ j => simpa using g2 j B' (by simpa using hj)
    · cases h

theorem passB_ok {ks : List Nat} {A B : Blk} (h : passB ks (some A) = some B) : (∃ E xs, A = .own E xs false ∧ B = .own E xs false) ∨ ∃ cs, A = .box cs ∧ cs.all (C.box ks) = true ∧ B = .box (renL (place ks) cs) := by
  unfold passB at h
  split at h
  · rename_i E xs hA; cases hA; cases h; exact .inl ⟨E, xs, rfl, rfl⟩
  · rename_i cs hA
    cases hA
    split at h
    · rename_i hc; cases h; exact .inr ⟨cs, rfl, hc, rfl⟩
    · cases h
  · cases h

theorem mem_insN {ks xs : List Nat} {k : Nat} (h : k ∈ ks ∨ k ∈ xs) : k ∈ insN ks xs := by
  induction xs generalizing ks with
  | nil => simpa [insN] using h
  | cons x xs ih =>
    simp only [insN]
    split
    · rename_i hc
      refine ih ?_
      rcases h with h | h
      · exact .inl h
      · rcases List.mem_cons.1 h with rfl | h
        · exact .inl (by simpa using hc)
        · exact .inr h
    · refine ih ?_
      rcases h with h | h
      · exact .inl (List.mem_append_left _ h)
      · rcases List.mem_cons.1 h with rfl | h
        · exact .inl (List.mem_append_right _ List.mem_cons_self)
        · exact .inr h

theorem nmL_mem {cs : List C} {c : C} {k : Nat} (hc : c ∈ cs) (hk : k ∈ c.nm) : k ∈ nmL cs := by
  induction cs with
  | nil => cases hc
  | cons x cs ih =>
    simp only [nmL, List.mem_append]
    cases hc with
    | head => exact .inl hk
    | tail _ hc => exact .inr (ih hc)

section
variable {H H1 : Hp} {ρ ρ1 : Rho} {D D1 : Nat → Prop} {ks : List Nat}

/-- a cell that is handed over -/
theorem RC.hand (hks : ∀ k, k ∈ ks → D1 (place ks k) ∧ (ρ1 (place ks k)).1 = (ρ k).1) {c : C} {v : Value} (h : RC H ρ D c v) (hp : c.pass = true) (hn : ∀ k ∈ c.nm, k ∈ ks) : RC H1 ρ1 D1 (c.ren (place ks)) v := by
  cases c with
  | own k =>
    obtain ⟨_, h1⟩ := h
    have := hks k (hn k (by simp [C.nm]))
    exact ⟨this.1, by rw [this.2]; exact h1⟩
  | ptr k off =>
    obtain ⟨_, b, h1, h2⟩ := h
    have := hks k (hn k (by simp [C.nm]))
    exact ⟨this.1, b, by rw [this.2]; exact h1, h2⟩
  | lf l => cases l <;> first | exact (RC.cl (H' := H1) (ρ := ρ1) (D := D1) (c := .lf _) (by first | exact h) rfl) | exact (by cases hp)
  | bl b => exact h
  | nil => exact h
  | undef => trivial
  | el E x off => cases hp
  | pcs ls off => cases hp
  | oel k E i off => cases hp
  | fn f l => cases hp

theorem RV.hand (hks : ∀ k, k ∈ ks → D1 (place ks k) ∧ (ρ1 (place ks k)).1 = (ρ k).1) {c : V} {v : Value} (h : RV H ρ D c v) (hp : c.pass = true) (hn : ∀ k ∈ c.nm, k ∈ ks) : RV H1 ρ1 D1 (c.ren (place ks)) v := by
  cases c with
  | c x => exact RC.hand hks h hp hn
  | agg cs =>
    obtain ⟨vs, h1, h2⟩ := h
    refine ⟨vs, h1, by rw [renL_len]; exact h2.1, fun j c hj => ?_⟩
    obtain ⟨c0, hc0, rfl⟩ := renL_get hj
    exact RC.hand hks (h2.2 j c0 hc0) (List.all_eq_true.1 hp c0 (List.mem_of_getElem? hc0)) fun k hk => hn k (nmL_mem (List.mem_of_getElem? hc0) hk)
  | tup cs => cases hp

theorem handVs_len {tab : Tab} {bs : List (Nat × Blk)} : ∀ {vs : List V} {ms : List Bool} {Ts : List TypeId}, (handVs tab bs ks ms Ts vs).length = vs.length
  | [], ms, Ts => by cases ms <;> simp [handVs]
  | v :: vs, ms, Ts => by
    rcases ms with _ | ⟨m, ms⟩
    · cases Ts <;> simp [handVs, handVs_len (vs := vs)]
    · cases m <;> cases Ts <;> simp [handVs, handVs_len (vs := vs)]

def lendH (tab : Tab) (bs : List (Nat × Blk)) (x : V) : List TypeId → V
  | T :: _ => lendV tab bs T x
  | [] => .c .undef

theorem handVs_get {w : World} {tab : Tab} {bs : List (Nat × Blk)} (L : Lends w H H1 ρ D bs) (hks : ∀ k, k ∈ ks → D1 (place ks k) ∧ (ρ1 (place ks k)).1 = (ρ k).1) :
    ∀ {vs : List V} {ms : List Bool} {Ts : List TypeId} {us : List Value}, (∀ (j : Nat) c v, vs[j]? = some c → us[j]? = some v → RV H ρ D c v) → handOk bs ms vs = true → (∀ k ∈ argNm ms vs, k ∈ ks) → vs.length = us.length →
    ∀ (j : Nat) c v, (handVs tab bs ks ms Ts vs)[j]? = some c → us[j]? = some v → RV H1 ρ1 D1 c v
  | [], ms, Ts, us, _, _, _, _, j, c, v, h, _ => by rcases ms with _ | ⟨m, ms⟩ <;> simp [handVs] at h
  | x :: vs, ms, Ts, [], _, _, _, hl, _, _, _, _, _ => by simp at hl
  | x :: vs, ms, Ts, u :: us, hv, ho, hn, hl, j, c, v, h, h' => by
    have rest : ∀ {ms' : List Bool} {Ts' : List TypeId}, handOk bs ms' vs = true → (∀ k ∈ argNm ms' vs, k ∈ ks) → ∀ (j : Nat) c v, (handVs tab bs ks ms' Ts' vs)[j]? = some c → us[j]? = some v → RV H1 ρ1 D1 c v := fun g1 g2 =>
      handVs_get L hks (fun j c v q1 q2 => hv (j + 1) c v (by simpa using q1) (by simpa using q2)) g1 g2 (by simpa using hl)
    have ro : ∀ {ms' : List Bool}, x.fnOk bs = true → handOk bs ms' vs = true → (∀ k ∈ argNm ms' vs, k ∈ ks) → handVs tab bs ks ms Ts (x :: vs) = lendH tab bs x Ts :: handVs tab bs ks ms' Ts.tail vs → RV H1 ρ1 D1 c v := by
      intro ms' g1 g2 g3 ge
      rw [ge] at h
      cases j with
      | zero =>
        simp only [List.getElem?_cons_zero, Option.some.injEq] at h h'
        subst h; subst h'
        cases Ts with
        | nil => trivial
        | cons T Ts => exact lendV_ok L (hv 0 x u rfl rfl) g1
      | succ j => exact rest g2 g3 j c v (by simpa using h) (by simpa using h')
    rcases ms with _ | ⟨m, ms⟩
    · simp only [handOk, Bool.and_eq_true] at ho
      refine ro (ms' := []) ho.1 ho.2 (fun k hk => by cases vs <;> simp [argNm] at hk) ?_
      cases Ts <;> simp [handVs, lendH]
    · cases m with
      | false =>
        simp only [handOk, Bool.and_eq_true, List.tail_cons] at ho
        refine ro (ms' := ms) ho.1 ho.2 (fun k hk => hn k (by simpa [argNm] using hk)) ?_
        cases Ts <;> simp [handVs, lendH]
      | true =>
        simp only [handOk, Bool.and_eq_true] at ho
        cases j with
        | zero =>
          simp only [handVs, List.getElem?_cons_zero, Option.some.injEq] at h h'
          subst h; subst h'
          exact RV.hand hks (hv 0 x u rfl rfl) ho.1 fun k hk => hn k (by simp [argNm, hk])
        | succ j => exact rest (ms' := ms) (Ts' := Ts.tail) ho.2 (fun k hk => hn k (by simp [argNm, hk])) j c v (by simpa [handVs] using h) (by simpa using h')
end

theorem nodup_mapKeys {m : Nat → Nat} : ∀ {l : List (Nat × Blk)}, (l.map (·.1)).Nodup → (∀ p ∈ l, ∀ q ∈ l, m p.1 = m q.1 → p.1 = q.1) → (l.map fun p => m p.1).Nodup
  | [], _, _ => by simp
  | p :: l, hn, hi => by
    simp only [List.map_cons, List.nodup_cons] at hn ⊢
    refine ⟨fun hm => ?_, nodup_mapKeys hn.2 fun a ha b hb => hi a (List.mem_cons_of_mem _ ha) b (List.mem_cons_of_mem _ hb)⟩
    obtain ⟨q, hq, he⟩ := List.mem_map.1 hm
    refine hn.1 (List.mem_map.2 ⟨q, hq, ?_⟩)
    exact hi q (List.mem_cons_of_mem _ hq) p List.mem_cons_self he

section
variable {P : Program} {tab : Tab} {Γ : Ctx} {H : Hp} {ρ : Rho} {σ : SS} {a : Act} {w : World} (r : RelH Γ H ρ σ a w)
include r

theorem vcCallM_ok (hd0 : Γ.hd = []) {o : Oper} {f : FuncId} {l : List Cp} {ms : List Bool} {c : Call} {d : Nat} {K : SS → Prop} {Q : Exit → Act → World → Prop} (hc : calleeV σ o = some (.c (.fn f l), c)) (hd : o.dst = some d) (h : vcCallM P tab σ f l ms c d K) :
    o.wp P a w (fun a' w' => ∃ σ', K σ' ∧ ∃ ρ', RelH Γ H ρ' σ' a' w') Q := by
  unfold vcCallM at h
  generalize hks : handNm σ.blk ms (c.args.toList.map σ.ev) = ks at h
  split at h
  · rename_i nb hnb
    split at h
    · rename_i hcond
      obtain ⟨hfree, hn100, hndk, hcaps, hsize, hok⟩ := hcond
      obtain ⟨hlen, hget⟩ := passBs_get hnb
      have hargn : ∀ k ∈ argNm ms (c.args.toList.map σ.ev), k ∈ ks := fun k hk => by
        rw [← hks]; exact mem_insN (.inl (mem_insN (.inr hk)))
      -- the callee's names
      let ρc : Rho := fun j => ρ (ks.getD j 0)
      have hρc : ∀ (j k : Nat), ks[j]? = some k → ρc (0 + j) = ρ k := fun j k hj => by
        simp only [ρc, Nat.zero_add, List.getD_eq_getElem?_getD, hj, Option.getD_some]
      have hgetk : ∀ k ∈ ks, ∃ A, getB σ.blk k = some A ∧ ((∃ E xs, A = .own E xs false) ∨ ∃ cs, A = .box cs) := fun k hk => by
        obtain ⟨j, hj, hjk⟩ := List.getElem_of_mem hk
        obtain ⟨B, hB⟩ : ∃ B, nb[j]? = some B := ⟨_, List.getElem?_eq_getElem (by omega)⟩
        obtain ⟨k', A, h1, h2, h3⟩ := hget j B hB
        rw [List.getElem?_eq_getElem hj, hjk] at h1
        cases h1
        refine ⟨A, h2, ?_⟩
        rcases passB_ok h3 with ⟨E, xs, rfl, _⟩ | ⟨cs, rfl, _⟩
        · exact .inl ⟨E, xs, rfl⟩
        · exact .inr ⟨cs, rfl⟩
      have hdk : ∀ k ∈ ks, dom σ.blk k := fun k hk => by obtain ⟨A, h1, _⟩ := hgetk k hk; exact getB_dom h1
      have htopk : ∀ k ∈ ks, ∀ x, 0 < (ρ k).2 x → H x = none := fun k hk x hx => by
        obtain ⟨A, h1, h2⟩ := hgetk k hk
        refine r.b.tops k A (getB_mem h1) x ?_
        rcases h2 with ⟨E, xs, rfl⟩ | ⟨cs, rfl⟩ <;> exact hx
      have hsumH : ∀ x, 0 < sumK ρ ks x → H x = none := fun x hx => by
        obtain ⟨k, hk, h1⟩ := sumK_pos hx
        exact htopk k hk x h1
      have htotc : ∀ x, tot ρc (num 0 nb) x = sumK ρ ks x := fun x => tot_num hlen hρc
      have hdomc : ∀ k ∈ ks, dom (num 0 nb) (place ks k) ∧ (ρc (place ks k)).1 = (ρ k).1 := fun k hk => by
        have h1 := place_get hk
        refine ⟨dom_num.2 ⟨Nat.zero_le _, by rw [Nat.zero_add, hlen]; exact lt_of_get h1⟩, ?_⟩
        have := hρc _ _ h1
        rw [Nat.zero_add] at this
        rw [this]
      let H1 : Hp := hpOf w (tot ρc (num 0 nb))
      have hH1 : ∀ x, sumK ρ ks x = 0 → H1 x = w.heap[x]? := fun x hx => by
        simp only [H1, hpOf, htotc, hx, if_true]
      have hH1n : ∀ x o, H1 x = some o → w.heap[x]? = some o ∧ sumK ρ ks x = 0 := fun x o hx => by
        simp only [H1, hpOf, htotc] at hx
        split at hx
        · rename_i h0; exact ⟨hx, h0⟩
        · cases hx
      have hHH1 : ∀ b o, H b = some o → H1 b = some o := fun b o hb => by
        rw [hH1 b ?_]
        · exact r.b.hh b o hb
        · rcases Nat.eq_zero_or_pos (sumK ρ ks b) with h0 | h0
          · exact h0
          · rw [hsumH b h0] at hb; cases hb
      have hlends : Lends w H H1 ρ (dom σ.blk) (restB ks σ.blk) := ⟨hHH1, fun k B hk => by
        obtain ⟨h1, h2⟩ := getB_restB hk
        refine ⟨r.b.blk k B (getB_mem h1), fun x hx => hH1 x ?_⟩
        have h3 := sumK_le (ρ := ρ) (k :: ks) (bs := σ.blk) (by simp [nodupB, h2, hndk]) (fun j hj => by rcases List.mem_cons.1 hj with rfl | hj; exact getB_dom h1; exact hdk j hj) x
        have h4 := r.b.sum x
        simp only [sumK] at h3
        omega⟩
      have hrelB : RelB w.heap H1 H1 ρc (num 0 nb) := by
        have hone : ∀ j B, (j, B) ∈ num 0 nb → ∃ k A, ks[j]? = some k ∧ getB σ.blk k = some A ∧ passB ks (some A) = some B ∧ ρc j = ρ k := fun j B hj => by
          obtain ⟨_, h1⟩ := mem_num.1 hj
          obtain ⟨k, A, h2, h3, h4⟩ := hget j B (by simpa using h1)
          exact ⟨k, A, h2, h3, h4, by have := hρc j k h2; rwa [Nat.zero_add] at this⟩
        have howned : ∀ j B x, (j, B) ∈ num 0 nb → 0 < (ρc j).2 x → H1 x = none := fun j B x hj hx => by
          have h1 := tot_le (ρ := ρc) hj x
          simp only [H1, hpOf]
          rw [if_neg (by omega)]
        refine ⟨fun j hj => ?_, nodup_num, fun _ _ h => h, fun b o hb => (hH1n b o hb).1, fun j B hj => ?_, fun x => ?_, fun j B hj x hx => howned j B x hj hx, fun j B hj x hx => howned j B x hj ?_⟩
        · obtain ⟨⟨j', B⟩, hjB, rfl⟩ := List.mem_map.1 hj
          obtain ⟨k, A, _, h2, _, h4⟩ := hone j' B hjB
          simp only
          rw [h4]; exact r.b.oc k (getB_dom h2)
        · obtain ⟨k, A, h1, h2, h3, h4⟩ := hone j B hj
          have hA := r.b.blk k A (getB_mem h2)
          rw [h4]
          rcases passB_ok h3 with ⟨E, xs, rfl, rfl⟩ | ⟨cs, rfl, hcs, rfl⟩
          · exact hA
          · obtain ⟨b, vs, e, fz, e1, e2, e3, e4, e5⟩ := hA
            refine ⟨b, vs, e, fz, e1, e2, e3, e4, by rw [renL_len]; exact e5.1, fun q cq hq => ?_⟩
            obtain ⟨c0, hc0, rfl⟩ := renL_get hq
            have hb := List.all_eq_true.1 hcs c0 (List.mem_of_getElem? hc0)
            have hq0 := e5.2 q c0 hc0
            refine RC.hand (fun k hk => hdomc k hk) hq0 ?_ ?_
            · cases c0 <;> first | rfl | exact hb | exact (by cases hb)
            · intro k hk
              cases c0 with
              | own k' =>
                simp only [C.nm, List.mem_singleton] at hk
                subst hk
                simpa [C.box] using hb
              | ptr k' off => cases hb
              | _ => simp [C.nm] at hk
        · rw [htotc]
          exact Nat.le_trans (sumK_le ks hndk hdk x) (r.b.sum x)
        · obtain ⟨k, A, h1, h2, h3, h4⟩ := hone j B hj
          rcases passB_ok h3 with ⟨E, xs, rfl, rfl⟩ | ⟨cs, rfl, hcs, rfl⟩ <;> exact hx
      unfold calleeV at hc
      split at hc
      · rename_i c0 hop
        split at hc
        · rename_i x hcal
          simp only [Option.some.injEq, Prod.mk.injEq] at hc
          obtain ⟨hx, rfl⟩ := hc
          obtain ⟨post, ⟨⟨fn, hf1, hf2, hf3⟩, hs⟩, hk⟩ := h
          have ev := ev_ok r.e x
          rw [hx] at ev
          obtain ⟨vs, e1, e2, e3⟩ := ev
          have hrun : (execOp a.eval o).run P w = .ok (.enter f (c0.args.map a.eval ++ vs)) w := by
            simp only [execOp, hop, resolve, hcal, Deferred.ofValue, e1, Sem.run_bind, Sem.run_pure, Result.andThen_ok, invoke, callFunc, run_program, hf1, hf2, hf3]
            simp
          have hargs : args H1 ρc (dom (num 0 nb)) (handVs tab (restB ks σ.blk) ks ms c0.argTypes.toList (c0.args.toList.map σ.ev) ++ l.map (capC (restB ks σ.blk))) (c0.args.map a.eval ++ vs) := by
            refine ⟨by simp [handVs_len, e2], fun j cv hj => ?_⟩
            rw [Array.getD_eq_getD_getElem?]
            by_cases hlt : j < c0.args.size
            · rw [List.getElem?_append_left (by simpa [handVs_len] using hlt)] at hj
              rw [Array.getElem?_append_left (by simpa using hlt)]
              have h1 : (c0.args.map a.eval).toList[j]? = some (a.eval c0.args[j]) := by simp [hlt]
              have h2 := handVs_get hlends hdomc (map_ev r c0.args) hok hargn (by simp) j cv _ hj h1
              simpa [hlt] using h2
            · rw [List.getElem?_append_right (by simpa [handVs_len] using Nat.le_of_not_lt hlt)] at hj
              rw [Array.getElem?_append_right (by simpa using Nat.le_of_not_lt hlt)]
              simp only [handVs_len, List.length_map, Array.length_toList, Array.size_map, List.getElem?_map, Option.map_eq_some_iff] at hj ⊢
              obtain ⟨c1, h1, rfl⟩ := hj
              have h2 := e3 _ c1 h1
              have h3 := List.all_eq_true.1 hcaps c1 (List.mem_of_getElem? h1)
              rw [← Array.getD_eq_getD_getElem?]
              exact capC_ok hlends h2 h3
          unfold Oper.wp
          rw [hrun]
          simp only [Oper.upon]
          refine (hs w _ ρc hrelB hargs).mono fun e w' he => ?_
          obtain ⟨v, rv, bs', H', ρ2, rfl, hp, hB, hv, hext, hhdr⟩ := he
          obtain ⟨⟨hbok, hcl⟩, hK⟩ := hk rv bs' hp
          have hpres : ∀ x o, H1 x = some o → w'.heap[x]? = some o := fun x o hx => hB.hh x o (hB.h0 x o hx)
          have hsame : ∀ x, x < w.heap.size → sumK ρ ks x = 0 → w'.heap[x]? = w.heap[x]? := fun x hx h0 => by
            rw [Array.getElem?_eq_getElem hx]
            exact hpres x _ (by rw [hH1 x h0, Array.getElem?_eq_getElem hx])
          have hkill := fun x => tot_killL (ρ := ρ) (x := x) r.b.nd hndk hdk
          have r1 := r.killL hdk
          have r2 := r1.move (w' := w') (fun b o hb => by
              have h0 := (hH1n b o (hHH1 b o hb)).2
              exact hsame b (lt_of_aget (r.b.hh b o hb)) h0) (fun b hb => by
              have h1 := hkill b
              have h2 := r.b.sum b
              have hb' : 0 < tot (updL ρ ks) (Go.Proofs.Ytnmdhpaobmjefaa.killL σ.blk ks) b := hb
              exact hsame b (r.lt (by omega)) (by omega)) hext
          have hback : ∀ j, j < nb.length → backM ks d j ∈ ks ∧ ks[j]? = some (backM ks d j) := fun j hj => by
            have h1 : ks[j]? = some ks[j] := List.getElem?_eq_getElem (by omega)
            have h2 : backM ks d j = ks[j] := by
              simp only [backM]
              rw [if_pos (by omega), List.getD_eq_getElem?_getD, h1, Option.getD_some]
            exact ⟨by rw [h2]; exact List.getElem_mem _, by rw [h2]; exact h1⟩
          have hhd : ∀ j, j < nb.length → dom bs' j → (ρ2 j).1 = (updL ρ ks (backM ks d j)).1 := fun j hj hD => by
            rw [updL_fst, hhdr j hD (dom_num.2 ⟨Nat.zero_le _, by omega⟩)]
            have := hρc j _ (hback j hj).2
            rw [Nat.zero_add] at this
            rw [this]
          have hkey : ∀ j B, (j, B) ∈ bs' → j < nb.length ∨ (100 ≤ j ∧ j < 108) := fun j B hj => by
            have := List.all_eq_true.1 hbok _ hj
            simp only [backOk, Bool.and_eq_true, Bool.or_eq_true, decide_eq_true_eq] at this
            exact this.1
          have hfr : ∀ i, i < 8 → getB σ.blk (8 * d + i) = none := fun i hi => by
            have : ∀ bs : List (Nat × Blk), freeB bs d = true → getB bs (8 * d + i) = none := by
              intro bs
              induction bs with
              | nil => intro _; rfl
              | cons p bs ih =>
                intro hfb
                simp only [freeB, List.all_cons, Bool.and_eq_true, Bool.or_eq_true, decide_eq_true_eq] at hfb
                simp only [getB]
                rw [if_neg (by omega)]
                exact ih hfb.2
            exact this _ hfree
          have hnewk : ∀ j, 100 ≤ j → j < 108 → backM ks d j = 8 * d + (j - 100) ∧ getB σ.blk (backM ks d j) = none := fun j h1 h2 => by
            have : backM ks d j = 8 * d + (j - 100) := by simp only [backM]; rw [if_neg (by omega)]
            exact ⟨this, by rw [this]; exact hfr _ (by omega)⟩
          have hinj : ∀ j1 B1 j2 B2, (j1, B1) ∈ bs' → (j2, B2) ∈ bs' → backM ks d j1 = backM ks d j2 → j1 = j2 := fun j1 B1 j2 B2 h1 h2 he => by
            rcases hkey j1 B1 h1 with k1 | ⟨k1, k1'⟩ <;> rcases hkey j2 B2 h2 with k2 | ⟨k2, k2'⟩
            · have q1 := (hback j1 k1).2
              have q2 := (hback j2 k2).2
              rw [← he] at q2
              have hnd := nodupB_nodup' hndk
              exact (List.getElem?_inj (i := j1) (j := j2) (by omega) hnd).1 (q1.trans q2.symm)
            · have q1 := hdk _ (hback j1 k1).1
              have q2 := (hnewk j2 k2 k2').2
              rw [← he] at q2
              exact (getB_none q2 q1).elim
            · have q1 := hdk _ (hback j2 k2).1
              have q2 := (hnewk j1 k1 k1').2
              rw [he] at q2
              exact (getB_none q2 q1).elim
            · rw [(hnewk j1 k1 k1').1, (hnewk j2 k2 k2').1] at he
              omega
          obtain ⟨ρ', r3, g1, g2, g3⟩ := RelH.graft hd0 (m := backM ks d) (n := nb.length) (H' := H') (ρ2 := ρ2) (D2 := dom bs') bs' r2 hbok
            (fun j B hj => by
              refine ⟨hB.blk j B hj, hB.oc j (dom_of_mem hj), ?_⟩
              rcases hkey j B hj with k1 | ⟨k1, k1'⟩
              · exact .inr ⟨getB_killL_dead (hdk _ (hback j k1).1) (.inl (hback j k1).1), hhd j k1 (dom_of_mem hj)⟩
              · exact .inl (getB_killL_none (hnewk j k1 k1').2))
            (fun j B hj x hx => by
              have h1 := hB.fresh j B hj x hx
              have h2 := hkill x
              have h3 := r.b.sum x
              rcases Nat.lt_or_ge x w.heap.size with h4 | h4
              · have h5 : 0 < sumK ρ ks x := by
                  rcases Nat.eq_zero_or_pos (sumK ρ ks x) with h0 | h0
                  · rw [show hpOf w (tot ρc (num 0 nb)) x = H1 x from rfl, hH1 x h0, Array.getElem?_eq_getElem h4] at h1
                    cases h1
                  · exact h0
                exact ⟨hsumH x h5, by show tot (updL ρ ks) (Go.Proofs.Ytnmdhpaobmjefaa.killL σ.blk ks) x = 0; omega⟩
              · have h5 := r.none_above h4
                exact ⟨h5.1, by show tot (updL ρ ks) (Go.Proofs.Ytnmdhpaobmjefaa.killL σ.blk ks) x = 0; omega⟩)
            hB.sum
            (nodup_mapKeys hB.nd fun p hp q hq he => hinj p.1 p.2 q.1 q.2 hp hq he)
            (fun j hj hD => ⟨dom_killL.2 (hdk _ (hback j hj).1), hhd j hj hD⟩)
          refine ⟨_, hK, ρ', ?_⟩
          rw [hd]
          refine RelH.put r3 (RV.ren (m := backM ks d) (D := dom bs') (ρ := ρ2) (fun i hi => ?_) (hv.grow (H' := H) (ρ' := ρ2) (D' := dom bs') ⟨(fun _ _ h => by cases h), (fun _ h => ⟨h, rfl⟩)⟩)) (some d)
          obtain ⟨⟨i', B⟩, hiB, rfl⟩ := List.mem_map.1 hi
          obtain ⟨q1, q2⟩ := g3 i' B hiB
          exact ⟨q1, by rw [q2]⟩
        · cases hc
      · cases hc
    · cases h
  · cases h

theorem vcCall_ok {o : Oper} (hwd : isWr tab o = true → Γ.hd = []) {v : V} {c : Call} {K : SS → Prop} {Q : Exit → Act → World → Prop} (hc : calleeV σ o = some (v, c)) (h : vcCall P tab σ v c o.dst K) :
    o.wp P a w (fun a' w' => ∃ σ', K σ' ∧ RelK Γ H (isWr tab o) w σ' a' w') Q := by
  generalize hdo : o.dst = dst at h
  unfold vcCall at h
  split at h
  · rename_i f l d
    split at h
    · rename_i ms hms
      have hw : isWr tab o = true := by
        unfold calleeV at hc
        unfold isWr
        split at hc
        · rename_i c0 hop
          split at hc
          · rename_i x hcal
            simp only [Option.some.injEq, Prod.mk.injEq] at hc
            obtain ⟨hx, rfl⟩ := hc
            rw [hop]
            simp only [hcal]
            split
            · cases ‹Callee.value x = _›
            · rename_i g heq
              cases heq
              simp only [SS.ev, V.c.injEq, C.fn.injEq] at hx
              rw [hx.1, hms]; rfl
            · rfl
          · cases hc
        · cases hc
      exact Oper.wp_mono (fun a' w' ⟨σ', h1, ρ', h2⟩ => ⟨σ', h1, ⟨ρ', h2⟩, fun hh => by rw [hw] at hh; cases hh⟩) (vcCallM_ok r (hwd hw) hc hdo h)
    · exact vcCallR_ok r hc (by rw [hdo]; exact h)
  · cases h

end

end Go.Proofs.Ytnmdhpaobmjefaa
