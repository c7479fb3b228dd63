/-
  What is to be shown of a piece of code in a symbolic state, and that it is enough. No conditions.
-/
import Derived.Test.YtnmdhpaobmjefaaNew
namespace Go.Proofs.Ytnmdhpaobmjefaa
open Go

/-! ### names in values -/

def Cp.ren (m : Nat → Nat) : Cp → Cp
  | .ptr k off => .ptr (m k) off
  | .el E x off => .el E x off
  | .pcs ls off => .pcs ls off

def C.ren (m : Nat → Nat) : C → C
  | .own k => .own (m k)
  | .ptr k off => .ptr (m k) off
  | .oel k E i off => .oel (m k) E i off
  | .fn f l => .fn f (l.map (Cp.ren m))
  | c => c

def renL (m : Nat → Nat) : List C → List C
  | [] => []
  | c :: cs => c.ren m :: renL m cs

def renT (m : Nat → Nat) : List (Bool × List C) → List (Bool × List C)
  | [] => []
  | p :: ps => (p.1, renL m p.2) :: renT m ps

def V.ren (m : Nat → Nat) : V → V
  | .c x => .c (x.ren m)
  | .agg cs => .agg (renL m cs)
  | .tup ps => .tup (renT m ps)

theorem renL_get {m : Nat → Nat} : ∀ {cs : List C} {j : Nat} {c : C}, (renL m cs)[j]? = some c → ∃ c0, cs[j]? = some c0 ∧ c = c0.ren m
  | [], j, c, h => by simp [renL] at h
  | c0 :: cs, 0, c, h => by simp [renL] at h; exact ⟨c0, rfl, h.symm⟩
  | c0 :: cs, j + 1, c, h => by simp only [renL, List.getElem?_cons_succ] at h ⊢; exact renL_get h

theorem renL_len {m : Nat → Nat} : ∀ {cs : List C}, (renL m cs).length = cs.length
  | [] => rfl
  | c :: cs => by simp [renL, renL_len (cs := cs)]

theorem renT_get {m : Nat → Nat} : ∀ {cs : List (Bool × List C)} {j : Nat} {p : Bool × List C}, (renT m cs)[j]? = some p → ∃ p0, cs[j]? = some p0 ∧ p = (p0.1, renL m p0.2)
  | [], j, p, h => by simp [renT] at h
  | p0 :: cs, 0, p, h => by simp [renT] at h; exact ⟨p0, rfl, h.symm⟩
  | p0 :: cs, j + 1, p, h => by simp only [renT, List.getElem?_cons_succ] at h ⊢; exact renT_get h

theorem renT_len {m : Nat → Nat} : ∀ {cs : List (Bool × List C)}, (renT m cs).length = cs.length
  | [] => rfl
  | c :: cs => by simp [renT, renT_len (cs := cs)]

section
variable {H : Hp} {ρ ρ' : Rho} {D D' : Nat → Prop} {m : Nat → Nat} (hm : ∀ k, D k → D' (m k) ∧ (ρ' (m k)).1 = (ρ k).1)
include hm

theorem RCp.ren {c : Cp} {v : Value} (h : RCp H ρ D c v) : RCp H ρ' D' (c.ren m) v := by
  cases c with
  | ptr k off => obtain ⟨hk, b, h1, h2⟩ := h; exact ⟨(hm k hk).1, b, by rw [(hm k hk).2]; exact h1, h2⟩
  | el E x off => exact h
  | pcs ls off => exact h

theorem RC.ren {c : C} {v : Value} (h : RC H ρ D c v) : RC H ρ' D' (c.ren m) v := by
  cases c with
  | lf l => exact h
  | bl b => exact h
  | nil => exact h
  | own k => obtain ⟨hk, h1⟩ := h; exact ⟨(hm k hk).1, by rw [(hm k hk).2]; exact h1⟩
  | ptr k off => exact RCp.ren (H := H) hm (c := .ptr k off) h
  | el E x off => exact RCp.ren (H := H) hm (c := .el E x off) h
  | pcs ls off => exact RCp.ren (H := H) hm (c := .pcs ls off) h
  | oel k E i off => obtain ⟨hk, b, o, n, c, h1, h2⟩ := h; exact ⟨(hm k hk).1, b, o, n, c, by rw [(hm k hk).2]; exact h1, h2⟩
  | fn f caps =>
    obtain ⟨vs, h1, h2, h3⟩ := h
    refine ⟨vs, h1, by simpa using h2, fun j c hj => ?_⟩
    rw [List.getElem?_map, Option.map_eq_some_iff] at hj
    obtain ⟨c0, hj, rfl⟩ := hj
    exact (h3 j c0 hj).ren hm
  | undef => trivial

theorem RCs.ren {cs : List C} {vs : Array Value} (h : RCs H ρ D cs vs) : RCs H ρ' D' (renL m cs) vs := by
  refine ⟨by rw [renL_len]; exact h.1, fun j c hj => ?_⟩
  obtain ⟨c0, h1, rfl⟩ := renL_get hj
  exact (h.2 j c0 h1).ren hm

theorem RV.ren {c : V} {v : Value} (h : RV H ρ D c v) : RV H ρ' D' (c.ren m) v := by
  cases c with
  | c x => exact RC.ren hm h
  | agg cs => obtain ⟨vs, h1, h2⟩ := h; exact ⟨vs, h1, h2.ren hm⟩
  | tup cs =>
    obtain ⟨vs, h1, h2, h3⟩ := h
    refine ⟨vs, h1, by rw [renT_len]; exact h2, fun j p hj => ?_⟩
    obtain ⟨p0, h4, rfl⟩ := renT_get hj
    have := h3 j p0 h4
    obtain ⟨b, l⟩ := p0
    cases b with
    | true => obtain ⟨us, h5, h6⟩ := this; exact ⟨us, h5, h6.ren hm⟩
    | false => obtain ⟨c, h5, h6⟩ := this; simp only at h5; subst h5; exact ⟨_, rfl, h6.ren hm⟩

end

/-! ### values that stand in no known memory -/

def C.cl : C → Bool
  | .lf (.list _ _) => false
  | .el _ _ _ => false
  | .pcs _ _ => false
  | .fn _ _ => false
  | .ptr _ _ => false
  | .oel _ _ _ _ => false
  | _ => true

def V.cl : V → Bool
  | .c x => x.cl
  | .agg cs => cs.all C.cl
  | .tup ps => ps.all fun p => p.2.all C.cl

theorem RC.cl {H H' : Hp} {ρ : Rho} {D : Nat → Prop} {c : C} {v : Value} (h : RC H ρ D c v) (hc : c.cl = true) : RC H' ρ D c v := by
  cases c with
  | lf l =>
    cases l with
    | list E t => simp [C.cl] at hc
    | int k t => obtain ⟨rfl, h1⟩ := RL.of_int h; exact RL.int h1
    | bool t => have := RL.of_bool h; subst this; exact RL.bool
    | str t => obtain ⟨rfl, h1⟩ := RL.of_str h; exact RL.str h1
  | bl b => exact h
  | nil => exact h
  | own k => exact h
  | undef => trivial
  | ptr k off => simp [C.cl] at hc
  | el E x off => simp [C.cl] at hc
  | pcs ls off => simp [C.cl] at hc
  | oel k E i off => simp [C.cl] at hc
  | fn f l => simp [C.cl] at hc

theorem RCs.cl {H H' : Hp} {ρ : Rho} {D : Nat → Prop} {cs : List C} {vs : Array Value} (h : RCs H ρ D cs vs) (hc : cs.all C.cl = true) : RCs H' ρ D cs vs :=
  ⟨h.1, fun j c hj => (h.2 j c hj).cl (List.all_eq_true.1 hc c (List.mem_of_getElem? hj))⟩

theorem RV.cl {H H' : Hp} {ρ : Rho} {D : Nat → Prop} {c : V} {v : Value} (h : RV H ρ D c v) (hc : c.cl = true) : RV H' ρ D c v := by
  cases c with
  | c x => exact RC.cl h hc
  | agg cs => obtain ⟨vs, h1, h2⟩ := h; exact ⟨vs, h1, h2.cl hc⟩
  | tup cs =>
    obtain ⟨vs, h1, h2, h3⟩ := h
    refine ⟨vs, h1, h2, fun j p hj => ?_⟩
    have h4 := h3 j p hj
    have h5 := List.all_eq_true.1 hc p (List.mem_of_getElem? hj)
    obtain ⟨b, l⟩ := p
    cases b with
    | true => obtain ⟨us, h6, h7⟩ := h4; exact ⟨us, h6, h7.cl h5⟩
    | false => obtain ⟨c, h6, h7⟩ := h4; simp only at h6; subst h6; exact ⟨c, rfl, h7.cl (by simpa using h5)⟩

def ownB : Blk → Bool
  | .own _ _ _ => true
  | _ => false

/-! ### contracts -/

def noH : Hp := fun _ => none

def args (H : Hp) (ρ : Rho) (D : Nat → Prop) (cs : List V) (vs : Array Value) : Prop :=
  vs.size = cs.length ∧ ∀ j c, cs[j]? = some c → RV H ρ D c (vs.getD j Go.undef)

/-- the blocks of a result, numbered from j on -/
def num : Nat → List Blk → List (Nat × Blk)
  | _, [] => []
  | j, B :: Bs => (j, B) :: num (j + 1) Bs

/-- It is a function with a body, and whatever the world: called with arguments that read so, the function returns what 'post' says, in memory of its own, and leaves all else as it was. -/
def callable (P : Program) (f : FuncId) : Prop := ∃ fn, P.funcs[f]? = some fn ∧ (fn.name == "runtime.NumGoroutine") = false ∧ fn.body.isNone = false

def Spec (P : Program) (f : FuncId) (as : List V) (post : V → List Blk → Prop) : Prop :=
  callable P f ∧ ∀ (w : World) (vs : Array Value), args (fun b => w.heap[b]?) (fun _ => default) (fun _ => False) as vs →
    Calls P f vs w fun e w' => ∃ v r nb H' ρ', e = .returned v ∧ post r nb ∧ nb.all ownB = true ∧ RelB w'.heap (fun b => w.heap[b]?) H' ρ' (num 0 nb) ∧ RV noH ρ' (dom (num 0 nb)) r v ∧ Ext w w'

/-- memory outside of what is counted -/
def hpOf (w : World) (S : Nat → Nat) : Hp := fun b => if S b = 0 then w.heap[b]? else none

/-- The same for a function that is handed blocks by name: they are its own while it runs; what becomes of them, and which are new (from 100 on), 'post' says. -/
def SpecM (P : Program) (f : FuncId) (as : List V) (bs : List (Nat × Blk)) (post : V → List (Nat × Blk) → Prop) : Prop :=
  callable P f ∧ ∀ (w : World) (vs : Array Value) (ρ : Rho), RelB w.heap (hpOf w (tot ρ bs)) (hpOf w (tot ρ bs)) ρ bs → args (hpOf w (tot ρ bs)) ρ (dom bs) as vs →
    Calls P f vs w fun e w' => ∃ v r bs' H' ρ', e = .returned v ∧ post r bs' ∧ RelB w'.heap (hpOf w (tot ρ bs)) H' ρ' bs' ∧ RV noH ρ' (dom bs') r v ∧ Ext w w' ∧ ∀ k, dom bs' k → dom bs k → (ρ' k).1 = (ρ k).1

/-! ### the result of a function -/

def namesC : C → List Nat
  | .own k => [k]
  | _ => []

def namesL : List C → List Nat
  | [] => []
  | c :: cs => namesC c ++ namesL cs

def namesT : List (Bool × List C) → List Nat
  | [] => []
  | p :: ps => namesL p.2 ++ namesT ps

def namesV : V → List Nat
  | .c x => namesC x
  | .agg cs => namesL cs
  | .tup ps => namesT ps

/-- place in a list -/
def place : List Nat → Nat → Nat
  | [], _ => 0
  | x :: xs, k => if x = k then 0 else place xs k + 1

def nodupB : List Nat → Bool
  | [] => true
  | x :: xs => !xs.contains x && nodupB xs

def getsB (bs : List (Nat × Blk)) : List Nat → Option (List Blk)
  | [] => some []
  | k :: ks => match getB bs k, getsB bs ks with
    | some (.own E xs _), some r => some (.own E xs false :: r)
    | _, _ => none

/-- no name has been lent -/
def unlent (bs : List (Nat × Blk)) : List Nat → Bool
  | [] => true
  | k :: ks => (match getB bs k with | some (.own _ _ false) => true | _ => false) && unlent bs ks

/-- the value of one result variable -/
def resV (tab : Tab) (σ : SS) : ResultVar → Option V
  | .tmp t => some (σ.env.getD t (.c .undef))
  | .cell t ty => exLoad tab σ.blk ty (σ.env.getD t (.c .undef))

def compV : V → Option (Bool × List C)
  | .c x => some (false, [x])
  | .agg cs => some (true, cs)
  | .tup _ => none

def resL (tab : Tab) (σ : SS) : List ResultVar → Option (List (Bool × List C))
  | [] => some []
  | x :: xs => match resV tab σ x, resL tab σ xs with
    | some v, some r => (match compV v with | some p => some (p :: r) | none => none)
    | _, _ => none

def resultV (tab : Tab) (σ : SS) : List ResultVar → Option V
  | [x] => resV tab σ x
  | xs => match resL tab σ xs with | some l => some (.tup l) | none => none

/-- what is to be shown at a return -/
def fin (tab : Tab) (rs : List ResultVar) (post : V → List Blk → Prop) (σ : SS) : Prop :=
  match resultV tab σ rs with
  | some r =>
    match getsB σ.blk (namesV r) with
    | some nb => if nodupB (namesV r) = true ∧ unlent σ.blk (namesV r) = true ∧ r.cl = true then post (r.ren (place (namesV r))) nb else False
    | none => False
  | none => False


/-! ### a return is right -/

def delB : List (Nat × Blk) → Nat → List (Nat × Blk)
  | [], _ => []
  | p :: r, k => if p.1 = k then r else p :: delB r k

theorem tot_delB {ρ : Rho} {bs : List (Nat × Blk)} {k : Nat} (hk : dom bs k) (x : Nat) : tot ρ bs x = (ρ k).2 x + tot ρ (delB bs k) x := by
  induction bs with
  | nil => simp [dom] at hk
  | cons p r ih =>
    simp only [delB, tot]
    split
    · rename_i h; subst h; rfl
    · rename_i h
      have hk' : dom r k := by
        simp only [dom, List.map_cons, List.mem_cons] at hk
        rcases hk with hk | hk
        · exact absurd hk.symm h
        · exact hk
      rw [ih hk']; simp only [tot]; omega

theorem dom_delB {bs : List (Nat × Blk)} {k j : Nat} (hj : dom bs j) (hne : j ≠ k) : dom (delB bs k) j := by
  induction bs with
  | nil => simp [dom] at hj
  | cons p r ih =>
    simp only [dom, List.map_cons, List.mem_cons] at hj
    simp only [delB]
    split
    · rename_i h
      rcases hj with hj | hj
      · exact absurd (hj.trans h) hne
      · exact hj
    · rcases hj with hj | hj
      · simp only [dom, List.map_cons, List.mem_cons]; exact .inl hj
      · simp only [dom, List.map_cons, List.mem_cons]; exact .inr (ih hj)

def sumK (ρ : Rho) : List Nat → Nat → Nat
  | [], _ => 0
  | k :: ks, x => (ρ k).2 x + sumK ρ ks x

theorem nodupB_cons {k : Nat} {ks : List Nat} (h : nodupB (k :: ks) = true) : k ∉ ks ∧ nodupB ks = true := by
  simpa [nodupB] using h

theorem sumK_le {ρ : Rho} : ∀ (ks : List Nat) {bs : List (Nat × Blk)}, nodupB ks = true → (∀ k ∈ ks, dom bs k) → ∀ x, sumK ρ ks x ≤ tot ρ bs x
  | [], _, _, _, _ => Nat.zero_le _
  | k :: ks, bs, hn, hd, x => by
    obtain ⟨h1, h2⟩ := nodupB_cons hn
    have := sumK_le (ρ := ρ) ks (bs := delB bs k) h2 (fun j hj => dom_delB (hd j (List.mem_cons_of_mem _ hj)) fun he => h1 (he ▸ hj)) x
    rw [tot_delB (hd k List.mem_cons_self)]
    simp only [sumK]; omega

theorem num_len {j : Nat} {nb : List Blk} : (num j nb).length = nb.length := by
  induction nb generalizing j with
  | nil => rfl
  | cons B nb ih => simp [num, ih]

theorem mem_num {j k : Nat} {B : Blk} {nb : List Blk} : (k, B) ∈ num j nb ↔ j ≤ k ∧ nb[k - j]? = some B := by
  induction nb generalizing j with
  | nil => simp [num]
  | cons A nb ih =>
    simp only [num, List.mem_cons, ih, Prod.mk.injEq]
    constructor
    · rintro (⟨rfl, rfl⟩ | ⟨h1, h2⟩)
      · simp
      · refine ⟨by omega, ?_⟩
        rw [show k - j = (k - (j + 1)) + 1 by omega]
        simpa using h2
    · rintro ⟨h1, h2⟩
      rcases Nat.eq_or_lt_of_le h1 with rfl | h
      · simp at h2; exact .inl ⟨rfl, h2.symm⟩
      · refine .inr ⟨by omega, ?_⟩
        rw [show k - j = (k - (j + 1)) + 1 by omega] at h2
        simpa using h2

theorem dom_num {j k : Nat} {nb : List Blk} : dom (num j nb) k ↔ j ≤ k ∧ k < j + nb.length := by
  simp only [dom, List.mem_map]
  constructor
  · rintro ⟨⟨k', B⟩, h, rfl⟩
    obtain ⟨h1, h2⟩ := mem_num.1 h
    have := lt_of_get h2
    exact ⟨h1, by simp only; omega⟩
  · rintro ⟨h1, h2⟩
    exact ⟨(k, nb[k - j]'(by omega)), mem_num.2 ⟨h1, List.getElem?_eq_getElem (by omega)⟩, rfl⟩

theorem nodup_num {j : Nat} {nb : List Blk} : ((num j nb).map (·.1)).Nodup := by
  induction nb generalizing j with
  | nil => simp [num]
  | cons B nb ih =>
    simp only [num, List.map_cons, List.nodup_cons]
    refine ⟨fun h => ?_, ih⟩
    have : dom (num (j + 1) nb) j := h
    have := dom_num.1 this
    omega

theorem getsB_get : ∀ {ks : List Nat} {bs : List (Nat × Blk)} {nb : List Blk}, getsB bs ks = some nb → nb.length = ks.length ∧ ∀ (j : Nat) B, nb[j]? = some B → ∃ k E xs l, ks[j]? = some k ∧ B = .own E xs false ∧ getB bs k = some (.own E xs l)
  | [], bs, nb, h => by simp only [getsB, Option.some.injEq] at h; subst h; exact ⟨rfl, fun j B hj => by simp at hj⟩
  | k :: ks, bs, nb, h => by
    simp only [getsB] at h
    split at h
    · rename_i E xs l r hk hr
      cases h
      obtain ⟨h1, h2⟩ := getsB_get hr
      refine ⟨by simp [h1], fun j B hj => ?_⟩
      cases j with
      | zero => simp at hj; exact ⟨k, E, xs, l, rfl, hj.symm, hk⟩
      | succ j => exact h2 j B (by simpa using hj)
    · cases h

theorem tot_num {ρ ρ' : Rho} {x : Nat} : ∀ {ks : List Nat} {nb : List Blk} {j : Nat}, nb.length = ks.length → (∀ (i k : Nat), ks[i]? = some k → ρ' (j + i) = ρ k) → tot ρ' (num j nb) x = sumK ρ ks x
  | [], nb, j, h, _ => by
    have : nb = [] := by simpa using h
    subst this; rfl
  | k :: ks, nb, j, h, hk => by
    cases nb with
    | nil => simp at h
    | cons B nb =>
      simp only [num, tot, sumK]
      rw [show ρ' j = ρ k from hk 0 k rfl]
      rw [tot_num (ρ := ρ) (ks := ks) (by simpa using h) fun i k' hi => by
        have := hk (i + 1) k' (by simpa using hi)
        rw [← this]; congr 1; omega]

theorem place_get : ∀ {ks : List Nat} {k : Nat}, k ∈ ks → ks[place ks k]? = some k
  | x :: xs, k, h => by
    simp only [place]
    split
    · rename_i hx; subst hx; rfl
    · rename_i hx
      cases h with
      | head => exact (hx rfl).elim
      | tail _ h => simpa using place_get h

theorem namesL_mem {cs : List C} {k : Nat} (h : .own k ∈ cs) : k ∈ namesL cs := by
  induction cs with
  | nil => cases h
  | cons c cs ih =>
    simp only [namesL, List.mem_append]
    cases h with
    | head => exact .inl (by simp [namesC])
    | tail _ h => exact .inr (ih h)

theorem namesT_mem {ps : List (Bool × List C)} {p : Bool × List C} {k : Nat} (h : p ∈ ps) (hk : k ∈ namesL p.2) : k ∈ namesT ps := by
  induction ps with
  | nil => cases h
  | cons q ps ih =>
    simp only [namesT, List.mem_append]
    cases h with
    | head => exact .inl hk
    | tail _ h => exact .inr (ih h)

section
variable {H H' : Hp} {ρ ρ' : Rho} {D D' : Nat → Prop} {m : Nat → Nat}

/-- as 'RV.ren', but only the names that stand in the value are asked -/
theorem RC.renN {c : C} {v : Value} (h : RC H ρ D c v) (hc : c.cl = true) (hm : ∀ k ∈ namesC c, D' (m k) ∧ (ρ' (m k)).1 = (ρ k).1) : RC H' ρ' D' (c.ren m) v := by
  cases c with
  | own k =>
    obtain ⟨_, h1⟩ := h
    have := hm k (by simp [namesC])
    exact ⟨this.1, by rw [this.2]; exact h1⟩
  | lf l => exact RC.cl (D := D') (ρ := ρ') (c := .lf l) h hc
  | bl b => exact h
  | nil => exact h
  | undef => trivial
  | ptr k off => simp [C.cl] at hc
  | el E x off => simp [C.cl] at hc
  | pcs ls off => simp [C.cl] at hc
  | oel k E i off => simp [C.cl] at hc
  | fn f l => simp [C.cl] at hc

theorem namesC_sub {cs : List C} {c : C} (h : c ∈ cs) : ∀ k ∈ namesC c, k ∈ namesL cs := by
  intro k hk
  cases c <;> simp [namesC] at hk
  subst hk
  exact namesL_mem h

theorem RCs.renN {cs : List C} {vs : Array Value} (h : RCs H ρ D cs vs) (hc : cs.all C.cl = true) (hm : ∀ k ∈ namesL cs, D' (m k) ∧ (ρ' (m k)).1 = (ρ k).1) : RCs H' ρ' D' (renL m cs) vs := by
  refine ⟨by rw [renL_len]; exact h.1, fun j c hj => ?_⟩
  obtain ⟨c0, h1, rfl⟩ := renL_get hj
  have hmem := List.mem_of_getElem? h1
  exact (h.2 j c0 h1).renN (List.all_eq_true.1 hc _ hmem) fun k hk => hm k (namesC_sub hmem k hk)

theorem RV.renN {c : V} {v : Value} (h : RV H ρ D c v) (hc : c.cl = true) (hm : ∀ k ∈ namesV c, D' (m k) ∧ (ρ' (m k)).1 = (ρ k).1) : RV H' ρ' D' (c.ren m) v := by
  cases c with
  | c x => exact RC.renN h hc hm
  | agg cs => obtain ⟨vs, h1, h2⟩ := h; exact ⟨vs, h1, h2.renN hc hm⟩
  | tup cs =>
    obtain ⟨vs, h1, h2, h3⟩ := h
    refine ⟨vs, h1, by rw [renT_len]; exact h2, fun j p hj => ?_⟩
    obtain ⟨p0, h4, rfl⟩ := renT_get hj
    have hmem := List.mem_of_getElem? h4
    have := h3 j p0 h4
    have hcl := List.all_eq_true.1 hc p0 hmem
    have hm' : ∀ k ∈ namesL p0.2, D' (m k) ∧ (ρ' (m k)).1 = (ρ k).1 := fun k hk => hm k (namesT_mem hmem hk)
    obtain ⟨b, l⟩ := p0
    cases b with
    | true => obtain ⟨us, h5, h6⟩ := this; exact ⟨us, h5, h6.renN hcl hm'⟩
    | false =>
      obtain ⟨c, h5, h6⟩ := this
      simp only at h5; subst h5
      exact ⟨_, rfl, h6.renN (by simpa using hcl) fun k hk => hm' k (by simpa [namesL] using hk)⟩
end


/-- one result variable, as the machine reads it -/
def resS (tmps : Array Value) : ResultVar → Sem Value
  | .tmp t => pure (tmps.getD t Go.undef)
  | .cell t ty => do loadVar ty (← asAddr (tmps.getD t Go.undef))

section
variable {P : Program} {tab : Tab} (hT : tabB P tab = true) {Γ : Ctx} {H : Hp} {ρ : Rho} {σ : SS} {a : Act} {w : World} (r : RelH Γ H ρ σ a w)
include hT r

omit hT in
theorem env_ok (t : Nat) : RV H ρ (dom σ.blk) (σ.env.getD t (.c .undef)) (a.tmps.getD t Go.undef) := by
  have := ev_ok r.e (.tmp t)
  exact this

theorem run_resV {x : ResultVar} {v : V} (h : resV tab σ x = some v) : ∃ y, RV H ρ (dom σ.blk) v y ∧ (resS a.tmps x).run P w = .ok y w := by
  cases x with
  | tmp t => simp only [resV, Option.some.injEq] at h; subst h; exact ⟨_, env_ok r t, rfl⟩
  | cell t ty =>
    simp only [resV] at h
    obtain ⟨y, h1, h2⟩ := exLoad_ok hT r h (env_ok r t)
    refine ⟨y, h1, ?_⟩
    have h3 := h2 w (Keeps.refl r _)
    have hp := env_ok r t
    simp only [Instr.loadAt, Sem.run_bind] at h3
    simp only [resS, Sem.run_bind]
    generalize hq : a.tmps.getD t Go.undef = q at *
    have : ∃ ad, q = .pointer (some ad) := by
      generalize σ.env.getD t (.c .undef) = c at h hp
      unfold exLoad at h
      split at h
      · obtain ⟨_, b, _, rfl⟩ := hp; exact ⟨_, rfl⟩
      · obtain ⟨b, o, cs, e, fz, _, rfl, _⟩ := hp; exact ⟨_, rfl⟩
      · obtain ⟨b, o, cs, e, fz, _, rfl, _⟩ := hp; exact ⟨_, rfl⟩
      · obtain ⟨_, b, o, n, c, _, _, rfl⟩ := hp; exact ⟨_, rfl⟩
      · cases h
    obtain ⟨ad, rfl⟩ := this
    exact h3

omit hT r in
theorem compV_ok {v : V} {y : Value} {p : Bool × List C} (h : compV v = some p) (hv : RV H ρ (dom σ.blk) v y) : RT H ρ (dom σ.blk) p y := by
  cases v with
  | c x => simp only [compV, Option.some.injEq] at h; subst h; exact ⟨x, rfl, hv⟩
  | agg cs => simp only [compV, Option.some.injEq] at h; subst h; exact hv
  | tup cs => simp [compV] at h

theorem run_resL : ∀ {rs : List ResultVar} {l : List (Bool × List C)}, resL tab σ rs = some l → ∃ vs : List Value,
      (rs.mapM (resS a.tmps)).run P w = .ok vs w ∧ vs.length = l.length ∧ ∀ (j : Nat) p, l[j]? = some p → RT H ρ (dom σ.blk) p (vs.toArray.getD j Go.undef)
  | [], l, h => by
    simp only [resL, Option.some.injEq] at h; subst h
    exact ⟨[], by simp, rfl, fun j p hj => by simp at hj⟩
  | x :: rs, l, h => by
    simp only [resL] at h
    split at h
    · rename_i v l' hv hl
      split at h
      · rename_i p hp
        cases h
        obtain ⟨y, h1, h2⟩ := run_resV hT r hv
        obtain ⟨vs, h3, h4, h5⟩ := run_resL hl
        refine ⟨y :: vs, by rw [List.mapM_cons, Sem.run_bind, h2, Result.andThen_ok, Sem.run_bind, h3]; rfl, by simp [h4], fun j q hj => ?_⟩
        cases j with
        | zero => simp at hj; subst hj; simpa using compV_ok hp h1
        | succ j => simpa using h5 j q (by simpa using hj)
      · cases h
    · cases h

omit hT r in
theorem results_eq (fn : Func) (tmps : Array Value) : (results fn tmps).run P w = ((fn.results.toList.mapM (resS tmps)).run P w).andThen fun vs w' => .ok (if h : vs.length = 1 then vs[0] else .tuple vs.toArray) w' := by
  have e : results fn tmps = (do let vs ← fn.results.mapM (resS tmps); pure (if h : vs.size = 1 then vs[0] else .tuple vs)) := rfl
  rw [e, Sem.run_bind, Array.mapM_eq_mapM_toList, Sem.run_map]
  cases (fn.results.toList.mapM (resS tmps)).run P w with
  | ok vs w' => simp
  | halt h w' => rfl

theorem run_result {fn : Func} {v : V} (h : resultV tab σ fn.results.toList = some v) : ∃ y, RV H ρ (dom σ.blk) v y ∧ (results fn a.tmps).run P w = .ok y w := by
  unfold resultV at h
  split at h
  · rename_i x hx
    obtain ⟨y, h1, h2⟩ := run_resV hT r h
    refine ⟨y, h1, ?_⟩
    rw [results_eq, hx, List.mapM_cons, Sem.run_bind, h2]
    simp
  · rename_i hne
    split at h
    · rename_i l hl
      cases h
      obtain ⟨vs, h1, h2, h3⟩ := run_resL hT r hl
      refine ⟨.tuple vs.toArray, ⟨vs.toArray, rfl, by simpa using h2, h3⟩, ?_⟩
      rw [results_eq, h1]
      have : vs.length ≠ 1 := by
        intro h4
        have h5 : fn.results.toList.length = 1 := by
          have : ∀ (rs : List ResultVar) l, resL tab σ rs = some l → l.length = rs.length := by
            intro rs
            induction rs with
            | nil => intro l h; simp only [resL, Option.some.injEq] at h; subst h; rfl
            | cons x rs ih =>
              intro l h
              simp only [resL] at h
              split at h
              · split at h
                · cases h; simp [ih _ ‹_›]
                · cases h
              · cases h
          rw [← this _ _ hl, ← h2, h4]
        obtain ⟨x, hx⟩ := List.length_eq_one_iff.1 h5
        exact hne x hx
      simp [this]
    · cases h

theorem fin_ok {fn : Func} {post : V → List Blk → Prop} (h : fin tab fn.results.toList post σ) :
    ∃ v, (results fn a.tmps).run P w = .ok v w ∧ ∃ rv nb H' ρ', post rv nb ∧ nb.all ownB = true ∧ RelB w.heap Γ.H0 H' ρ' (num 0 nb) ∧ RV noH ρ' (dom (num 0 nb)) rv v := by
  unfold fin at h
  split at h
  · rename_i rv hrv
    split at h
    · rename_i nb hnb
      split at h
      · rename_i hc
        obtain ⟨hnd, hul, hcl⟩ := hc
        obtain ⟨v, h1, h2⟩ := run_result hT r hrv
        obtain ⟨hlen, hget⟩ := getsB_get hnb
        have hget' : ∀ (j : Nat) B, nb[j]? = some B → ∃ k, (namesV rv)[j]? = some k ∧ (k, B) ∈ σ.blk ∧ ∃ E xs, B = .own E xs false := by
          intro j B hj
          obtain ⟨k, E, xs, l, h3, rfl, h4⟩ := hget j B hj
          have : l = false := by
            have : ∀ ks, unlent σ.blk ks = true → ∀ k ∈ ks, ∀ E xs l, getB σ.blk k = some (.own E xs l) → l = false := by
              intro ks
              induction ks with
              | nil => intro _ k hk; cases hk
              | cons x ks ih =>
                intro hu k hk E xs l hg
                simp only [unlent, Bool.and_eq_true] at hu
                cases hk with
                | head => rw [hg] at hu; cases l <;> simp at hu ⊢
                | tail _ hk => exact ih hu.2 k hk E xs l hg
            exact this _ hul k (List.mem_of_getElem? h3) E xs l h4
          subst this
          exact ⟨k, h3, getB_mem h4, E, xs, rfl⟩
        have hdom : ∀ k ∈ namesV rv, dom σ.blk k := by
          intro k hk
          obtain ⟨j, hj, hjk⟩ := List.getElem_of_mem hk
          obtain ⟨B, hB⟩ : ∃ B, nb[j]? = some B := ⟨_, List.getElem?_eq_getElem (by omega)⟩
          obtain ⟨k', h3, h4, _⟩ := hget' j B hB
          rw [List.getElem?_eq_getElem hj, hjk] at h3
          cases h3
          exact List.mem_map.2 ⟨_, h4, rfl⟩
        let ρ' : Rho := fun j => ρ ((namesV rv).getD j 0)
        have hρ : ∀ (i k : Nat), (namesV rv)[i]? = some k → ρ' i = ρ k := fun i k hi => by
          simp only [ρ', List.getD_eq_getElem?_getD, hi, Option.getD_some]
        have hmem : ∀ j B, (j, B) ∈ num 0 nb → ∃ k, (namesV rv)[j]? = some k ∧ (k, B) ∈ σ.blk ∧ ρ' j = ρ k ∧ ∃ E xs, B = .own E xs false := fun j B hj => by
          obtain ⟨_, h3⟩ := mem_num.1 hj
          obtain ⟨k, h4, h5, h6⟩ := hget' j B (by simpa using h3)
          exact ⟨k, h4, h5, hρ j k h4, h6⟩
        refine ⟨v, h2, _, nb, Γ.H0, ρ', h, List.all_eq_true.2 fun B hB => ?_, ⟨?_, nodup_num, fun b o h => h, fun b o h => r.b.hh b o (r.b.h0 b o h), ?_, ?_, ?_, ?_⟩, ?_⟩
        · obtain ⟨j, hj, hjB⟩ := List.getElem_of_mem hB
          obtain ⟨_, _, _, E, xs, rfl⟩ := hget' j B (by rw [List.getElem?_eq_getElem hj, hjB])
          rfl
        · intro k hk
          obtain ⟨_, h4⟩ := dom_num.1 hk
          obtain ⟨B, hB⟩ : ∃ B, nb[k]? = some B := ⟨_, List.getElem?_eq_getElem (by omega)⟩
          obtain ⟨k', h3, h5, _⟩ := hget' k B hB
          rw [hρ k k' h3]
          exact r.b.oc k' (List.mem_map.2 ⟨_, h5, rfl⟩)
        · intro k B hk
          obtain ⟨k', h3, h4, h5, E, xs, rfl⟩ := hmem k B hk
          rw [h5]
          exact r.b.blk k' _ h4
        · intro x
          rw [tot_num (ρ := ρ) hlen (fun i k hi => by rw [Nat.zero_add]; exact hρ i k hi)]
          exact Nat.le_trans (sumK_le _ hnd hdom x) (r.b.sum x)
        · intro k B hk x hx
          obtain ⟨k', h3, h4, h5, _⟩ := hmem k B hk
          rw [h5] at hx
          exact r.b.fresh k' B h4 x hx
        · intro k B hk x hx
          obtain ⟨k', h3, h4, h5, E, xs, rfl⟩ := hmem k B hk
          rw [h5] at hx
          exact r.b.fresh k' _ h4 x hx
        · refine h1.renN hcl fun k hk => ?_
          have hp := place_get hk
          refine ⟨dom_num.2 ⟨Nat.zero_le _, ?_⟩, by rw [hρ _ k hp]⟩
          rw [Nat.zero_add, hlen]
          exact lt_of_get hp
      · cases h
    · cases h
  · cases h

end

end Go.Proofs.Ytnmdhpaobmjefaa
