/-
  Symbolic states: what the temporaries of a frame hold, the blocks of memory that the frame has made by name, and what it means that a frame and a world are as such a state says. No conditions.
-/
import Derived.Test.YtnmdhpaobmjefaaData
namespace Go.Proofs.Ytnmdhpaobmjefaa
open Go

/-- a captured variable -/
inductive Cp where
  | ptr (k off : Nat)
  | el (E : ETy) (x : Unit → E.α) (off : Nat)
  | pcs (ls : List Lf) (off : Nat)

/-- what one cell holds -/
inductive C where
  | lf (l : Lf)
  | bl (b : Bool)
  | nil
  | own (k : Nat)
  | ptr (k off : Nat)
  | el (E : ETy) (x : Unit → E.α) (off : Nat)
  | pcs (ls : List Lf) (off : Nat)
  | oel (k : Nat) (E : ETy) (i : Unit → Nat) (off : Nat)
  | fn (f : FuncId) (caps : List Cp)
  | undef

inductive V where
  | c (x : C)
  | agg (cs : List C)
  | tup (cs : List (Bool × List C))

inductive Blk where
  | dead
  | box (cs : List C)
  | own (E : ETy) (xs : Unit → List E.α) (lent : Bool)
  /-- a list that is only read, by a name -/
  | view (E : ETy) (xs : Unit → List E.α)
  /-- an owned list; cells of its element i stand under names of their own -/
  | hol (E : ETy) (xs : Unit → List E.α) (i : Unit → Nat) (fs : List (Option Nat))

structure SS where
  env : List V
  blk : List (Nat × Blk)

abbrev Hp := Nat → Option Obj
abbrev Rho := Nat → Value × (Nat → Nat)

def RCp (H : Hp) (ρ : Rho) (D : Nat → Prop) : Cp → Value → Prop
  | .ptr k off, v => D k ∧ ∃ b, (ρ k).1 = .pointer (some ⟨b, 0, none⟩) ∧ v = .pointer (some ⟨b, off, none⟩)
  | .el E x off, v => ∃ b o cs e fz, H b = some (.cells cs e fz) ∧ v = .pointer (some ⟨b, o, none⟩) ∧
      ∀ j l, (cellsT E x)[off + j]? = some l → o + j < cs.size ∧ RL H l (cs.getD (o + j) Go.undef)
  | .pcs ls off, v => ∃ b o cs e fz, H b = some (.cells cs e fz) ∧ v = .pointer (some ⟨b, o, none⟩) ∧
      ∀ j l, ls[off + j]? = some l → o + j < cs.size ∧ RL H l (cs.getD (o + j) Go.undef)

def RC (H : Hp) (ρ : Rho) (D : Nat → Prop) : C → Value → Prop
  | .lf l, v => RL H l v
  | .bl b, v => v = .bool b
  | .nil, v => v = .slice none 0 0
  | .own k, v => D k ∧ v = (ρ k).1
  | .ptr k off, v => RCp H ρ D (.ptr k off) v
  | .el E x off, v => RCp H ρ D (.el E x off) v
  | .pcs ls off, v => RCp H ρ D (.pcs ls off) v
  | .oel k E i off, v => D k ∧ ∃ b o n c, (ρ k).1 = .slice (some ⟨b, o, none⟩) n c ∧ i () < n ∧ v = .pointer (some ⟨b, o + i () * E.sz + off, none⟩)
  | .fn f caps, v => ∃ vs : Array Value, v = .func (.func f) #[] vs ∧ vs.size = caps.length ∧ ∀ j c, caps[j]? = some c → RCp H ρ D c (vs.getD j Go.undef)
  | .undef, _ => True

def RCs (H : Hp) (ρ : Rho) (D : Nat → Prop) (cs : List C) (vs : Array Value) : Prop :=
  vs.size = cs.length ∧ ∀ j c, cs[j]? = some c → RC H ρ D c (vs.getD j Go.undef)

def RT (H : Hp) (ρ : Rho) (D : Nat → Prop) (p : Bool × List C) (v : Value) : Prop :=
  match p.1 with
  | true => ∃ vs, v = .agg vs ∧ RCs H ρ D p.2 vs
  | false => ∃ c, p.2 = [c] ∧ RC H ρ D c v

def RV (H : Hp) (ρ : Rho) (D : Nat → Prop) : V → Value → Prop
  | .c x, v => RC H ρ D x v
  | .agg cs, v => ∃ vs, v = .agg vs ∧ RCs H ρ D cs vs
  | .tup cs, v => ∃ vs : Array Value, v = .tuple vs ∧ vs.size = cs.length ∧ ∀ j p, cs[j]? = some p → RT H ρ D p (vs.getD j Go.undef)

def one (b : Nat) : Nat → Nat := fun x => if x = b then 1 else 0

/-- the name under which a cell stands -/
def filled (fs : List (Option Nat)) (i q j : Nat) : Option Nat := if q = i then (match fs[j]? with | some (some k) => some k | _ => none) else none

/-- the elements of a list, in cells counted from 0 on; those of element i that have names are owned by these -/
def HSeg (h : Array Obj) (ρ : Rho) (D : Nat → Prop) (E : ETy) (xs : List E.α) (i : Nat) (fs : List (Option Nat)) (cs : Nat → Value) (S : Nat → Nat → Nat → Nat) : Prop :=
  ∀ q x, xs[q]? = some x → ∀ j l, (cellsT E fun _ => x)[j]? = some l → match filled fs i q j with
    | some k => D k ∧ cs (q * E.sz + j) = (ρ k).1 ∧ S q j = fun _ => 0
    | none => OwnL h l (cs (q * E.sz + j)) (S q j)

def BlkR (h : Array Obj) (H : Hp) (ρ : Rho) (D : Nat → Prop) (B : Blk) (p : Value × (Nat → Nat)) : Prop :=
  match B with
  | .dead => p.2 = fun _ => 0
  | .box cs => ∃ b vs e fz, p.1 = .pointer (some ⟨b, 0, none⟩) ∧ p.2 = one b ∧ h[b]? = some (.cells vs e fz) ∧ NF vs fz ∧ RCs H ρ D cs vs
  | .own E xs _ => OwnL h (.list E xs) p.1 p.2
  | .view E xs => RL H (.list E xs) p.1 ∧ p.2 = fun _ => 0
  | .hol E xs i fs => ∃ b o c cs e fz S, p.1 = .slice (some ⟨b, o, none⟩) (xs ()).length c ∧ p.2 = cnt b (xs ()).length E.sz S ∧ h[b]? = some (.cells cs e fz) ∧ NF cs fz ∧ (xs ()).length ≤ c ∧
      (xs ()).length ≤ maxL ∧ o + c * E.sz ≤ cs.size ∧ i () < (xs ()).length ∧ HSeg h ρ D E (xs ()) (i ()) fs (fun q => cs.getD (o + q) Go.undef) S

/-- the blocks that may be written through a name -/
def Top (B : Blk) (p : Value × (Nat → Nat)) (x : Nat) : Prop :=
  match B with
  | .dead => False
  | .box _ => 0 < p.2 x
  | .own _ _ false => 0 < p.2 x
  | .own _ _ true => ∃ o n c, p.1 = .slice (some ⟨x, o, none⟩) n c
  | .view _ _ => False
  | .hol _ _ _ _ => 0 < p.2 x

def dom (bs : List (Nat × Blk)) (k : Nat) : Prop := k ∈ bs.map (·.1)

def tot (ρ : Rho) : List (Nat × Blk) → Nat → Nat
  | [], _ => 0
  | p :: r, x => (ρ p.1).2 x + tot ρ r x

structure RelB (h : Array Obj) (H0 H : Hp) (ρ : Rho) (bs : List (Nat × Blk)) : Prop where
  oc : ∀ k, dom bs k → (ρ k).1.oneCell' = true
  nd : (bs.map (·.1)).Nodup
  h0 : ∀ b o, H0 b = some o → H b = some o
  hh : ∀ b o, H b = some o → h[b]? = some o
  blk : ∀ k B, (k, B) ∈ bs → BlkR h H ρ (dom bs) B (ρ k)
  sum : ∀ x, tot ρ bs x ≤ 1
  fresh : ∀ k B, (k, B) ∈ bs → ∀ x, 0 < (ρ k).2 x → H0 x = none
  tops : ∀ k B, (k, B) ∈ bs → ∀ x, Top B (ρ k) x → H x = none

/-- a later world: nothing is gone, the outside is as it was, and what may be written may still be -/
structure Ext (w w' : World) : Prop where
  sz : w.heap.size ≤ w'.heap.size
  os : w'.os = w.os
  out : w'.output = w.output
  fz : ∀ a, w'.frozen? a = w.frozen? a

theorem Ext.refl (w : World) : Ext w w := ⟨Nat.le_refl _, rfl, rfl, fun _ => rfl⟩
theorem Ext.trans {w w' w'' : World} (h : Ext w w') (g : Ext w' w'') : Ext w w'' := ⟨Nat.le_trans h.sz g.sz, g.os.trans h.os, g.out.trans h.out, fun a => (g.fz a).trans (h.fz a)⟩

structure Ctx where
  H0 : Hp
  hd : List (Nat × (Value × (Nat → Nat)))
  w0 : World
  hm : List (Nat × Value)

structure RelE (H : Hp) (ρ : Rho) (D : Nat → Prop) (env : List V) (tmps : Array Value) : Prop where
  size : tmps.size = env.length
  get : ∀ (j : Nat) c, env[j]? = some c → RV H ρ D c (tmps.getD j Go.undef)

structure RelH (Γ : Ctx) (H : Hp) (ρ : Rho) (σ : SS) (a : Act) (w : World) : Prop where
  b : RelB w.heap Γ.H0 H ρ σ.blk
  e : RelE H ρ (dom σ.blk) σ.env a.tmps
  d : a.defers = []
  n : Ext Γ.w0 w
  hd : ∀ p ∈ Γ.hd, dom σ.blk p.1 ∧ (ρ p.1).1 = p.2.1 ∧ ∀ x, (ρ p.1).2 x ≤ p.2.2 x
  hm : ∀ p ∈ Γ.hm, dom σ.blk p.1 ∧ (ρ p.1).1 = p.2

def Rel (Γ : Ctx) (σ : SS) (a : Act) (w : World) : Prop := ∃ H ρ, RelH Γ H ρ σ a w

/-! ### growing: more memory known, more names -/

structure Grow (H H' : Hp) (ρ ρ' : Rho) (D D' : Nat → Prop) : Prop where
  h : ∀ b o, H b = some o → H' b = some o
  d : ∀ k, D k → D' k ∧ (ρ' k).1 = (ρ k).1

theorem Grow.refl (H : Hp) (ρ : Rho) (D : Nat → Prop) : Grow H H ρ ρ D D := ⟨fun _ _ h => h, fun _ h => ⟨h, rfl⟩⟩

section
variable {H H' : Hp} {ρ ρ' : Rho} {D D' : Nat → Prop}

theorem RCp.grow (g : Grow H H' ρ ρ' D D') {c : Cp} {v : Value} (h : RCp H ρ D c v) : RCp H' ρ' D' c v := by
  cases c with
  | ptr k off => obtain ⟨hk, b, h1, h2⟩ := h; exact ⟨(g.d k hk).1, b, by rw [(g.d k hk).2]; exact h1, h2⟩
  | el E x off =>
    obtain ⟨b, o, cs, e, fz, h1, h2, h3⟩ := h
    exact ⟨b, o, cs, e, fz, g.h _ _ h1, h2, fun j l hj => ⟨(h3 j l hj).1, (h3 j l hj).2.mono g.h⟩⟩
  | pcs ls off =>
    obtain ⟨b, o, cs, e, fz, h1, h2, h3⟩ := h
    exact ⟨b, o, cs, e, fz, g.h _ _ h1, h2, fun j l hj => ⟨(h3 j l hj).1, (h3 j l hj).2.mono g.h⟩⟩

theorem RC.grow (g : Grow H H' ρ ρ' D D') {c : C} {v : Value} (h : RC H ρ D c v) : RC H' ρ' D' c v := by
  cases c with
  | lf l => exact RL.mono h g.h
  | bl b => exact h
  | nil => exact h
  | own k => obtain ⟨hk, h1⟩ := h; exact ⟨(g.d k hk).1, by rw [(g.d k hk).2]; exact h1⟩
  | ptr k off => exact RCp.grow g (c := .ptr k off) h
  | el E x off => exact RCp.grow g (c := .el E x off) h
  | pcs ls off => exact RCp.grow g (c := .pcs ls off) h
  | oel k E i off => obtain ⟨hk, b, o, n, c, h1, h2⟩ := h; exact ⟨(g.d k hk).1, b, o, n, c, by rw [(g.d k hk).2]; exact h1, h2⟩
  | fn f caps => obtain ⟨vs, h1, h2, h3⟩ := h; exact ⟨vs, h1, h2, fun j c hj => (h3 j c hj).grow g⟩
  | undef => trivial

theorem RCs.grow (g : Grow H H' ρ ρ' D D') {cs : List C} {vs : Array Value} (h : RCs H ρ D cs vs) : RCs H' ρ' D' cs vs :=
  ⟨h.1, fun j c hj => (h.2 j c hj).grow g⟩

theorem RT.grow (g : Grow H H' ρ ρ' D D') {p : Bool × List C} {v : Value} (h : RT H ρ D p v) : RT H' ρ' D' p v := by
  obtain ⟨b, cs⟩ := p
  cases b with
  | true => obtain ⟨vs, h1, h2⟩ := h; exact ⟨vs, h1, h2.grow g⟩
  | false => obtain ⟨c, h1, h2⟩ := h; exact ⟨c, h1, h2.grow g⟩

theorem RV.grow (g : Grow H H' ρ ρ' D D') {c : V} {v : Value} (h : RV H ρ D c v) : RV H' ρ' D' c v := by
  cases c with
  | c x => exact RC.grow g h
  | agg cs => obtain ⟨vs, h1, h2⟩ := h; exact ⟨vs, h1, h2.grow g⟩
  | tup cs => obtain ⟨vs, h1, h2, h3⟩ := h; exact ⟨vs, h1, h2, fun j p hj => (h3 j p hj).grow g⟩

theorem RelE.grow (g : Grow H H' ρ ρ' D D') {env : List V} {tmps : Array Value} (h : RelE H ρ D env tmps) : RelE H' ρ' D' env tmps :=
  ⟨h.size, fun j c hj => (h.get j c hj).grow g⟩
end

/-- another heap with the same blocks, as far as they are owned or known -/
theorem BlkR.mono {h h' : Array Obj} {H H' : Hp} {ρ ρ' : Rho} {D D' : Nat → Prop} {B : Blk} {p : Value × (Nat → Nat)} (g : Grow H H' ρ ρ' D D')
    (hr : BlkR h H ρ D B p) (hk : ∀ b, 0 < p.2 b → h'[b]? = h[b]?) : BlkR h' H' ρ' D' B p := by
  cases B with
  | dead => exact hr
  | box cs =>
    obtain ⟨b, vs, e, fz, h1, h2, h3, h4, h5⟩ := hr
    exact ⟨b, vs, e, fz, h1, h2, by rw [hk b (by simp [h2, one])]; exact h3, h4, h5.grow g⟩
  | own E xs lent => exact OwnL.mono hr hk
  | view E xs => exact ⟨hr.1.mono g.h, hr.2⟩
  | hol E xs i fs =>
    obtain ⟨b, o, c, cs, e, fz, S, h1, h2, h3, h4, h5, h6, h7, h8, h9⟩ := hr
    refine ⟨b, o, c, cs, e, fz, S, h1, h2, by rw [hk b (by rw [h2]; exact cnt_top _ _ _ _)]; exact h3, h4, h5, h6, h7, h8, fun q x hx j l hj => ?_⟩
    have h10 := h9 q x hx j l hj
    split at h10
    · obtain ⟨g1, g2, g3⟩ := h10
      exact ⟨(g.d _ g1).1, by rw [(g.d _ g1).2]; exact g2, g3⟩
    · refine h10.mono fun y hy => hk y ?_
      rw [h2]
      exact Nat.lt_of_lt_of_le hy (cnt_in (lt_of_get hx) (by have := lt_of_get hj; rwa [cellsT_len] at this))

theorem tot_le {ρ : Rho} {bs : List (Nat × Blk)} {k : Nat} {B : Blk} (h : (k, B) ∈ bs) (x : Nat) : (ρ k).2 x ≤ tot ρ bs x := by
  induction bs with
  | nil => cases h
  | cons p r ih =>
    simp only [tot]
    cases h with
    | head => simp only; omega
    | tail _ h => have := ih h; omega

/-! ### getting and putting names -/

def getB : List (Nat × Blk) → Nat → Option Blk
  | [], _ => none
  | p :: r, k => if p.1 = k then some p.2 else getB r k

theorem getB_mem {bs : List (Nat × Blk)} {k : Nat} {B : Blk} (h : getB bs k = some B) : (k, B) ∈ bs := by
  induction bs with
  | nil => simp [getB] at h
  | cons p r ih =>
    simp only [getB] at h
    split at h
    · rename_i hk; cases h; subst hk; exact List.mem_cons_self
    · exact List.mem_cons_of_mem _ (ih h)

theorem getB_dom {bs : List (Nat × Blk)} {k : Nat} {B : Blk} (h : getB bs k = some B) : dom bs k := List.mem_map.2 ⟨_, getB_mem h, rfl⟩

theorem getB_none {bs : List (Nat × Blk)} {k : Nat} (h : getB bs k = none) : ¬ dom bs k := by
  induction bs with
  | nil => simp [dom]
  | cons p r ih =>
    simp only [getB] at h
    split at h
    · cases h
    · rename_i hk
      intro hd
      simp only [dom, List.map_cons, List.mem_cons] at hd
      rcases hd with hd | hd
      · exact hk hd.symm
      · exact ih h hd

/-- a new name at its place by number -/
def insB : List (Nat × Blk) → Nat → Blk → List (Nat × Blk)
  | [], k, B => [(k, B)]
  | p :: r, k, B => if k < p.1 then (k, B) :: p :: r else p :: insB r k B

theorem mem_insB {bs : List (Nat × Blk)} {k : Nat} {B : Blk} {q : Nat × Blk} : q ∈ insB bs k B ↔ q = (k, B) ∨ q ∈ bs := by
  induction bs with
  | nil => simp [insB]
  | cons p r ih =>
    simp only [insB]
    split
    · simp
    · simp only [List.mem_cons, ih]
      constructor
      · rintro (h | h | h)
        · exact .inr (.inl h)
        · exact .inl h
        · exact .inr (.inr h)
      · rintro (h | h | h)
        · exact .inr (.inl h)
        · exact .inl h
        · exact .inr (.inr h)

theorem dom_insB {bs : List (Nat × Blk)} {k : Nat} {B : Blk} {j : Nat} : dom (insB bs k B) j ↔ j = k ∨ dom bs j := by
  simp only [dom, List.mem_map, mem_insB]
  constructor
  · rintro ⟨q, h | h, rfl⟩
    · exact .inl (by rw [h])
    · exact .inr ⟨q, h, rfl⟩
  · rintro (rfl | ⟨q, h, rfl⟩)
    · exact ⟨_, .inl rfl, rfl⟩
    · exact ⟨q, .inr h, rfl⟩

theorem nodup_insB {bs : List (Nat × Blk)} {k : Nat} {B : Blk} (h : (bs.map (·.1)).Nodup) (hk : ¬ dom bs k) : ((insB bs k B).map (·.1)).Nodup := by
  induction bs with
  | nil => simp [insB]
  | cons p r ih =>
    simp only [insB]
    split
    · simp only [List.map_cons] at h hk ⊢
      exact List.nodup_cons.2 ⟨hk, h⟩
    · simp only [List.map_cons, List.nodup_cons] at h ⊢
      have hk' : ¬ dom r k := fun h' => hk (by simp only [dom, List.map_cons, List.mem_cons]; exact .inr h')
      refine ⟨fun h' => ?_, ih h.2 hk'⟩
      have := dom_insB.1 h'
      rcases this with h1 | h1
      · exact hk (by simp only [dom, List.map_cons, List.mem_cons]; exact .inl h1.symm)
      · exact h.1 h1

theorem tot_insB {ρ : Rho} {bs : List (Nat × Blk)} {k : Nat} {B : Blk} (x : Nat) : tot ρ (insB bs k B) x = (ρ k).2 x + tot ρ bs x := by
  induction bs with
  | nil => simp [insB, tot]
  | cons p r ih =>
    simp only [insB]
    split
    · simp [tot]
    · simp only [tot, ih]; omega

theorem tot_congr {ρ ρ' : Rho} {bs : List (Nat × Blk)} (h : ∀ k, dom bs k → ρ' k = ρ k) (x : Nat) : tot ρ' bs x = tot ρ bs x := by
  induction bs with
  | nil => rfl
  | cons p r ih =>
    simp only [tot]
    rw [h p.1 (by simp [dom]), ih fun k hk => h k (by simp only [dom, List.map_cons, List.mem_cons]; exact .inr hk)]

/-- a name gets another block -/
def setB : List (Nat × Blk) → Nat → Blk → List (Nat × Blk)
  | [], _, _ => []
  | p :: r, k, B => if p.1 = k then (k, B) :: r else p :: setB r k B

theorem keys_setB {bs : List (Nat × Blk)} {k : Nat} {B : Blk} : (setB bs k B).map (·.1) = bs.map (·.1) := by
  induction bs with
  | nil => rfl
  | cons p r ih =>
    simp only [setB]
    split
    · rename_i h; simp [h]
    · simp [ih]

theorem dom_setB {bs : List (Nat × Blk)} {k : Nat} {B : Blk} {j : Nat} : dom (setB bs k B) j ↔ dom bs j := by simp only [dom, keys_setB]

theorem mem_setB {bs : List (Nat × Blk)} (hn : (bs.map (·.1)).Nodup) {k : Nat} {B : Blk} {j : Nat} {A : Blk} (h : (j, A) ∈ setB bs k B) :
    (j = k ∧ A = B) ∨ (j ≠ k ∧ (j, A) ∈ bs) := by
  induction bs with
  | nil => simp [setB] at h
  | cons p r ih =>
    simp only [List.map_cons, List.nodup_cons] at hn
    simp only [setB] at h
    split at h
    · rename_i hk
      cases h with
      | head => exact .inl ⟨rfl, rfl⟩
      | tail _ h =>
        refine .inr ⟨fun hj => hn.1 ?_, List.mem_cons_of_mem _ h⟩
        rw [hk, ← hj]
        exact List.mem_map.2 ⟨_, h, rfl⟩
    · rename_i hk
      cases h with
      | head => exact .inr ⟨hk, List.mem_cons_self⟩
      | tail _ h =>
        rcases ih hn.2 h with h' | h'
        · exact .inl h'
        · exact .inr ⟨h'.1, List.mem_cons_of_mem _ h'.2⟩

theorem tot_setB {ρ ρ' : Rho} {bs : List (Nat × Blk)} (hn : (bs.map (·.1)).Nodup) {k : Nat} {B : Blk} (hk : dom bs k) (h : ∀ j, j ≠ k → ρ' j = ρ j) (x : Nat) :
    tot ρ' (setB bs k B) x + (ρ k).2 x = tot ρ bs x + (ρ' k).2 x := by
  induction bs with
  | nil => simp [dom] at hk
  | cons p r ih =>
    simp only [List.map_cons, List.nodup_cons] at hn
    simp only [setB]
    split
    · rename_i hp
      simp only [tot]
      rw [tot_congr (ρ := ρ) (ρ' := ρ') (bs := r) fun j hj => h j fun he => hn.1 (by rw [hp, ← he]; exact hj)]
      rw [hp]; omega
    · rename_i hp
      simp only [tot]
      have hk' : dom r k := by
        simp only [dom, List.map_cons, List.mem_cons] at hk
        rcases hk with hk | hk
        · exact absurd hk.symm hp
        · exact hk
      have := ih hn.2 hk'
      rw [h p.1 hp]
      omega

end Go.Proofs.Ytnmdhpaobmjefaa
