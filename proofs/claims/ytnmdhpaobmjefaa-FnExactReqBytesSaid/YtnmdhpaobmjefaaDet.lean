/-
  The operations that leave memory alone: what each yields in a symbolic state, and that it does. No conditions.
-/
import Derived.Test.YtnmdhpaobmjefaaState
namespace Go.Proofs.Ytnmdhpaobmjefaa
open Go

/-! ### what is known of types -/

inductive Z where
  | i (k : IntKind)
  | bo
  | st
  | nl (E : ETy)
  | un
deriving DecidableEq

def Z.c : Z → C
  | .i k => .lf (.int k fun _ => 0)
  | .bo => .bl false
  | .st => .lf (.str fun _ => [])
  | .nl _ => .nil
  | .un => .undef

def Z.ok : Z → Value → Bool
  | .i k, .int k' m => decide (k = k') && decide (m = 0)
  | .bo, .bool b => !b
  | .st, .string s => decide (s = ByteArray.empty)
  | .nl _, .slice none 0 0 => true
  | .un, _ => true
  | _, _ => false

def Z.oks : List Z → List Value → Bool
  | [], [] => true
  | z :: zs, v :: vs => z.ok v && Z.oks zs vs
  | _, _ => false

theorem IntKind.has_zero (k : IntKind) : k.has 0 := by cases k <;> simp [IntKind.has, IntKind.min, IntKind.max, IntKind.signed, IntKind.bits]

theorem Z.ok_c {H : Hp} {ρ : Rho} {D : Nat → Prop} {z : Z} {v : Value} (h : z.ok v = true) : RC H ρ D z.c v := by
  cases z with
  | i k =>
    cases v <;> simp [Z.ok] at h
    obtain ⟨rfl, rfl⟩ := h
    exact RL.int (t := fun _ => 0) (IntKind.has_zero _)
  | bo => cases v <;> simp [Z.ok] at h; subst h; rfl
  | st =>
    cases v <;> simp [Z.ok] at h
    subst h
    exact RL.str (t := fun _ => []) (by simp [maxL])
  | nl E =>
    cases v with
    | slice a n c =>
      cases a with
      | none => cases n <;> cases c <;> first | rfl | simp [Z.ok] at h
      | some a => simp [Z.ok] at h
    | _ => simp [Z.ok] at h
  | un => trivial

theorem Z.oks_cs {H : Hp} {ρ : Rho} {D : Nat → Prop} {zs : List Z} {vs : List Value} (h : Z.oks zs vs = true) : RCs H ρ D (zs.map Z.c) vs.toArray := by
  induction zs generalizing vs with
  | nil =>
    cases vs with
    | nil => exact ⟨rfl, fun j c hj => by simp at hj⟩
    | cons v vs => simp [Z.oks] at h
  | cons z zs ih =>
    cases vs with
    | nil => simp [Z.oks] at h
    | cons v vs =>
      simp only [Z.oks, Bool.and_eq_true] at h
      have := ih h.2
      refine ⟨by simpa using this.1, fun j c hj => ?_⟩
      cases j with
      | zero => simp at hj; subst hj; simpa using Z.ok_c h.1
      | succ j => simpa using this.2 j c (by simpa using hj)

def zOf : ETy → List Z
  | .int => [.i .i64]
  | .byte => [.i .u8]
  | .str => [.st]
  | .pin => List.replicate 2 (.i .i64)
  | .ent => List.replicate 4 (.i .i64)
  | .pty => List.replicate 10 (.i .i64)
  | .spk => [.nl .pin]
  | .cab => List.replicate 5 (.i .i64) ++ [.nl .ent, .nl .spk]
  | .req => List.replicate 6 (.i .i64)
  | .rep => [.i .i64, .nl .int]

inductive TI where
  | sl (E : ETy) (elem bytes : Nat)
  | st (n : Nat) (fs : List (Nat × Nat × Bool)) (z : List Z) (q : Bool)
  | sc (z : Z)
  | it (k : IntKind)
  | bt
  | ss

def aggD : TypeDesc → Bool
  | .struct _ | .array _ _ => true
  | _ => false

def fldB (P : Program) : List (Nat × Nat × Bool) → List Field → Bool
  | [], [] => true
  | p :: ps, f :: fs =>
    decide (f.offset = p.1) && (match P.info? f.type with | some i => decide (i.size = p.2.1) | none => false) && decide (p.2.1 ≠ 0) &&
      (match P.underlying f.type with | some d => aggD d == p.2.2 | none => false) && decide (f.name ≠ "_") && fldB P ps fs
  | _, _ => false

/-- all fields are int's, in their order -/
def eqFB (P : Program) : Nat → List Field → Bool
  | _, [] => true
  | j, f :: fs => decide (f.offset = j) && decide (f.name ≠ "_") && (match P.underlying f.type with | some (.int _) => true | _ => false) && eqFB P (j + 1) fs

def eqB (P : Program) (t : TypeId) (fields : Array Field) : Bool := !P.stoodInHeld t && !P.eqGuardType P.depth t && eqFB P 0 fields.toList

def tiB (P : Program) (t : TypeId) : TI → Bool
  | .sl E elem bytes =>
    (match P.underlying t with | some (.slice e) => decide (e = elem) | _ => false) &&
      (match P.info? elem with
        | some i => decide (i.size = E.sz) && decide (i.bytes = bytes) && (match i.zero with | some z => Z.oks (zOf E) z.cells.toList | none => false)
        | none => false) &&
      (match P.info? t with
        | some i => decide (i.size = 1) && (match i.zero with | some v => v.oneCell' && (Z.nl E).ok v | none => false)
        | none => false)
  | .st n fs z q =>
    (match P.underlying t with | some (.struct fields) => fldB P fs fields.toList && (!q || eqB P t fields) | _ => false) &&
      (match P.info? t with
        | some i => decide (i.size = n) && (match i.zero with | some (.agg cs) => Z.oks z cs.toList | _ => false)
        | none => false)
  | .sc z =>
    (match P.underlying t with | some d => !aggD d | none => false) &&
      (match P.info? t with
        | some i => decide (i.size = 1) && (match i.zero with | some v => v.oneCell' && z.ok v | none => false)
        | none => false)
  | .it k =>
    (match P.underlying t with | some (.int k') => decide (k' = k) | _ => false) &&
      (match P.info? t with
        | some i => decide (i.size = 1) && (match i.zero with | some v => v.oneCell' && (Z.i k).ok v | none => false)
        | none => false)
  | .bt =>
    (match P.underlying t with | some .bool => true | _ => false) &&
      (match P.info? t with
        | some i => decide (i.size = 1) && (match i.zero with | some v => v.oneCell' && Z.bo.ok v | none => false)
        | none => false)
  | .ss =>
    (match P.underlying t with | some .string => true | _ => false) &&
      (match P.info? t with
        | some i => decide (i.size = 1) && (match i.zero with | some v => v.oneCell' && Z.st.ok v | none => false)
        | none => false)

/-- what is known of types, and which arguments of a function are handed over with their memory -/
structure Tab where
  ts : List (Nat × TI)
  mu : List (Nat × List Bool)

def tabC (P : Program) (tab : Tab) : Bool := tab.ts.all fun p => tiB P p.1 p.2

def tabB (P : Program) (tab : Tab) : Bool := P.follows .mixedOrders && tabC P tab

def tgetL : List (Nat × TI) → Nat → Option TI
  | [], _ => none
  | p :: r, n => if p.1 = n then some p.2 else tgetL r n

def tget (tab : Tab) (n : Nat) : Option TI := tgetL tab.ts n

def muL : List (Nat × List Bool) → Nat → Option (List Bool)
  | [], _ => none
  | p :: r, n => if p.1 = n then some p.2 else muL r n

def muT (tab : Tab) (f : Nat) : Option (List Bool) := muL tab.mu f

theorem tgetL_okC {P : Program} {ts : List (Nat × TI)} (h : (ts.all fun p => tiB P p.1 p.2) = true) {n : Nat} {ti : TI} (hg : tgetL ts n = some ti) : tiB P n ti = true := by
  induction ts with
  | nil => simp [tgetL] at hg
  | cons p r ih =>
    simp only [List.all_cons, Bool.and_eq_true] at h
    simp only [tgetL] at hg
    split at hg
    · rename_i hn; cases hg; subst hn; exact h.1
    · exact ih h.2 hg

theorem tget_okC {P : Program} {tab : Tab} (h : tabC P tab = true) {n : Nat} {ti : TI} (hg : tget tab n = some ti) : tiB P n ti = true := tgetL_okC h hg

theorem tget_ok {P : Program} {tab : Tab} (h : tabB P tab = true) {n : Nat} {ti : TI} (hg : tget tab n = some ti) : tiB P n ti = true := by
  simp only [tabB, Bool.and_eq_true] at h
  exact tget_okC h.2 hg

theorem tabB_mix {P : Program} {tab : Tab} (h : tabB P tab = true) : P.follows .mixedOrders = true := by
  simp only [tabB, Bool.and_eq_true] at h
  exact h.1

section
variable {P : Program} {t : TypeId}

theorem ti_sl {E : ETy} {elem bytes : Nat} (h : tiB P t (.sl E elem bytes) = true) :
    P.underlying t = some (.slice elem) ∧ ∃ i z, P.info? elem = some i ∧ i.size = E.sz ∧ i.bytes = bytes ∧ i.zero = some z ∧ Z.oks (zOf E) z.cells.toList = true := by
  simp only [tiB, Bool.and_eq_true] at h
  obtain ⟨⟨h1, h2⟩, _⟩ := h
  split at h1
  · rename_i e he
    simp only [decide_eq_true_eq] at h1
    subst h1
    refine ⟨he, ?_⟩
    split at h2
    · rename_i i hi
      simp only [Bool.and_eq_true, decide_eq_true_eq] at h2
      split at h2
      · rename_i z hz; exact ⟨i, z, hi, h2.1.1, h2.1.2, hz, h2.2⟩
      · simp at h2
    · cases h2
  · cases h1

theorem ti_sl' {E : ETy} {elem bytes : Nat} (h : tiB P t (.sl E elem bytes) = true) : tiB P t (.sc (.nl E)) = true := by
  have hU := (ti_sl h).1
  simp only [tiB, Bool.and_eq_true] at h ⊢
  exact ⟨by rw [hU]; rfl, h.2⟩

theorem ti_st {n : Nat} {fs : List (Nat × Nat × Bool)} {z : List Z} {q : Bool} (h : tiB P t (.st n fs z q) = true) :
    ∃ fields, P.underlying t = some (.struct fields) ∧ (fldB P fs fields.toList = true ∧ (q = true → eqB P t fields = true)) ∧ ∃ i cs, P.info? t = some i ∧ i.size = n ∧ i.zero = some (.agg cs) ∧ Z.oks z cs.toList = true := by
  simp only [tiB, Bool.and_eq_true] at h
  obtain ⟨h1, h2⟩ := h
  split at h1
  · rename_i fields hf
    simp only [Bool.and_eq_true] at h1
    refine ⟨fields, hf, ⟨h1.1, fun hq => by simpa [hq] using h1.2⟩, ?_⟩
    split at h2
    · rename_i i hi
      simp only [Bool.and_eq_true, decide_eq_true_eq] at h2
      split at h2
      · rename_i cs hz; exact ⟨i, cs, hi, h2.1, hz, h2.2⟩
      · simp at h2
    · cases h2
  · cases h1

theorem ti_sc {z : Z} (h : tiB P t (.sc z) = true) :
    (∃ d, P.underlying t = some d ∧ aggD d = false) ∧ ∃ i v, P.info? t = some i ∧ i.size = 1 ∧ i.zero = some v ∧ v.oneCell' = true ∧ z.ok v = true := by
  simp only [tiB, Bool.and_eq_true] at h
  obtain ⟨h1, h2⟩ := h
  split at h1
  · rename_i d hd
    refine ⟨⟨d, hd, by simpa using h1⟩, ?_⟩
    split at h2
    · rename_i i hi
      simp only [Bool.and_eq_true, decide_eq_true_eq] at h2
      split at h2
      · rename_i v hv
        simp only [Bool.and_eq_true] at h2
        exact ⟨i, v, hi, h2.1, hv, h2.2.1, h2.2.2⟩
      · simp at h2
    · cases h2
  · cases h1

theorem ti_it {k : IntKind} (h : tiB P t (.it k) = true) : P.underlying t = some (.int k) ∧ tiB P t (.sc (.i k)) = true := by
  simp only [tiB, Bool.and_eq_true] at h ⊢
  obtain ⟨h1, h2⟩ := h
  split at h1
  · rename_i k' hd
    simp only [decide_eq_true_eq] at h1
    subst h1
    exact ⟨hd, by rw [hd]; rfl, h2⟩
  · cases h1

theorem ti_bt (h : tiB P t .bt = true) : P.underlying t = some .bool ∧ tiB P t (.sc .bo) = true := by
  simp only [tiB, Bool.and_eq_true] at h ⊢
  obtain ⟨h1, h2⟩ := h
  split at h1
  · rename_i hd; exact ⟨hd, by rw [hd]; rfl, h2⟩
  · cases h1

theorem ti_ss (h : tiB P t .ss = true) : P.underlying t = some .string ∧ tiB P t (.sc .st) = true := by
  simp only [tiB, Bool.and_eq_true] at h ⊢
  obtain ⟨h1, h2⟩ := h
  split at h1
  · rename_i hd; exact ⟨hd, by rw [hd]; rfl, h2⟩
  · cases h1

theorem fld_get {fs : List (Nat × Nat × Bool)} {l : List Field} (h : fldB P fs l = true) {i : Nat} {p : Nat × Nat × Bool} (hp : fs[i]? = some p) :
    ∃ f, l[i]? = some f ∧ f.offset = p.1 ∧ (∃ fi, P.info? f.type = some fi ∧ fi.size = p.2.1) ∧ p.2.1 ≠ 0 ∧ (∃ d, P.underlying f.type = some d ∧ aggD d = p.2.2) ∧ f.name ≠ "_" := by
  induction fs generalizing l i with
  | nil => simp at hp
  | cons q qs ih =>
    cases l with
    | nil => simp [fldB] at h
    | cons f l =>
      simp only [fldB, Bool.and_eq_true] at h
      obtain ⟨⟨⟨⟨⟨h1, h2⟩, h3⟩, h4⟩, h6⟩, h5⟩ := h
      cases i with
      | zero =>
        simp at hp; subst hp
        refine ⟨f, rfl, by simpa using h1, ?_, by simpa using h3, ?_, by simpa using h6⟩
        · split at h2
          · rename_i fi hfi; exact ⟨fi, hfi, by simpa using h2⟩
          · cases h2
        · split at h4
          · rename_i d hd; exact ⟨d, hd, by simpa using h4⟩
          · cases h4
      | succ i => simpa using ih h5 (by simpa using hp)

theorem fld_len {fs : List (Nat × Nat × Bool)} {l : List Field} (h : fldB P fs l = true) : fs.length = l.length := by
  induction fs generalizing l with
  | nil => cases l <;> simp [fldB] at h ⊢
  | cons q qs ih =>
    cases l with
    | nil => simp [fldB] at h
    | cons f l => simp only [fldB, Bool.and_eq_true] at h; simp [ih h.2]

variable (w : World)
theorem run_und {d : TypeDesc} (h : P.underlying t = some d) : (underlying t).run P w = .ok d w := run_underlying h w
theorem run_agg {d : TypeDesc} (h : P.underlying t = some d) : (isAgg t).run P w = .ok (aggD d) w := by
  simp only [isAgg, Sem.run_bind, run_underlying h, Result.andThen_ok]
  cases d <;> rfl
theorem run_szOf {i : TypeInfo} (h : P.info? t = some i) : (sizeOf t).run P w = .ok i.size w := by
  simp [sizeOf, typeInfo, h]
theorem run_info {i : TypeInfo} (h : P.info? t = some i) : (typeInfo t).run P w = .ok i w := by
  simp [typeInfo, h]
theorem run_zero {i : TypeInfo} {z : Value} (h : P.info? t = some i) (hz : i.zero = some z) : (zeroValue t).run P w = .ok z w := by
  simp [zeroValue, typeInfo, h, hz]
end

/-! ### values -/

def inB (k : IntKind) (n : Int) : Bool :=
  match k with
  | .i64 => decide (-9223372036854775808 ≤ n) && decide (n ≤ 9223372036854775807)
  | .u8 => decide (0 ≤ n) && decide (n ≤ 255)
  | .u64 => decide (0 ≤ n) && decide (n ≤ 18446744073709551615)
  | _ => false

theorem has_i64 {n : Int} : IntKind.i64.has n ↔ -9223372036854775808 ≤ n ∧ n ≤ 9223372036854775807 := by
  simp [IntKind.has, IntKind.min, IntKind.max, IntKind.signed, IntKind.bits]

theorem has_u8 {n : Int} : IntKind.u8.has n ↔ 0 ≤ n ∧ n ≤ 255 := by
  simp [IntKind.has, IntKind.min, IntKind.max, IntKind.signed, IntKind.bits]

theorem has_u64 {n : Int} : IntKind.u64.has n ↔ 0 ≤ n ∧ n ≤ 18446744073709551615 := by
  simp [IntKind.has, IntKind.min, IntKind.max, IntKind.signed, IntKind.bits]

theorem inB_has {k : IntKind} {n : Int} (h : inB k n = true) : k.has n := by
  cases k <;> simp [inB] at h
  · exact has_i64.2 h
  · exact has_u8.2 h
  · exact has_u64.2 h

def constV : Value → V
  | .int k n => if inB k n then .c (.lf (.int k fun _ => n)) else .c .undef
  | .bool b => .c (.bl b)
  | .string s => if s.data.toList.length ≤ maxL then .c (.lf (.str fun _ => s.data.toList)) else .c .undef
  | .slice none 0 0 => .c .nil
  | _ => .c .undef

def SS.ev (σ : SS) : Operand → V
  | .tmp t => σ.env.getD t (.c .undef)
  | .const v => constV v
  | .func f => .c (.fn f [])
  | .global _ => .c .undef

section
variable {H : Hp} {ρ : Rho} {D : Nat → Prop}

theorem constV_ok (v : Value) : RV H ρ D (constV v) v := by
  unfold constV
  split
  · split
    · rename_i h; exact RL.int (inB_has h)
    · trivial
  · rfl
  · split
    · rename_i s h
      have := RL.str (H := H) (t := fun _ => s.data.toList) h
      simpa [RV, RC] using this
    · trivial
  · rfl
  · trivial

theorem ev_ok {σ : SS} {a : Act} (h : RelE H ρ D σ.env a.tmps) (x : Operand) : RV H ρ D (σ.ev x) (a.eval x) := by
  cases x with
  | tmp t =>
    simp only [SS.ev, Act.eval]
    cases ht : σ.env[t]? with
    | none => simp [List.getD_eq_getElem?_getD, ht, RV, RC]
    | some c => simpa [List.getD_eq_getElem?_getD, ht] using h.get t c ht
  | const v => exact constV_ok v
  | global g => trivial
  | func f => exact ⟨#[], rfl, rfl, fun j c hj => by simp at hj⟩

theorem RL.one {l : Lf} {v : Value} (h : RL H l v) : v.oneCell' = true := by cases h <;> rfl

def C.def? : C → Bool
  | .undef => false
  | _ => true

theorem OwnL.one {h : Array Obj} {l : Lf} {v : Value} {S : Nat → Nat} (ho : OwnL h l v S) : v.oneCell' = true := by cases ho <;> rfl

end

def SS.put (σ : SS) (d : Option Nat) (v : V) : SS :=
  match d with
  | some d => { σ with env := σ.env.set d v }
  | none => σ

theorem SS.put_blk (σ : SS) (d : Option Nat) (v : V) : (σ.put d v).blk = σ.blk := by cases d <;> rfl

theorem RelE.put {H : Hp} {ρ : Rho} {D : Nat → Prop} {σ : SS} {a : Act} {v : V} {x : Value} (h : RelE H ρ D σ.env a.tmps) (hv : RV H ρ D v x) (d : Option Nat) :
    RelE H ρ D (σ.put d v).env (a.put d x).tmps := by
  cases d with
  | none => exact h
  | some d =>
    refine ⟨by simpa [SS.put, Act.put] using h.size, fun j c hj => ?_⟩
    simp only [SS.put, Act.put] at hj ⊢
    rw [List.getElem?_set] at hj
    rw [Array.getD_eq_getD_getElem?, Array.getElem?_setIfInBounds]
    split at hj
    · rename_i hd
      split at hj
      · rename_i hlt
        simp only [Option.some.injEq] at hj
        subst hj
        rw [if_pos hd, if_pos (by rw [h.size]; omega)]
        exact hv
      · cases hj
    · rename_i hd
      rw [if_neg hd]
      simpa [Array.getD_eq_getD_getElem?] using h.get j c hj

theorem RelH.put {Γ : Ctx} {H : Hp} {ρ : Rho} {σ : SS} {a : Act} {w : World} (r : RelH Γ H ρ σ a w) {v : V} {x : Value} (hv : RV H ρ (dom σ.blk) v x) (d : Option Nat) :
    RelH Γ H ρ (σ.put d v) (a.put d x) w := by
  refine ⟨by rw [SS.put_blk]; exact r.b, by rw [SS.put_blk]; exact r.e.put hv d, ?_, r.n, by rw [SS.put_blk]; exact r.hd, by rw [SS.put_blk]; exact r.hm⟩
  cases d <;> exact r.d

end Go.Proofs.Ytnmdhpaobmjefaa
