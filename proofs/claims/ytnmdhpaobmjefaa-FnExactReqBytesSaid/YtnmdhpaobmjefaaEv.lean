/-
  The operations that leave memory alone and ask a question first: an index within bounds, a sum that does not wrap, a test that is not decided. No conditions.
-/
import Derived.Test.YtnmdhpaobmjefaaExC
namespace Go.Proofs.Ytnmdhpaobmjefaa
open Go

/-- a test that is not decided -/
inductive Br (t : Unit → Bool) (K : Bool → Prop) : Prop where
  | mk (h : K (t ()))

/-- an element of a slice that is only read -/
inductive Ix (E : ETy) (xs : Unit → List E.α) (i : Unit → Int) (K : (Unit → E.α) → Prop) : Prop where
  | mk (x : E.α) (h0 : 0 ≤ i ()) (h : (xs ())[(i ()).toNat]? = some x) (hk : K fun _ => x)

/-- arithmetic: what comes out of it, wrapped -/
inductive Ar (k : IntKind) (t : Unit → Int) (K : (Unit → Int) → Prop) : Prop where
  | mk (u : Unit → Int) (h : k.wrap (t ()) = u ()) (hk : K u)

/-- something is owed -/
inductive Ob (p : Unit → Prop) (K : Unit → Prop) : Prop where
  | mk (h : p ()) (hk : K ())

theorem Br.split {t : Unit → Bool} {K : Bool → Prop} (h1 : t () = true → K true) (h0 : t () = false → K false) : Br t K := by
  cases h : t () with
  | true => exact ⟨by rw [h]; exact h1 h⟩
  | false => exact ⟨by rw [h]; exact h0 h⟩

theorem Br.yes {t : Unit → Bool} {K : Bool → Prop} (h : t () = true) (h1 : K true) : Br t K := ⟨by rw [h]; exact h1⟩
theorem Br.no {t : Unit → Bool} {K : Bool → Prop} (h : t () = false) (h1 : K false) : Br t K := ⟨by rw [h]; exact h1⟩

theorem Ar.exact {t : Unit → Int} {K : (Unit → Int) → Prop} (h1 : -9223372036854775808 ≤ t ()) (h2 : t () ≤ 9223372036854775807) (hk : K t) : Ar .i64 t K :=
  ⟨t, wrap_in (has_i64.2 ⟨h1, h2⟩), hk⟩

def arithI (op : BinOp) (a b : Unit → Int) : Option (Unit → Int) :=
  match op with
  | .add => some fun _ => a () + b ()
  | .sub => some fun _ => a () - b ()
  | .mul => some fun _ => a () * b ()
  | _ => none

def bitsI (op : BinOp) (k : IntKind) (a b : Unit → Int) : Option (Unit → Int) :=
  match op with
  | .and => some fun _ => ((BitVec.ofInt k.bits (a ()) &&& BitVec.ofInt k.bits (b ())).toNat : Int)
  | .or => some fun _ => ((BitVec.ofInt k.bits (a ()) ||| BitVec.ofInt k.bits (b ())).toNat : Int)
  | .xor => some fun _ => ((BitVec.ofInt k.bits (a ()) ^^^ BitVec.ofInt k.bits (b ())).toNat : Int)
  | _ => none

def binE (op : BinOp) (K : V → Prop) : V → V → Prop
  | .c (.lf (.int k a)), .c (.lf (.int k' b)) =>
    match op with
    | .shl => Ob (fun _ => 0 ≤ b ()) fun _ => Ar k (fun _ => a () * 2 ^ (min (b ()).toNat k.bits)) fun t => K (iV k t)
    | .shr => Ob (fun _ => 0 ≤ b ()) fun _ => Ar k (fun _ => (a ()).fdiv (2 ^ (min (b ()).toNat k.bits))) fun t => K (iV k t)
    | .quo => if k = k' then Ob (fun _ => b () ≠ 0) fun _ => Ar k (fun _ => (a ()).tdiv (b ())) fun t => K (iV k t) else False
    | .rem => if k = k' then Ob (fun _ => b () ≠ 0) fun _ => K (iV k fun _ => (a ()).tmod (b ())) else False
    | op =>
      if k = k' then
        match arithI op a b, bitsI op k a b with
        | some t, _ => Ar k t fun t => K (iV k t)
        | none, some t => Ar k t fun t => K (iV k t)
        | none, none => False
      else False
  | .c (.lf (.str a)), .c (.lf (.str b)) =>
    match op with
    | .add => Ob (fun _ => (a ()).length + (b ()).length ≤ maxL) fun _ => K (.c (.lf (.str fun _ => a () ++ b ())))
    | _ => False
  | _, _ => False

def negE (K : V → Prop) : V → Prop
  | .c (.lf (.int k a)) => Ar k (fun _ => 0 - a ()) fun t => K (iV k t)
  | _ => False

def ixE (tab : Tab) (bs : List (Nat × Blk)) (T : TypeId) (K : V → Prop) : V → V → Prop
  | .c (.lf (.list E xs)), .c (.lf (.int _ i)) =>
    match tget tab T with
    | some (.sl E' _ _) => if E = E' then Ix E xs i fun x => K (.c (.el E x 0)) else False
    | _ => False
  | .c (.own k), .c (.lf (.int _ i)) =>
    match tget tab T, getB bs k with
    | some (.sl E' _ _), some (.own E xs _) => if E = E' then Ob (fun _ => 0 ≤ i () ∧ i () < (xs ()).length) fun _ => K (.c (.oel k E (fun _ => (i ()).toNat) 0)) else False
    | some (.sl E' _ _), some (.hol E xs _ _) => if E = E' then Ob (fun _ => 0 ≤ i () ∧ i () < (xs ()).length) fun _ => K (.c (.oel k E (fun _ => (i ()).toNat) 0)) else False
    | _, _ => False
  | _, _ => False

/-- the bounds of a slice expression -/
def boundV : Option V → (Unit → Int) → Option (Unit → Int)
  | none, d => some d
  | some (.c (.lf (.int _ i))), _ => some i
  | _, _ => none

def slE (tab : Tab) (T : TypeId) (K : V → Prop) (x : V) (lo hi mx : Option V) : Prop :=
  match x, mx with
  | .c (.lf (.list E xs)), none =>
    match tget tab T, boundV lo fun _ => 0, boundV hi fun _ => ((xs ()).length : Int) with
    | some (.sl E' _ _), some l, some h => if E = E' then Ob (fun _ => 0 ≤ l () ∧ l () ≤ h () ∧ h () ≤ (xs ()).length) fun _ => K (.c (.lf (.list E fun _ => ((xs ()).take (h ()).toNat).drop (l ()).toNat))) else False
    | _, _, _ => False
  | .c (.lf (.str s)), none =>
    match tget tab T, boundV lo fun _ => 0, boundV hi fun _ => ((s ()).length : Int) with
    | some .ss, some l, some h => Ob (fun _ => 0 ≤ l () ∧ l () ≤ h () ∧ h () ≤ (s ()).length) fun _ => K (.c (.lf (.str fun _ => ((s ()).take (h ()).toNat).drop (l ()).toNat)))
    | _, _, _ => False
  | _, _ => False

/-- a byte of a string -/
def stE' (tab : Tab) (T : TypeId) (K : V → Prop) : V → V → Prop
  | .c (.lf (.str s)), .c (.lf (.int _ i)) =>
    match tget tab T with
    | some .ss => Ob (fun _ => 0 ≤ i () ∧ i () < (s ()).length) fun _ => K (iV .u8 fun _ => (((s ()).getD (i ()).toNat 0).toNat : Int))
    | _ => False
  | _, _ => False

/-- the operations that leave memory alone -/
def vcDet (tab : Tab) (o : Oper) (σ : SS) (K : V → Prop) : Prop :=
  match ex tab o σ with
  | some v => K v
  | none =>
    match o.op with
    | .pick c a b =>
      match σ.ev c with
      | .c (.lf (.bool t)) => Br t fun y => K (match y with | true => σ.ev a | false => σ.ev b)
      | _ => False
    | .binOp op _ x y _ => binE op K (σ.ev x) (σ.ev y)
    | .unOp .neg _ x => negE K (σ.ev x)
    | .indexAddr T x i => ixE tab σ.blk T K (σ.ev x) (σ.ev i)
    | .slice T x lo hi mx => slE tab T K (σ.ev x) (lo.map σ.ev) (hi.map σ.ev) (mx.map σ.ev)
    | .index T x i => stE' tab T K (σ.ev x) (σ.ev i)
    | _ => False

section
variable {P : Program} {w : World} {H : Hp} {ρ : Rho} {D : Nat → Prop}

theorem tmod_has {k : IntKind} {a b : Int} (h : k.has a) : k.has (a.tmod b) := by
  have h0 : k.has 0 := IntKind.has_zero k
  unfold IntKind.has at *
  have hn := Int.natAbs_tmod a b
  have hle := Nat.mod_le a.natAbs b.natAbs
  rcases Int.le_total 0 a with ha | ha
  · have h1 : 0 ≤ a.tmod b := Int.tmod_nonneg b ha
    omega
  · have h1 : 0 ≤ (-a).tmod b := Int.tmod_nonneg b (by omega)
    rw [Int.neg_tmod] at h1
    omega

theorem fdiv_has {k : IntKind} {a : Int} (h : k.has a) (n : Nat) : k.has (a.fdiv (2 ^ n)) := by
  have h0 : k.has 0 := IntKind.has_zero k
  unfold IntKind.has at *
  have hp : (0 : Int) < 2 ^ n := Int.pow_pos (by omega)
  rw [Int.fdiv_eq_ediv_of_nonneg _ (Int.le_of_lt hp)]
  generalize (2 : Int) ^ n = m at hp
  rcases Int.le_total 0 a with ha | ha
  · have h1 : 0 ≤ a / m := Int.ediv_nonneg ha (by omega)
    have h2 : a / m ≤ a := Int.ediv_le_self m ha
    omega
  · have h1 : a ≤ a / m := (Int.le_ediv_iff_mul_le hp).2 (by
      have := Int.mul_nonpos_of_nonpos_of_nonneg ha (show 0 ≤ m - 1 by omega)
      rw [Int.mul_sub, Int.mul_one] at this
      omega)
    have h2 : a / m ≤ 0 := by
      have := Int.ediv_le_ediv hp ha
      simpa using this
    omega

theorem guard_int (op : BinOp) (T : TypeId) (X Y : Operand) (k k' : IntKind) (a b : Int) (s : Sem Value) :
    ((do eqGuard op T X Y (.int k a) (.int k' b); s) : Sem Value).run P w = s.run P w := by
  rw [Sem.run_bind, run_guard_int]; rfl

theorem guard_op (op : BinOp) (T : TypeId) (X Y : Operand) (p q : Value) (s : Sem Value) (h : op = .add) :
    ((do eqGuard op T X Y p q; s) : Sem Value).run P w = s.run P w := by
  subst h
  rw [Sem.run_bind]
  have : (eqGuard .add T X Y p q).run P w = .ok () w := by unfold eqGuard; rfl
  rw [this]; rfl

theorem binE_ok {op : BinOp} {T : TypeId} {x y : V} {p q : Value} {X Y : Operand} {K : V → Prop} (h : binE op K x y) (hp : RV H ρ D x p) (hq : RV H ρ D y q) :
    ∃ v z, K v ∧ RV H ρ D v z ∧ ∀ w' : World, ((do eqGuard op T X Y p q; binOp op T p q) : Sem Value).run P w' = .ok z w' := by
  unfold binE at h
  split at h
  · rename_i k a k' b
    obtain ⟨rfl, ha⟩ := RL.of_int hp
    obtain ⟨rfl, hb⟩ := RL.of_int hq
    have key : ∀ (t : Int) (u : Unit → Int), k.wrap t = u () → (∀ w' : World, (binOp op T (.int k (a ())) (.int k' (b ()))).run P w' = .ok (.int k (k.wrap t)) w') → K (iV k u) →
        ∃ v z, K v ∧ RV H ρ D v z ∧ ∀ w' : World, ((do eqGuard op T X Y (.int k (a ())) (.int k' (b ())); binOp op T (.int k (a ())) (.int k' (b ()))) : Sem Value).run P w' = .ok z w' :=
      fun t u hu hr hk => ⟨_, _, hk, RL.int (t := u) (by rw [← hu]; exact has_wrap _ _), fun w' => by rw [guard_int, hr, hu]⟩
    split at h
    · obtain ⟨h1, u, h2, hk⟩ := h
      refine key _ u h2 (fun w' => ?_) hk
      simp only [binOp, Op.shift, if_neg (show ¬ b () < 0 by omega)]
      rfl
    · obtain ⟨h1, u, h2, hk⟩ := h
      have hin : k.has ((a ()).fdiv (2 ^ (min (b ()).toNat k.bits))) := fdiv_has ha _
      refine key _ u h2 (fun w' => ?_) hk
      rw [wrap_in hin]
      simp only [binOp, Op.shift, if_neg (show ¬ b () < 0 by omega)]
      rfl
    · split at h
      · rename_i hkk
        subst hkk
        obtain ⟨h1, u, h2, hk⟩ := h
        refine key _ u h2 (fun w' => ?_) hk
        simp [binOp, Op.intDiv, h1]
      · cases h
    · split at h
      · rename_i hkk
        subst hkk
        obtain ⟨h1, hk⟩ := h
        refine key _ (fun _ => (a ()).tmod (b ())) (wrap_in (tmod_has ha)) (fun w' => ?_) hk
        rw [wrap_in (tmod_has ha)]
        simp [binOp, Op.intDiv, h1]
      · cases h
    · rename_i op' n1 n2 n3 n4
      split at h
      · rename_i hkk
        subst hkk
        cases ht : arithI op a b with
        | some t =>
          simp only [ht] at h
          obtain ⟨u, h2, hk⟩ := h
          refine key (t ()) u h2 (fun w' => ?_) hk
          cases op <;> simp only [arithI] at ht <;> cases ht <;> simp [binOp, Op.intArith]
        | none =>
          cases hb : bitsI op k a b with
          | some t =>
            simp only [ht, hb] at h
            obtain ⟨u, h2, hk⟩ := h
            refine key (t ()) u h2 (fun w' => ?_) hk
            cases op <;> simp only [bitsI] at hb <;> cases hb <;> simp [binOp, Op.intBits]
          | none => simp only [ht, hb] at h
      · cases h
  · rename_i a b
    obtain ⟨rfl, ha⟩ := RL.of_str hp
    obtain ⟨rfl, hb⟩ := RL.of_str hq
    split at h
    · obtain ⟨h1, hk⟩ := h
      refine ⟨_, _, hk, RL.str (t := fun _ => a () ++ b ()) (by simpa using h1), fun w' => ?_⟩
      rw [guard_op _ _ _ _ _ _ _ rfl]
      have hs : ¬ (((ByteArray.mk (a ()).toArray).size + (ByteArray.mk (b ()).toArray).size : Nat) : Int) > IntKind.i64.max := by
        have e1 : (ByteArray.mk (a ()).toArray).size = (a ()).length := rfl
        have e2 : (ByteArray.mk (b ()).toArray).size = (b ()).length := rfl
        rw [e1, e2]
        unfold maxL at h1
        simp only [IntKind.max, IntKind.signed, IntKind.bits]
        omega
      simp only [binOp, Op.stringOp, if_neg hs]
      simp only [Sem.run_pure]
      congr 2
    · cases h
  · cases h

theorem negE_ok {x : V} {p : Value} {K : V → Prop} (h : negE K x) (hp : RV H ρ D x p) :
    ∃ v z, K v ∧ RV H ρ D v z ∧ ∀ w' : World, (Op.unary .neg p).run P w' = .ok z w' := by
  unfold negE at h
  split at h
  · rename_i k a
    obtain ⟨rfl, ha⟩ := RL.of_int hp
    obtain ⟨u, h2, hk⟩ := h
    refine ⟨_, _, hk, RL.int (t := u) (by rw [← h2]; exact has_wrap _ _), fun w' => ?_⟩
    rw [← h2]
    simp [Op.unary, Op.intArith]
  · cases h

end

section
variable {P : Program} {tab : Tab} (hT : tabB P tab = true) {Γ : Ctx} {H : Hp} {ρ : Rho} {σ : SS} {a : Act} {w : World} (r : RelH Γ H ρ σ a w)
include hT r

theorem ixE_ok {T : TypeId} {x y : V} {p q : Value} {K : V → Prop} (h : ixE tab σ.blk T K x y) (hp : RV H ρ (dom σ.blk) x p) (hq : RV H ρ (dom σ.blk) y q) :
    ∃ v z, K v ∧ RV H ρ (dom σ.blk) v z ∧ ∀ w' : World, (Instr.indexAt T p q).run P w' = .ok z w' := by
  unfold ixE at h
  split at h
  · rename_i E xs k i
    obtain ⟨rfl, hi⟩ := RL.of_int hq
    split at h
    · rename_i E' elem bytes hti
      split at h
      · rename_i hE
        subst hE
        obtain ⟨hU, ii, z, hin, hsz, _⟩ := ti_sl (tget_ok hT hti)
        obtain ⟨x, h0, hx, hk⟩ := h
        generalize hl : Lf.list E xs = l at hp
        have hp' : RL H l p := hp
        cases hp' with
        | int => cases hl
        | bool => cases hl
        | str => cases hl
        | nil hn => cases hl; rw [hn] at hx; simp at hx
        | @list _ _ b off c cs e fz hb hl' hm ho hc =>
          cases hl
          have hlt := lt_of_get hx
          refine ⟨_, .pointer (some ⟨b, off + (i ()).toNat * E.sz, none⟩), hk, ⟨_, _, _, _, _, hb, rfl, fun j l hj => ?_⟩, fun w' => ?_⟩
          rotate_left
          · simp only [Instr.indexAt, asIntOf, Sem.run_bind, Sem.run_pure, Result.andThen_ok, run_und w' hU]
            rw [if_pos (show 0 ≤ i () ∧ i () < ((xs ()).length : Int) by omega)]
            simp only [run_szOf w' hin, hsz, Result.andThen_ok, Sem.run_bind, Sem.run_pure, addr_add]
          · simp only [Nat.zero_add] at hj
            have hj' := lt_of_get hj
            rw [cellsT_len] at hj'
            have h2 : (i ()).toNat * E.sz + E.sz ≤ (xs ()).length * E.sz := by
              have := Nat.mul_le_mul_right E.sz (show (i ()).toNat + 1 ≤ (xs ()).length by omega)
              rw [Nat.add_mul] at this
              omega
            exact ⟨by omega, hc _ _ hx j l hj⟩
      · cases h
    · cases h
  · rename_i k k' i
    obtain ⟨rfl, hi⟩ := RL.of_int hq
    split at h
    · rename_i E' elem bytes E xs lent hti hB
      split at h
      · rename_i hE
        subst hE
        obtain ⟨hU, ii, z, hin, hsz, _⟩ := ti_sl (tget_ok hT hti)
        obtain ⟨⟨h0, h1⟩, hk⟩ := h
        obtain ⟨hd, rfl⟩ := hp
        have hown := own_of r hB
        generalize hl : Lf.list E xs = l at hown
        generalize hv : (ρ k).1 = v at hown
        generalize hS : (ρ k).2 = S0 at hown
        cases hown with
        | int => cases hl
        | bool => cases hl
        | str => cases hl
        | nil hn => cases hl; rw [hn] at h1; simp at h1; omega
        | @list _ _ b off c cs e fz S hb hf hl' hm ho hc =>
          cases hl
          refine ⟨_, .pointer (some ⟨b, off + (i ()).toNat * E.sz + 0, none⟩), hk, ⟨hd, _, _, _, _, hv, (show (i ()).toNat < (xs ()).length by omega), rfl⟩, fun w' => ?_⟩
          simp only [Instr.indexAt, asIntOf, Sem.run_bind, Sem.run_pure, Result.andThen_ok, run_und w' hU]
          rw [if_pos (show 0 ≤ i () ∧ i () < ((xs ()).length : Int) by omega)]
          simp only [run_szOf w' hin, hsz, Result.andThen_ok, Sem.run_bind, Sem.run_pure, addr_add, Nat.add_zero]
      · cases h
    · rename_i E' elem bytes E xs _ _ hti hB
      split at h
      · rename_i hE
        subst hE
        obtain ⟨hU, ii, z, hin, hsz, _⟩ := ti_sl (tget_ok hT hti)
        obtain ⟨⟨h0, h1⟩, hk⟩ := h
        obtain ⟨hd, rfl⟩ := hp
        obtain ⟨b, off, c, cs, e, fz, S, hv, _⟩ := r.b.blk k _ (getB_mem hB)
        refine ⟨_, .pointer (some ⟨b, off + (i ()).toNat * E.sz + 0, none⟩), hk, ⟨hd, _, _, _, _, hv, (show (i ()).toNat < (xs ()).length by omega), rfl⟩, fun w' => ?_⟩
        rw [hv]
        simp only [Instr.indexAt, asIntOf, Sem.run_bind, Sem.run_pure, Result.andThen_ok, run_und w' hU]
        rw [if_pos (show 0 ≤ i () ∧ i () < ((xs ()).length : Int) by omega)]
        simp only [run_szOf w' hin, hsz, Result.andThen_ok, Sem.run_bind, Sem.run_pure, addr_add, Nat.add_zero]
      · cases h
    · cases h
  · cases h


omit hT r in
/-- a bound of a slice expression is a number -/
theorem boundV_ok {D : Nat → Prop} {x : Option Operand} {d t : Unit → Int} (h : boundV (x.map σ.ev) d = some t) (hev : ∀ x, RV H ρ D (σ.ev x) (a.eval x)) :
    (x.map a.eval = none ∧ t = d) ∨ ∃ k, x.map a.eval = some (.int k (t ())) := by
  cases x with
  | none => simp only [Option.map_none, boundV, Option.some.injEq] at h; exact .inl ⟨rfl, h.symm⟩
  | some x =>
    have := hev x
    simp only [Option.map_some] at h ⊢
    generalize σ.ev x = v at h this
    unfold boundV at h
    split at h
    · cases ‹some v = none›
    · rename_i heq
      cases heq
      cases h
      obtain ⟨h1, _⟩ := RL.of_int this
      exact .inr ⟨_, by rw [h1]⟩
    · cases h

omit hT r in
theorem run_bounds {lo hi : Option Value} {l h len cap : Nat} (isS : Bool) (w' : World) (hl : (lo = none ∧ l = 0) ∨ ∃ k, lo = some (.int k (l : Int))) (hh : (hi = none ∧ h = len) ∨ ∃ k, hi = some (.int k (h : Int)))
    (h1 : l ≤ h) (h2 : h ≤ cap) : (Instr.sliceBounds isS len cap lo hi none).run P w' = .ok (l, h, cap) w' := by
  rcases hh with ⟨rfl, rfl⟩ | ⟨k, rfl⟩ <;> rcases hl with ⟨rfl, rfl⟩ | ⟨k', rfl⟩ <;>
    simp [Instr.sliceBounds, Instr.sliceBound, asIntOf, h1, h2]

theorem slE_ok {T : TypeId} {x : Operand} {lo hi mx : Option Operand} {K : V → Prop} (h : slE tab T K (σ.ev x) (lo.map σ.ev) (hi.map σ.ev) (mx.map σ.ev)) :
    ∃ v z, K v ∧ RV H ρ (dom σ.blk) v z ∧ ∀ w' : World, (Instr.sliceAt T (a.eval x) (lo.map a.eval) (hi.map a.eval) (mx.map a.eval)).run P w' = .ok z w' := by
  have hev := ev_ok r.e
  have hx := hev x
  unfold slE at h
  generalize hv : σ.ev x = v at h hx
  split at h
  · rename_i E xs hmx
    have hmx' : mx = none := by cases mx <;> simp at hmx ⊢
    subst hmx'
    split at h
    · rename_i E' elem bytes l hh hti hl hhi
      split at h
      · rename_i hE
        subst hE
        obtain ⟨hU, ii, z, hin, hsz, _⟩ := ti_sl (tget_ok hT hti)
        obtain ⟨⟨o1, o2, o3⟩, hk⟩ := h
        obtain ⟨b, c, hp, hm⟩ := RL.slice hx
        obtain ⟨L, hL⟩ := Int.eq_ofNat_of_zero_le o1
        obtain ⟨U, hU'⟩ := Int.eq_ofNat_of_zero_le (show 0 ≤ hh () by omega)
        have e1 : (lo.map a.eval = none ∧ L = 0) ∨ ∃ k, lo.map a.eval = some (.int k (L : Int)) := by
          rcases boundV_ok hl hev with ⟨h1, h2⟩ | ⟨k, h1⟩
          · refine .inl ⟨h1, ?_⟩; rw [h2] at hL; simp at hL; omega
          · exact .inr ⟨k, by rw [h1, hL]⟩
        have e2 : (hi.map a.eval = none ∧ U = (xs ()).length) ∨ ∃ k, hi.map a.eval = some (.int k (U : Int)) := by
          rcases boundV_ok hhi hev with ⟨h1, h2⟩ | ⟨k, h1⟩
          · refine .inl ⟨h1, ?_⟩; rw [h2] at hU'; simp at hU'; omega
          · exact .inr ⟨k, by rw [h1, hU']⟩
        have hLU : L ≤ U := by omega
        have hUn : U ≤ (xs ()).length := by omega
        have hlen : (((xs ()).take U).drop L).length = U - L := by simp; omega
        have hrun : ∀ (bb : Option Addr) (cc : Nat), (xs ()).length ≤ cc → ∀ w' : World, (Instr.sliceAt T (.slice bb (xs ()).length cc) (lo.map a.eval) (hi.map a.eval) (Option.map a.eval none)).run P w' =
            .ok (.slice (if cc = L then bb else bb.map (·.add (L * E.sz))) (U - L) (cc - L)) w' := fun bb cc hcc w' => by
          simp only [Instr.sliceAt, Sem.run_bind, run_und w' hU, Result.andThen_ok, Instr.slice, Option.map_none]
          rw [run_bounds true w' e1 e2 hLU (by omega)]
          simp only [Result.andThen_ok, run_szOf w' hin, hsz, Sem.run_pure]
        have eL : (l ()).toNat = L := by omega
        have eU : (hh ()).toNat = U := by omega
        have hx' : RL H (.list E xs) (a.eval x) := hx
        generalize hq : Lf.list E xs = lf at hx'
        generalize hpp : a.eval x = p at hx'
        cases hx' with
        | int => cases hq
        | bool => cases hq
        | str => cases hq
        | @nil _ _ aa cc hn =>
          cases hq
          have h0 : (xs ()).length = 0 := by rw [hn]; rfl
          have hU0 : U = 0 := by omega
          have hL0 : L = 0 := by omega
          refine ⟨_, .slice (if cc = L then aa else aa.map (·.add (L * E.sz))) (U - L) (cc - L), hk, ?_, fun w' => ?_⟩
          rotate_left
          · have := hrun aa cc (by omega) w'
            rw [h0] at this
            exact this
          · show RL H _ _
            rw [hU0, Nat.zero_sub]
            exact RL.nil (by simp [hn])
        | @list _ _ bb off cc cs e fz hb hl' hm' ho hc =>
          cases hq
          refine ⟨_, _, hk, ?_, fun w' => hrun _ _ hl' w'⟩
          show RL H _ _
          by_cases hlt : L < U
          · rw [if_neg (by omega)]
            simp only [Option.map_some, addr_add]
            have := RL.list (H := H) (E := E) (t := fun _ => ((xs ()).take (hh ()).toNat).drop (l ()).toNat) (b := bb) (off := off + L * E.sz) (c := cc - L) hb (by rw [eL, eU, hlen]; omega) (by rw [eL, eU, hlen]; omega)
              (by rw [eL, eU, hlen]; have := Nat.mul_le_mul_right E.sz (show L + (U - L) ≤ (xs ()).length by omega); rw [Nat.add_mul] at this; omega)
              (fun i x hi j l' hj => by
                simp only [eL, eU, List.getElem?_drop, List.getElem?_take] at hi
                split at hi
                · have := hc _ _ hi j l' hj
                  rw [Nat.add_mul] at this
                  rw [show off + L * E.sz + i * E.sz + j = off + (L * E.sz + i * E.sz) + j by omega]
                  exact this
                · cases hi)
            rw [eL, eU, hlen] at this
            rw [eL, eU]
            exact this
          · have : U - L = 0 := by omega
            rw [this]
            exact RL.nil (List.length_eq_zero_iff.1 (by rw [eL, eU, hlen]; exact this))
      · cases h
    · cases h
  · rename_i s hmx
    have hmx' : mx = none := by cases mx <;> simp at hmx ⊢
    subst hmx'
    split at h
    · rename_i l hh hti hl hhi
      have hU := (ti_ss (tget_ok hT hti)).1
      obtain ⟨⟨o1, o2, o3⟩, hk⟩ := h
      obtain ⟨hp, hm⟩ := RL.of_str hx
      obtain ⟨L, hL⟩ := Int.eq_ofNat_of_zero_le o1
      obtain ⟨U, hU'⟩ := Int.eq_ofNat_of_zero_le (show 0 ≤ hh () by omega)
      have e1 : (lo.map a.eval = none ∧ L = 0) ∨ ∃ k, lo.map a.eval = some (.int k (L : Int)) := by
        rcases boundV_ok hl hev with ⟨h1, h2⟩ | ⟨k, h1⟩
        · refine .inl ⟨h1, ?_⟩; rw [h2] at hL; simp at hL; omega
        · exact .inr ⟨k, by rw [h1, hL]⟩
      have e2 : (hi.map a.eval = none ∧ U = (s ()).length) ∨ ∃ k, hi.map a.eval = some (.int k (U : Int)) := by
        rcases boundV_ok hhi hev with ⟨h1, h2⟩ | ⟨k, h1⟩
        · refine .inl ⟨h1, ?_⟩; rw [h2] at hU'; simp at hU'; omega
        · exact .inr ⟨k, by rw [h1, hU']⟩
      have eL : (l ()).toNat = L := by omega
      have eU : (hh ()).toNat = U := by omega
      refine ⟨_, _, hk, RL.str (t := fun _ => ((s ()).take (hh ()).toNat).drop (l ()).toNat) ?_, fun w' => ?_⟩
      · simp; omega
      · have hsize : (ByteArray.mk (s ()).toArray).size = (s ()).length := rfl
        rw [hp]
        simp only [Instr.sliceAt, Sem.run_bind, run_und w' hU, Result.andThen_ok, Instr.slice, Option.map_none, Option.isSome_none, Bool.false_eq_true, if_false, hsize, Sem.run_pure]
        rw [run_bounds false w' e1 e2 (by omega) (by omega)]
        simp only [Result.andThen_ok, eL, eU]
        congr 2
        apply ByteArray.ext
        simp [ByteArray.data_extract, List.drop_take]
    · cases h
  · cases h

omit r in
theorem stE'_ok {T : TypeId} {x y : V} {p q : Value} {K : V → Prop} (h : stE' tab T K x y) (hp : RV H ρ (dom σ.blk) x p) (hq : RV H ρ (dom σ.blk) y q) :
    ∃ v z, K v ∧ RV H ρ (dom σ.blk) v z ∧ ∀ w' : World, (Instr.index T p q).run P w' = .ok z w' := by
  unfold stE' at h
  split at h
  · rename_i s k i
    split at h
    · rename_i hti
      obtain ⟨hi, hk⟩ := h
      obtain ⟨rfl, hm⟩ := RL.of_str hp
      obtain ⟨rfl, _⟩ := RL.of_int hq
      have hU := (ti_ss (tget_ok hT hti)).1
      have hlt : (i ()).toNat < (s ()).length := by omega
      refine ⟨_, .int .u8 (((s ()).getD (i ()).toNat 0).toNat : Int), hk, RL.int (t := fun _ => (((s ()).getD (i ()).toNat 0).toNat : Int)) (has_u8.2 ⟨by omega, by have := ((s ()).getD (i ()).toNat 0).toNat_lt; omega⟩), fun w' => ?_⟩
      have hget : (if 0 ≤ i () then (⟨(s ()).toArray⟩ : ByteArray)[(i ()).toNat]? else none) = some ((s ()).getD (i ()).toNat 0) := by
        rw [if_pos hi.1]
        have h1 : (i ()).toNat < (⟨(s ()).toArray⟩ : ByteArray).size := by
          show (i ()).toNat < (s ()).toArray.size
          simpa using hlt
        rw [getElem?_pos (⟨(s ()).toArray⟩ : ByteArray) (i ()).toNat h1]
        congr 1
        rw [List.getD_eq_getElem?_getD, List.getElem?_eq_getElem hlt]
        rfl
      simp only [Instr.index, asIntOf, Sem.run_bind, Sem.run_pure, Result.andThen_ok, run_und w' hU, hget]
    · cases h
  · cases h

theorem vcDet_ok {o : Oper} {K : V → Prop} (h : vcDet tab o σ K) :
    ∃ v y, K v ∧ RV H ρ (dom σ.blk) v y ∧ ∀ w', Keeps H ρ (rdN o σ) w w' → (execOp a.eval o).run P w' = .ok (.value y) w' := by
  have ev := ev_ok r.e
  unfold vcDet at h
  split at h
  · rename_i v hv
    obtain ⟨y, h1, h2⟩ := ex_ok hT r hv
    exact ⟨v, y, h, h1, h2⟩
  · split at h
    · rename_i c x y hop
      have hc := ev c
      split at h
      · rename_i t hcv
        rw [hcv] at hc
        have hc' := RL.of_bool hc
        obtain ⟨hk⟩ := h
        cases ht : t () with
        | true =>
          rw [ht] at hk hc'
          exact ⟨_, _, hk, ev x, fun w' _ => by simp [execOp, hop, hc', asBool]⟩
        | false =>
          rw [ht] at hk hc'
          exact ⟨_, _, hk, ev y, fun w' _ => by simp [execOp, hop, hc', asBool]⟩
      · cases h
    · rename_i op T x y yT hop
      obtain ⟨v, z, hk, h1, h2⟩ := binE_ok (P := P) (T := T) (X := x) (Y := y) h (ev x) (ev y)
      refine ⟨v, z, hk, h1, fun w' _ => ?_⟩
      simp only [execOp, hop]
      rw [Sem.run_bind, h2 w']
      rfl
    · rename_i T x hop
      obtain ⟨v, z, hk, h1, h2⟩ := negE_ok (P := P) h (ev x)
      exact ⟨v, z, hk, h1, fun w' _ => by simp [execOp, hop, h2 w']⟩
    · rename_i T x i hop
      obtain ⟨v, z, hk, h1, h2⟩ := ixE_ok hT r h (ev x) (ev i)
      exact ⟨v, z, hk, h1, fun w' _ => by simp [execOp, hop, h2 w']⟩
    · rename_i T x lo hi mx hop
      obtain ⟨v, z, hk, h1, h2⟩ := slE_ok hT r h
      exact ⟨v, z, hk, h1, fun w' _ => by simp [execOp, hop, h2 w']⟩
    · rename_i T x i hop
      obtain ⟨v, z, hk, h1, h2⟩ := stE'_ok hT h (ev x) (ev i)
      exact ⟨v, z, hk, h1, fun w' _ => by simp [execOp, hop, h2 w']⟩
    · cases h

end

end Go.Proofs.Ytnmdhpaobmjefaa
