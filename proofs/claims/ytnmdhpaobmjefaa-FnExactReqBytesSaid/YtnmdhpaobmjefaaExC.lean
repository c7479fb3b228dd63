/-
  The one function that reckons the operations without a question, and that it is right. No conditions.
-/
import Derived.Test.YtnmdhpaobmjefaaExB
namespace Go.Proofs.Ytnmdhpaobmjefaa
open Go

def cellsV : V → Option (List C)
  | .c .undef => none
  | .c x => some [x]
  | .agg cs => some cs
  | .tup _ => none

theorem RL.cells {H : Hp} {l : Lf} {v : Value} (h : RL H l v) : v.cells = #[v] := by cases h <;> rfl

theorem RC.cells {H : Hp} {ρ : Rho} {D : Nat → Prop} {c : C} {v : Value} (h : RC H ρ D c v) (hc : c.def? = true) (hv : ∀ k, c = .own k → v.oneCell' = true) : v.cells = #[v] ∧ v.oneCell' = true := by
  cases c with
  | lf l => exact ⟨RL.cells h, RL.one h⟩
  | bl b => simp only [RC] at h; subst h; exact ⟨rfl, rfl⟩
  | nil => simp only [RC] at h; subst h; exact ⟨rfl, rfl⟩
  | own k => have := hv k rfl; cases v <;> simp [Value.oneCell'] at this <;> exact ⟨rfl, rfl⟩
  | ptr k off => obtain ⟨_, b, _, rfl⟩ := h; exact ⟨rfl, rfl⟩
  | el E x off => obtain ⟨b, o, cs, e, fz, _, rfl, _⟩ := h; exact ⟨rfl, rfl⟩
  | pcs ls off => obtain ⟨b, o, cs, e, fz, _, rfl, _⟩ := h; exact ⟨rfl, rfl⟩
  | oel k E i off => obtain ⟨_, b, o, n, c, _, _, rfl⟩ := h; exact ⟨rfl, rfl⟩
  | fn f caps => obtain ⟨vs, rfl, _⟩ := h; exact ⟨rfl, rfl⟩
  | undef => simp [C.def?] at hc

/-- the cells are set from o on -/
def setCs : List C → Nat → List C → List C
  | cs, _, [] => cs
  | cs, o, x :: xs => setCs (cs.set o x) (o + 1) xs

def setVs (vs : Array Value) (o : Nat) : List Value → Array Value
  | [] => vs
  | x :: xs => setVs (vs.setIfInBounds o x) (o + 1) xs

theorem RCs.set {H : Hp} {ρ : Rho} {D : Nat → Prop} {cs : List C} {vs : Array Value} (h : RCs H ρ D cs vs) {o : Nat} {c : C} {v : Value} (hv : RC H ρ D c v) : RCs H ρ D (cs.set o c) (vs.setIfInBounds o v) := by
  refine ⟨by simpa using h.1, fun j x hj => ?_⟩
  rw [List.getElem?_set] at hj
  rw [Array.getD_eq_getD_getElem?, Array.getElem?_setIfInBounds]
  split at hj
  · rename_i ho
    split at hj
    · cases hj
      rw [if_pos ho, if_pos (by rw [h.1]; omega)]
      exact hv
    · cases hj
  · rename_i ho
    rw [if_neg ho, ← Array.getD_eq_getD_getElem?]
    exact h.2 j x hj

theorem RCs.sets {H : Hp} {ρ : Rho} {D : Nat → Prop} : ∀ (xs : List C) (us : List Value) {cs : List C} {vs : Array Value} {o : Nat}, RCs H ρ D cs vs → RCs H ρ D xs us.toArray →
    RCs H ρ D (setCs cs o xs) (setVs vs o us)
  | [], us, cs, vs, o, h, hx => by
    have : us = [] := by have := hx.1; simpa using this
    subst this
    exact h
  | x :: xs, us, cs, vs, o, h, hx => by
    cases us with
    | nil => have := hx.1; simp at this
    | cons u us =>
      have h0 := hx.2 0 x rfl
      refine RCs.sets xs us (h.set (by simpa using h0)) ⟨by simpa using hx.1, fun j c hj => ?_⟩
      have := hx.2 (j + 1) c (by simpa using hj)
      simpa using this

theorem zip_set (vs : Array Value) (o : Nat) (us : List Value) (k : Nat) : (us.zipIdx k).foldl (fun cs (p : Value × Nat) => cs.setIfInBounds (o + p.2) p.1) vs = setVs vs (o + k) us := by
  induction us generalizing vs k with
  | nil => rfl
  | cons u us ih => simp only [List.zipIdx_cons, List.foldl_cons, setVs]; rw [ih]; rfl

/-- the parts of a struct literal -/
def fillC (fs : List (Nat × Nat × Bool)) : List C → List (Nat × V) → Option (List C)
  | cs, [] => some cs
  | cs, (i, v) :: rest =>
    match fs[i]?, cellsV v with
    | some p, some xs => if xs.length = p.2.1 ∧ p.1 + xs.length ≤ cs.length then fillC fs (setCs cs p.1 xs) rest else none
    | _, _ => none

theorem setCs_len : ∀ (xs : List C) (cs : List C) (o : Nat), (setCs cs o xs).length = cs.length
  | [], _, _ => rfl
  | x :: xs, cs, o => by simp only [setCs]; rw [setCs_len xs]; simp

def capV : V → Option Cp
  | .c (.ptr k off) => some (.ptr k off)
  | .c (.el E x off) => some (.el E x off)
  | .c (.pcs ls off) => some (.pcs ls off)
  | _ => none

def caps : List V → Option (List Cp)
  | [] => some []
  | x :: xs => match capV x, caps xs with | some c, some cs => some (c :: cs) | _, _ => none

def lenT (tab : Tab) (bs : List (Nat × Blk)) (T : TypeId) : V → Option (Unit → Nat)
  | .c (.lf (.list _ xs)) => match tget tab T with | some (.sl _ _ _) => some fun _ => (xs ()).length | _ => none
  | .c (.own k) => match tget tab T, getB bs k with | some (.sl _ _ _), some (.own _ xs _) => some fun _ => (xs ()).length | _, _ => none
  | .c .nil => match tget tab T with | some (.sl _ _ _) => some fun _ => 0 | _ => none
  | .c (.lf (.str t)) => match tget tab T with | some .ss => some fun _ => (t ()).length | _ => none
  | _ => none

def notV : V → Option V
  | .c (.bl b) => some (.c (.bl (!b)))
  | .c (.lf (.bool t)) => some (bV fun _ => !(t ()))
  | _ => none

def maxT : List V → Option (IntKind × (Unit → Int))
  | [.c (.lf (.int k a)), .c (.lf (.int k' b))] => if k = k' then some (k, fun _ => if b () > a () then b () else a ()) else none
  | _ => none
def minT : List V → Option (IntKind × (Unit → Int))
  | [.c (.lf (.int k a)), .c (.lf (.int k' b))] => if k = k' then some (k, fun _ => if b () < a () then b () else a ()) else none
  | _ => none

def convT (tab : Tab) (src dst : TypeId) : V → Option V
  | .c (.lf (.int k a)) =>
    match tget tab src, tget tab dst with
    | some (.it _), some (.it .i64) => if k = .u8 ∨ k = .i64 then some (iV .i64 a) else some (iV .i64 fun _ => IntKind.i64.wrap (a ()))
    | some (.it _), some (.it k') => some (iV k' fun _ => k'.wrap (a ()))
    | _, _ => none
  | _ => none

def ptrV : V → Bool
  | .c (.ptr _ _) | .c (.el _ _ _) | .c (.pcs _ _) | .c (.oel _ _ _ _) | .c (.fn _ _) => true
  | _ => false

/-- what an operation yields that asks no question -/
def ex (tab : Tab) (o : Oper) (σ : SS) : Option V :=
  match o.op with
  | .move x | .assign x => some (σ.ev x)
  | .pick c a b => match σ.ev c with | .c (.bl true) => some (σ.ev a) | .c (.bl false) => some (σ.ev b) | _ => none
  | .load T x => exLoad tab σ.blk T (σ.ev x)
  | .fieldAddr T x i => exFieldAddr tab T i (σ.ev x)
  | .field T x i => exField tab T i (σ.ev x)
  | .build T parts =>
    match tget tab T with
    | some (.st _ fs z _) => (match fillC fs (z.map Z.c) (parts.toList.map fun p => (p.1, σ.ev p.2)) with | some cs => some (.agg cs) | none => none)
    | _ => none
  | .unOp .not _ x => notV (σ.ev x)
  | .extract x i =>
    match σ.ev x with
    | .tup cs => (match cs[i]? with | some (true, l) => some (.agg l) | some (false, [c]) => some (.c c) | _ => none)
    | _ => none
  | .nilCheck x => if ptrV (σ.ev x) then some (σ.ev x) else none
  | .makeFunc (.func f) first captured => if first.size = 0 then (match caps (captured.toList.map σ.ev) with | some l => some (.c (.fn f l)) | none => none) else none
  | .binOp op T x y _ => exBin tab op T (σ.ev x) (σ.ev y)
  | .convert src dst x => convT tab src dst (σ.ev x)
  | .call c =>
    match c.callee with
    | .builtin .len => (match c.args.toList, c.argTypes.toList with
      | [x], [T] => (match lenT tab σ.blk T (σ.ev x) with | some n => some (iV .i64 fun _ => (n () : Int)) | none => none)
      | _, _ => none)
    | .builtin .max => (match maxT (c.args.toList.map σ.ev) with | some (k, t) => some (iV k t) | none => none)
    | .builtin .min => (match minT (c.args.toList.map σ.ev) with | some (k, t) => some (iV k t) | none => none)
    | _ => none
  | _ => none

/-- the names whose memory it reads -/
def rdN (o : Oper) (σ : SS) : List Nat :=
  match o.op with
  | .load _ x => rdV (σ.ev x)
  | _ => []

section
variable {P : Program} {H : Hp} {ρ : Rho} {D : Nat → Prop}

theorem RV.cells {c : V} {v : Value} {cs : List C} (h : RV H ρ D c v) (hc : cellsV c = some cs) (hk : ∀ k, c = .c (.own k) → v.oneCell' = true) : RCs H ρ D cs v.cells := by
  cases c with
  | c x =>
    have hd : x.def? = true ∧ cs = [x] := by
      cases x <;> simp [cellsV] at hc <;> exact ⟨rfl, hc.symm⟩
    obtain ⟨hd, rfl⟩ := hd
    obtain ⟨h1, h2⟩ := RC.cells h hd fun k hk' => hk k (by rw [hk'])
    rw [h1]
    refine ⟨rfl, fun j c hj => ?_⟩
    cases j with
    | zero => simp at hj; subst hj; exact h
    | succ j => simp at hj
  | agg l => simp only [cellsV, Option.some.injEq] at hc; subst hc; obtain ⟨vs, rfl, h1⟩ := h; exact h1
  | tup l => simp [cellsV] at hc

theorem fill_ok {fs : List (Nat × Nat × Bool)} {places : Array (Nat × Nat)} (hpl : ∀ (i : Nat) (p : Nat × Nat × Bool), fs[i]? = some p → places[i]? = some (p.1, p.2.1))
    (hown : ∀ k, D k → (ρ k).1.oneCell' = true) :
    ∀ (parts : List (Nat × V)) (vals : List (Nat × Value)) (cs : List C) (vs : Array Value) (out : List C), RCs H ρ D cs vs → parts.length = vals.length →
      (∀ (j : Nat) i v i' x, parts[j]? = some (i, v) → vals[j]? = some (i', x) → i' = i ∧ RV H ρ D v x) → fillC fs cs parts = some out →
      ∃ us, Instr.fill (places[·]?) vs vals = some us ∧ RCs H ρ D out us
  | [], vals, cs, vs, out, h, hl, _, hf => by
    cases vals with
    | nil => simp only [fillC, Option.some.injEq] at hf; subst hf; exact ⟨vs, rfl, h⟩
    | cons v vs => simp at hl
  | (i, v) :: parts, vals, cs, vs, out, h, hl, hv, hf => by
    cases vals with
    | nil => simp at hl
    | cons q vals =>
      obtain ⟨i', x⟩ := q
      obtain ⟨rfl, hx⟩ := hv 0 i v i' x rfl rfl
      simp only [fillC] at hf
      split at hf
      · rename_i p xs hp hxs
        split at hf
        · rename_i hle
          have hc := hx.cells hxs fun k hk => by
            subst hk
            obtain ⟨hd, rfl⟩ := hx
            exact hown k hd
          have hsz : x.cells.size = xs.length := hc.1
          have h1 := RCs.sets xs x.cells.toList (o := p.1) h (by simpa using hc)
          obtain ⟨us, h2, h3⟩ := fill_ok hpl hown parts vals _ _ out h1 (by simpa using hl) (fun j i v i' x h4 h5 => hv (j + 1) i v i' x (by simpa using h4) (by simpa using h5)) hf
          refine ⟨us, ?_, h3⟩
          have hcond : ¬ ((decide (x.cells.size ≠ p.2.1) || decide (p.1 + x.cells.size > vs.size)) = true) := by
            have h4 := h.1
            have h5 := hle.1
            have h6 := hle.2
            simp only [hsz, h5, Bool.or_eq_true, decide_eq_true_eq]
            omega
          simp only [Instr.fill, hpl _ _ hp]
          rw [if_neg hcond]
          rw [← h2]
          congr 1
          rw [← Array.foldl_toList]
          have := zip_set vs p.1 x.cells.toList 0
          simp only [Nat.add_zero] at this
          rw [← this]
          simp [Array.toList_zipIdx]
        · cases hf
      · cases hf

theorem run_places_list : ∀ {fs : List (Nat × Nat × Bool)} {l : List Field}, fldB P fs l = true → ∀ w : World,
    (l.mapM (fun f => do pure (f.offset, ← sizeOf f.type)) : Sem (List (Nat × Nat))).run P w = .ok (fs.map fun p => (p.1, p.2.1)) w
  | [], [], _, w => by simp
  | [], _ :: _, h, _ => by simp [fldB] at h
  | _ :: _, [], h, _ => by simp [fldB] at h
  | p :: fs, f :: l, h, w => by
    obtain ⟨f', h1, h2, ⟨fi, h3, h4⟩, _⟩ := fld_get (i := 0) (p := p) h rfl
    cases h1
    simp only [fldB, Bool.and_eq_true] at h
    have ih := run_places_list h.2 w
    rw [List.mapM_cons, Sem.run_bind, Sem.run_bind, run_szOf w h3, Result.andThen_ok, Sem.run_pure, Result.andThen_ok, Sem.run_bind, ih]
    simp [h2, h4]

theorem run_places {fs : List (Nat × Nat × Bool)} {fields : Array Field} (h : fldB P fs fields.toList = true) (w : World) :
    (fields.mapM (fun f => do pure (f.offset, ← sizeOf f.type)) : Sem (Array (Nat × Nat))).run P w = .ok (fs.map fun p => (p.1, p.2.1)).toArray w := by
  rw [Array.mapM_eq_mapM_toList, Sem.run_map, run_places_list h w]
  rfl

theorem notV_ok {x v : V} {p : Value} (h : notV x = some v) (hp : RV H ρ D x p) : ∃ y, RV H ρ D v y ∧ ∀ w', (Op.unary .not p).run P w' = .ok y w' := by
  unfold notV at h
  split at h
  · cases h; simp only [RV, RC] at hp; subst hp; exact ⟨_, rfl, fun w' => rfl⟩
  · cases h; have := RL.of_bool hp; subst this; exact ⟨_, RL.bool, fun w' => rfl⟩
  · cases h

theorem caps_ok : ∀ (xs : List V) (vs : List Value) (l : List Cp), xs.length = vs.length → (∀ (j : Nat) x v, xs[j]? = some x → vs[j]? = some v → RV H ρ D x v) → caps xs = some l →
    vs.length = l.length ∧ ∀ j c, l[j]? = some c → RCp H ρ D c (vs.toArray.getD j Go.undef)
  | [], vs, l, hl, _, h => by
    cases vs with
    | nil => simp only [caps, Option.some.injEq] at h; subst h; exact ⟨rfl, fun j c hj => by simp at hj⟩
    | cons v vs => simp at hl
  | x :: xs, vs, l, hl, hv, h => by
    cases vs with
    | nil => simp at hl
    | cons v vs =>
      simp only [caps] at h
      split at h
      · rename_i c cs hc hcs
        cases h
        obtain ⟨h1, h2⟩ := caps_ok xs vs cs (by simpa using hl) (fun j x v hj hj' => hv (j + 1) x v (by simpa using hj) (by simpa using hj')) hcs
        refine ⟨by simpa using h1, fun j d hj => ?_⟩
        cases j with
        | zero =>
          simp only [List.getElem?_cons_zero, Option.some.injEq] at hj
          subst hj
          have := hv 0 x v rfl rfl
          unfold capV at hc
          split at hc
          · cases hc; exact this
          · cases hc; exact this
          · cases hc; exact this
          · cases hc
        | succ j => simpa using h2 j d (by simpa using hj)
      · cases h

end

section
variable {P : Program} {tab : Tab} (hT : tabB P tab = true) {Γ : Ctx} {H : Hp} {ρ : Rho} {σ : SS} {a : Act} {w : World} (r : RelH Γ H ρ σ a w)
include hT r

omit hT in
theorem own_of {k : Nat} {E : ETy} {xs : Unit → List E.α} {lent : Bool} (h : getB σ.blk k = some (.own E xs lent)) : OwnL w.heap (.list E xs) (ρ k).1 (ρ k).2 := r.b.blk k _ (getB_mem h)

omit hT r in
theorem OwnL.slice {h : Array Obj} {E : ETy} {xs : Unit → List E.α} {v : Value} {S : Nat → Nat} (ho : OwnL h (.list E xs) v S) : ∃ b c, v = .slice b (xs ()).length c ∧ (xs ()).length ≤ maxL := by
  generalize hl : Lf.list E xs = l at ho
  cases ho with
  | int hr => cases hl
  | bool => cases hl
  | str hm => cases hl
  | nil h0 => cases hl; exact ⟨none, 0, by simp [h0], by simp [h0, maxL]⟩
  | list S hb hf hl' hm ho hc => cases hl; exact ⟨_, _, rfl, hm⟩

omit hT r in
theorem RL.slice {E : ETy} {xs : Unit → List E.α} {v : Value} (ho : RL H (.list E xs) v) : ∃ b c, v = .slice b (xs ()).length c ∧ (xs ()).length ≤ maxL := by
  generalize hl : Lf.list E xs = l at ho
  cases ho with
  | int hr => cases hl
  | bool => cases hl
  | str hm => cases hl
  | nil h0 => cases hl; exact ⟨_, _, by rw [h0]; rfl, by simp [h0, maxL]⟩
  | list hb hl' hm ho hc => cases hl; exact ⟨_, _, rfl, hm⟩

theorem lenT_ok {T ty : TypeId} {x : V} {p : Value} {n : Unit → Nat} (h : lenT tab σ.blk T x = some n) (hp : RV H ρ (dom σ.blk) x p) :
    n () ≤ maxL ∧ ∀ w', (Builtin.len_ #[T] ty #[p]).run P w' = .ok (.int .i64 (n ())) w' := by
  unfold lenT at h
  split at h
  · split at h
    · rename_i hti
      cases h
      obtain ⟨b, c, rfl, hm⟩ := RL.slice hp
      exact ⟨hm, fun w' => by simp [Builtin.len_, run_und w' (ti_sl (tget_ok hT hti)).1, goInt]⟩
    · cases h
  · split at h
    · rename_i hti hB
      cases h
      obtain ⟨hd, rfl⟩ := hp
      obtain ⟨b, c, h1, hm⟩ := OwnL.slice (own_of r hB)
      rw [h1]
      exact ⟨hm, fun w' => by simp [Builtin.len_, run_und w' (ti_sl (tget_ok hT hti)).1, goInt]⟩
    · cases h
  · split at h
    · rename_i hti
      cases h
      simp only [RV, RC] at hp
      subst hp
      exact ⟨by simp [maxL], fun w' => by simp [Builtin.len_, run_und w' (ti_sl (tget_ok hT hti)).1, goInt]⟩
    · cases h
  · split at h
    · rename_i hti
      cases h
      obtain ⟨rfl, hm⟩ := RL.of_str hp
      exact ⟨hm, fun w' => by simp [Builtin.len_, run_und w' (ti_ss (tget_ok hT hti)).1, goInt]; rfl⟩
    · cases h
  · cases h


omit hT in
theorem own_one {k : Nat} {p : Value} (hp : RV H ρ (dom σ.blk) (.c (.own k)) p) : p.oneCell' = true := by
  obtain ⟨hd, rfl⟩ := hp; exact r.b.oc k hd

omit r in
theorem convT_ok {src dst : TypeId} {x v : V} {p : Value} (h : convT tab src dst x = some v) (hp : RV H ρ (dom σ.blk) x p) :
    ∃ y, RV H ρ (dom σ.blk) v y ∧ ∀ w', (convert src dst p).run P w' = .ok y w' := by
  unfold convT at h
  split at h
  · rename_i k t
    obtain ⟨rfl, hh⟩ := RL.of_int hp
    have key : ∀ k1 k', tiB P src (.it k1) = true → tiB P dst (.it k') = true → ∀ w', (convert src dst (.int k (t ()))).run P w' = .ok (.int k' (k'.wrap (t ()))) w' := fun k1 k' h1 h2 w' => by
      simp [convert, run_und w' (ti_it h1).1, run_und w' (ti_it h2).1, Conv.intToInt]
    split at h
    · rename_i k1 hs hd
      split at h
      · rename_i hk
        cases h
        have h64 : IntKind.i64.has (t ()) := by
          rcases hk with rfl | rfl
          · have := has_u8.1 hh; exact has_i64.2 (by omega)
          · exact hh
        refine ⟨_, RL.int h64, fun w' => ?_⟩
        rw [key _ _ (tget_ok hT hs) (tget_ok hT hd), wrap_in h64]
      · cases h
        exact ⟨_, RL.int (t := fun _ => IntKind.i64.wrap (t ())) (has_wrap _ _), fun w' => key _ _ (tget_ok hT hs) (tget_ok hT hd) w'⟩
    · rename_i k1 k' hne hs hd
      cases h
      exact ⟨_, RL.int (t := fun _ => IntKind.wrap k' (t ())) (has_wrap _ _), fun w' => key _ _ (tget_ok hT hs) (tget_ok hT hd) w'⟩
    · cases h
  · cases h

omit hT r in
theorem maxT_ok {xs : List V} {vs : List Value} {k : IntKind} {t : Unit → Int} {D : Nat → Prop} (h : maxT xs = some (k, t)) (hl : xs.length = vs.length)
    (hv : ∀ (j : Nat) x v, xs[j]? = some x → vs[j]? = some v → RV H ρ D x v) (at_ : Array TypeId) (ty : TypeId) :
    k.has (t ()) ∧ ∀ w', (Builtin.max_ at_ ty vs.toArray).run P w' = .ok (.int k (t ())) w' := by
  unfold maxT at h
  split at h
  · rename_i k a k' b
    split at h
    · rename_i hk
      subst hk
      cases h
      match vs, hl with
      | [v, u], _ =>
        obtain ⟨rfl, h1⟩ := RL.of_int (hv 0 _ _ rfl rfl)
        obtain ⟨rfl, h2⟩ := RL.of_int (hv 1 _ _ rfl rfl)
        refine ⟨?_, fun w' => by simp [Builtin.max_, Builtin.max2]⟩
        show IntKind.has k (if b () > a () then b () else a ())
        split <;> assumption
    · cases h
  · cases h

omit hT r in
theorem minT_ok {xs : List V} {vs : List Value} {k : IntKind} {t : Unit → Int} {D : Nat → Prop} (h : minT xs = some (k, t)) (hl : xs.length = vs.length)
    (hv : ∀ (j : Nat) x v, xs[j]? = some x → vs[j]? = some v → RV H ρ D x v) (at_ : Array TypeId) (ty : TypeId) :
    k.has (t ()) ∧ ∀ w', (Builtin.min_ at_ ty vs.toArray).run P w' = .ok (.int k (t ())) w' := by
  unfold minT at h
  split at h
  · rename_i k a k' b
    split at h
    · rename_i hk
      subst hk
      cases h
      match vs, hl with
      | [v, u], _ =>
        obtain ⟨rfl, h1⟩ := RL.of_int (hv 0 _ _ rfl rfl)
        obtain ⟨rfl, h2⟩ := RL.of_int (hv 1 _ _ rfl rfl)
        refine ⟨?_, fun w' => by simp [Builtin.min_, Builtin.min2]⟩
        show IntKind.has k (if b () < a () then b () else a ())
        split <;> assumption
    · cases h
  · cases h

omit hT in
theorem map_ev (args : Array Operand) (j : Nat) (x : V) (v : Value) (h : (args.toList.map σ.ev)[j]? = some x) (h' : (args.map a.eval).toList[j]? = some v) : RV H ρ (dom σ.blk) x v := by
  simp only [Array.toList_map, List.getElem?_map, Option.map_eq_some_iff] at h h'
  obtain ⟨o, h1, rfl⟩ := h
  obtain ⟨o', h2, rfl⟩ := h'
  rw [h1] at h2
  cases h2
  exact ev_ok r.e o

theorem ex_ok {o : Oper} {v : V} (h : ex tab o σ = some v) :
    ∃ y, RV H ρ (dom σ.blk) v y ∧ ∀ w', Keeps H ρ (rdN o σ) w w' → (execOp a.eval o).run P w' = .ok (.value y) w' := by
  have ev := ev_ok r.e
  unfold ex at h
  split at h
  · rename_i x hop; cases h; exact ⟨_, ev x, fun w' _ => by simp [execOp, hop]⟩
  · rename_i x hop; cases h; exact ⟨_, ev x, fun w' _ => by simp [execOp, hop]⟩
  · rename_i c x y hop
    have hc := ev c
    split at h
    · rename_i hcv
      rw [hcv] at hc
      simp only [RV, RC] at hc
      cases h; exact ⟨_, ev x, fun w' _ => by simp [execOp, hop, hc, asBool]⟩
    · rename_i hcv
      rw [hcv] at hc
      simp only [RV, RC] at hc
      cases h; exact ⟨_, ev y, fun w' _ => by simp [execOp, hop, hc, asBool]⟩
    · cases h
  · rename_i T x hop
    obtain ⟨y, h1, h2⟩ := exLoad_ok hT r h (ev x)
    refine ⟨y, h1, fun w' hk => ?_⟩
    have := h2 w' (by simpa [rdN, hop] using hk)
    simp [execOp, hop, this]
  · rename_i T x i hop
    obtain ⟨y, h1, h2⟩ := exFieldAddr_ok hT h (ev x)
    exact ⟨y, h1, fun w' hk => by simp [execOp, hop, h2 w']⟩
  · rename_i T x i hop
    obtain ⟨y, h1, h2⟩ := exField_ok hT h (ev x)
    exact ⟨y, h1, fun w' hk => by simp [execOp, hop, h2 w']⟩
  · rename_i T parts hop
    split at h
    · rename_i n fs z q hti
      split at h
      · rename_i cs hf
        cases h
        obtain ⟨fields, hU, ⟨hfl, _⟩, i, zs, hi, hin, hz, hzo⟩ := ti_st (tget_ok hT hti)
        have hz0 := Z.oks_cs (H := H) (ρ := ρ) (D := dom σ.blk) hzo
        obtain ⟨us, h3, h4⟩ := fill_ok (places := (fs.map fun p => (p.1, p.2.1)).toArray) (fun i p hp => by simp [hp]) r.b.oc _ (parts.toList.map fun p => (p.1, a.eval p.2)) _ _ _ hz0 (by simp) (fun j i v i' x h5 h6 => by
          simp only [List.getElem?_map, Option.map_eq_some_iff, Prod.mk.injEq] at h5 h6
          obtain ⟨p, h7, rfl, rfl⟩ := h5
          obtain ⟨p', h8, rfl, rfl⟩ := h6
          rw [h7] at h8
          cases h8
          exact ⟨rfl, ev _⟩) hf
        refine ⟨_, ⟨us, rfl, h4⟩, fun w' _ => ?_⟩
        have h5 := run_places hfl w'
        simp only [Array.toArray_toList] at h3 h5
        simp only [execOp, hop, Instr.build, Sem.run_bind, run_zero w' hi hz, run_und w' hU, Result.andThen_ok, h5, Array.toList_map, Value.cells, h3]
        rfl
      · cases h
    · cases h
  · rename_i T x hop
    obtain ⟨y, h1, h2⟩ := notV_ok (P := P) h (ev x)
    exact ⟨y, h1, fun w' _ => by simp [execOp, hop, h2 w']⟩
  · rename_i x i hop
    have hx := ev x
    split at h
    · rename_i cs hcs
      rw [hcs] at hx
      obtain ⟨vs, h1, h2, h3⟩ := hx
      split at h
      · rename_i l hl
        cases h
        have := h3 _ _ hl
        refine ⟨_, this, fun w' _ => ?_⟩
        have e := getD_some (show i < vs.size by rw [h2]; exact lt_of_get hl)
        simp only [execOp, hop, Instr.extract, h1, e]
        rfl
      · rename_i c hl
        cases h
        obtain ⟨c', h4, h5⟩ := h3 _ _ hl
        cases h4
        refine ⟨_, h5, fun w' _ => ?_⟩
        have e := getD_some (show i < vs.size by rw [h2]; exact lt_of_get hl)
        simp only [execOp, hop, Instr.extract, h1, e]
        rfl
      · cases h
    · cases h
  · rename_i x hop
    split at h
    · rename_i hpv
      cases h
      refine ⟨_, ev x, fun w' _ => ?_⟩
      have hx := ev x
      generalize σ.ev x = vx at hx hpv
      unfold ptrV at hpv
      split at hpv
      · obtain ⟨_, b, _, h1⟩ := hx; simp [execOp, hop, h1]
      · obtain ⟨b, o, cs, e, fz, _, h1, _⟩ := hx; simp [execOp, hop, h1]
      · obtain ⟨b, o, cs, e, fz, _, h1, _⟩ := hx; simp [execOp, hop, h1]
      · obtain ⟨_, b, o, n, c, _, _, h1⟩ := hx; simp [execOp, hop, h1]
      · obtain ⟨vs, h1, _⟩ := hx; simp [execOp, hop, h1]
      · cases hpv
    · cases h
  · rename_i f first captured hop
    split at h
    · rename_i h0
      split at h
      · rename_i l hl
        cases h
        obtain ⟨h1, h2⟩ := caps_ok _ (captured.map a.eval).toList l (by simp) (map_ev r captured) hl
        have hf : first = #[] := by simpa using h0
        refine ⟨_, ⟨captured.map a.eval, rfl, by simpa using h1, by simpa using h2⟩, fun w' _ => ?_⟩
        simp [execOp, hop, Instr.makeFunc, hf]
      · cases h
    · cases h
  · rename_i op T x y yT hop
    obtain ⟨z, h1, h2⟩ := exBin_ok hT (X := x) (Y := y) h (ev x) (ev y)
    refine ⟨z, h1, fun w' _ => ?_⟩
    have := h2 w'
    simp only [execOp, hop]
    rw [Sem.run_bind, this]
    rfl
  · rename_i src dst x hop
    obtain ⟨y, h1, h2⟩ := convT_ok hT h (ev x)
    exact ⟨y, h1, fun w' _ => by simp [execOp, hop, h2 w']⟩
  · rename_i c hop
    split at h
    · rename_i hcal
      split at h
      · rename_i x T hx hTt
        split at h
        · rename_i n hn
          cases h
          obtain ⟨h1, h2⟩ := lenT_ok hT r (ty := o.type) hn (ev x)
          have e1 : c.args = #[x] := by rw [← Array.toList_inj]; simpa using hx
          have e2 : c.argTypes = #[T] := by rw [← Array.toList_inj]; simpa using hTt
          refine ⟨_, RL.int (t := fun _ => ((n () : Nat) : Int)) (has_i64.2 (by unfold maxL at h1; omega)), fun w' _ => ?_⟩
          simp [execOp, hop, resolve, hcal, e1, e2, invoke, builtin, h2 w']
        · cases h
      · cases h
    · rename_i hcal
      split at h
      · rename_i k t ht
        cases h
        obtain ⟨h1, h2⟩ := maxT_ok (P := P) ht (vs := (c.args.map a.eval).toList) (by simp) (map_ev r c.args) c.argTypes o.type
        refine ⟨_, RL.int h1, fun w' _ => ?_⟩
        have := h2 w'
        simp only [Array.toArray_toList] at this
        simp [execOp, hop, resolve, hcal, invoke, builtin, this]
      · cases h
    · rename_i hcal
      split at h
      · rename_i k t ht
        cases h
        obtain ⟨h1, h2⟩ := minT_ok (P := P) ht (vs := (c.args.map a.eval).toList) (by simp) (map_ev r c.args) c.argTypes o.type
        refine ⟨_, RL.int h1, fun w' _ => ?_⟩
        have := h2 w'
        simp only [Array.toArray_toList] at this
        simp [execOp, hop, resolve, hcal, invoke, builtin, this]
      · cases h
    · cases h
  · cases h

end

end Go.Proofs.Ytnmdhpaobmjefaa
