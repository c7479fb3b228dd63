/-
  The operations that leave memory alone and are reckoned without a question, the rest: and the one function that reckons them all. No conditions.
-/
import Derived.Test.YtnmdhpaobmjefaaEx
namespace Go.Proofs.Ytnmdhpaobmjefaa
open Go

theorem has_wrap (k : IntKind) (n : Int) : k.has (k.wrap n) := by
  cases k <;> simp only [IntKind.has, IntKind.min, IntKind.max, IntKind.wrap, IntKind.signed, IntKind.bits] <;> simp <;> (try split) <;> omega

theorem wrap_in {k : IntKind} {n : Int} (h : k.has n) : k.wrap n = n := by
  cases k <;> simp only [IntKind.has, IntKind.min, IntKind.max, IntKind.wrap, IntKind.signed, IntKind.bits] at h ⊢ <;> simp at h ⊢ <;> (try split) <;> omega

/-! ### comparisons -/

def cmpI (op : BinOp) (a b : Unit → Int) : Option (Unit → Bool) :=
  match op with
  | .eql => some fun _ => a () == b ()
  | .neq => some fun _ => a () != b ()
  | .lss => some fun _ => decide (a () < b ())
  | .leq => some fun _ => decide (a () ≤ b ())
  | .gtr => some fun _ => decide (b () < a ())
  | .geq => some fun _ => decide (b () ≤ a ())
  | _ => none

def boolT : V → Option (Unit → Bool)
  | .c (.bl b) => some fun _ => b
  | .c (.lf (.bool t)) => some t
  | _ => none

def eqCells : List C → List C → Option (Unit → Bool)
  | [], [] => some fun _ => true
  | .lf (.int k a) :: xs, .lf (.int k' b) :: ys => if k = k' then (match eqCells xs ys with | some t => some fun _ => a () == b () && t () | none => none) else none
  | _, _ => none

def bV (t : Unit → Bool) : V := .c (.lf (.bool t))
def iV (k : IntKind) (t : Unit → Int) : V := .c (.lf (.int k t))

def exBin (tab : Tab) (op : BinOp) (T : TypeId) : V → V → Option V
  | .c (.lf (.int k a)), .c (.lf (.int k' b)) => if k = k' then (match cmpI op a b with | some t => some (bV t) | none => none) else none
  | .c (.lf (.str a)), .c (.lf (.str b)) =>
    match op with
    | .eql => some (bV fun _ => a () == b ())
    | .neq => some (bV fun _ => !(a () == b ()))
    | _ => none
  | .agg xs, .agg ys =>
    match tget tab T with
    | some (.st _ fs _ true) => if xs.length = fs.length then (match op, eqCells xs ys with
      | .eql, some t => some (bV t)
      | .neq, some t => some (bV fun _ => !(t ()))
      | _, _ => none) else none
    | _ => none
  | x, y =>
    match boolT x, boolT y, tget tab T with
    | some a, some b, some .bt =>
      match op with
      | .eql => some (bV fun _ => a () == b ())
      | .neq => some (bV fun _ => !(a () == b ()))
      | _ => none
    | _, _, _ => none

section
variable {P : Program} {w : World} {H : Hp} {ρ : Rho} {D : Nat → Prop}

theorem boolT_ok {x : V} {t : Unit → Bool} {v : Value} (h : boolT x = some t) (hv : RV H ρ D x v) : v = .bool (t ()) := by
  unfold boolT at h
  split at h
  · cases h; exact hv
  · cases h
    simp only [RV, RC] at hv
    cases hv; rfl
  · cases h

theorem RL.of_int {k : IntKind} {t : Unit → Int} {v : Value} (h : RL H (.int k t) v) : v = .int k (t ()) ∧ k.has (t ()) := by
  cases h with | int h => exact ⟨rfl, h⟩
theorem RL.of_str {t : Unit → List UInt8} {v : Value} (h : RL H (.str t) v) : v = .string ⟨(t ()).toArray⟩ ∧ (t ()).length ≤ maxL := by
  cases h with | str h => exact ⟨rfl, h⟩
theorem RL.of_bool {t : Unit → Bool} {v : Value} (h : RL H (.bool t) v) : v = .bool (t ()) := by
  cases h; rfl

theorem toList_mk (l : List UInt8) : (ByteArray.mk l.toArray).toList = l := by
  rw [ByteArray.toList_eq]

theorem eqF {d : Nat} {xs ys : List C} {vs us : Array Value} {t : Unit → Bool} (hx : RCs H ρ D xs vs) (hy : RCs H ρ D ys us) :
    ∀ (fs : List Field) (j : Nat), eqFB P j fs = true → j + fs.length = xs.length → eqCells (xs.drop j) (ys.drop j) = some t →
      (Op.eqFields (d + 1) vs us fs).run P w = .ok (t ()) w
  | [], j, _, hl, ht => by
    simp only [List.length_nil, Nat.add_zero] at hl
    subst hl
    rw [List.drop_length] at ht
    cases hys : ys.drop xs.length with
    | nil => rw [hys] at ht; simp only [eqCells, Option.some.injEq] at ht; subst ht; rfl
    | cons y r => rw [hys] at ht; simp [eqCells] at ht
  | f :: fs, j, hb, hl, ht => by
    simp only [eqFB, Bool.and_eq_true, decide_eq_true_eq] at hb
    obtain ⟨⟨⟨h1, h2⟩, h3⟩, h4⟩ := hb
    simp only [List.length_cons] at hl
    have hj : j < xs.length := by omega
    rw [List.drop_eq_getElem_cons hj] at ht
    have hjy : j < ys.length := by
      rcases Nat.lt_or_ge j ys.length with h | h
      · exact h
      · rw [List.drop_eq_nil_of_le h] at ht
        cases hxj : xs[j] with
        | lf l => rw [hxj] at ht; cases l <;> simp [eqCells] at ht
        | _ => rw [hxj] at ht; simp [eqCells] at ht
    rw [List.drop_eq_getElem_cons hjy] at ht
    have ex := hx.2 j _ (List.getElem?_eq_getElem hj)
    have ey := hy.2 j _ (List.getElem?_eq_getElem hjy)
    generalize xs[j] = cx at *
    generalize ys[j] = cy at *
    unfold eqCells at ht
    split at ht
    · rename_i heq _; cases heq
    · rename_i k a r k' b r' hc1 hc2
      simp only [List.cons.injEq] at hc1 hc2
      obtain ⟨rfl, rfl⟩ := hc1
      obtain ⟨rfl, rfl⟩ := hc2
      split at ht
      · rename_i hk
        subst hk
        split at ht
        · rename_i t' ht'
          cases ht
          obtain ⟨e1, _⟩ := RL.of_int ex
          obtain ⟨e2, _⟩ := RL.of_int ey
          have ih := eqF (d := d) hx hy fs (j + 1) h4 (by omega) ht'
          split at h3
          · rename_i kf hu
            have p1 : (part f.type vs f.offset).run P w = .ok (.int k (a ())) w := by
              simp only [part, Sem.run_bind, run_agg w hu, aggD, Result.andThen_ok, h1, getD_some (by rw [hx.1]; exact hj), e1]
              rfl
            have p2 : (part f.type us f.offset).run P w = .ok (.int k (b ())) w := by
              simp only [part, Sem.run_bind, run_agg w hu, aggD, Result.andThen_ok, h1, getD_some (by rw [hy.1]; exact hjy), e2]
              rfl
            simp only [Op.eqFields, h2, ne_eq, not_false_eq_true, if_true, Sem.run_bind, p1, p2, Result.andThen_ok, run_equalIn_int w d f.type k kf (a ()) (b ()) hu]
            cases hab : (a () == b ()) with
            | true => simpa [hab] using ih
            | false => simp
          · cases h3
        · cases ht
      · cases ht
    · cases ht

theorem run_guard_int {op : BinOp} {T : TypeId} {X Y : Operand} {k k' : IntKind} {a b : Int} : (eqGuard op T X Y (.int k a) (.int k' b)).run P w = .ok () w := by
  unfold eqGuard; cases op <;> rfl

theorem run_cmp {op : BinOp} {k : IntKind} {T : TypeId} {a b t} (h : cmpI op a b = some t) : (binOp op T (.int k (a ())) (.int k (b ()))).run P w = .ok (.bool (t ())) w := by
  cases op <;> simp only [cmpI] at h <;> cases h <;> simp [binOp, Op.intCmp]

end

/-! ### parts of structs -/

def exFieldAddr (tab : Tab) (T : TypeId) (i : Nat) : V → Option V
  | .c (.ptr k off) => match tget tab T with | some (.st _ fs _ _) => (match fs[i]? with | some p => some (.c (.ptr k (off + p.1))) | none => none) | _ => none
  | .c (.el E x off) => match tget tab T with | some (.st _ fs _ _) => (match fs[i]? with | some p => some (.c (.el E x (off + p.1))) | none => none) | _ => none
  | .c (.pcs ls off) => match tget tab T with | some (.st _ fs _ _) => (match fs[i]? with | some p => some (.c (.pcs ls (off + p.1))) | none => none) | _ => none
  | .c (.oel k E j off) => match tget tab T with | some (.st _ fs _ _) => (match fs[i]? with | some p => some (.c (.oel k E j (off + p.1))) | none => none) | _ => none
  | _ => none

def exField (tab : Tab) (T : TypeId) (i : Nat) : V → Option V
  | .agg cs =>
    match tget tab T with
    | some (.st _ fs _ _) =>
      match fs[i]? with
      | some (o, n, true) => if o + n ≤ cs.length then some (.agg (cut cs o n)) else none
      | some (o, _, false) => (match cs[o]? with | some c => some (.c c) | none => none)
      | none => none
    | _ => none
  | _ => none

theorem run_fieldAt {P : Program} {w : World} {T : TypeId} {n : Nat} {fs : List (Nat × Nat × Bool)} {z : List Z} {q : Bool} (h : tiB P T (.st n fs z q) = true) {i : Nat} {p : Nat × Nat × Bool} (hp : fs[i]? = some p) (b o : Nat) :
    (Instr.fieldAt T (.pointer (some ⟨b, o, none⟩)) i).run P w = .ok (.pointer (some ⟨b, o + p.1, none⟩)) w := by
  obtain ⟨fields, hU, ⟨hf, _⟩, _⟩ := ti_st h
  obtain ⟨f, h1, h2, ⟨fi, h3, h4⟩, h5, _⟩ := fld_get hf hp
  have h1' : fields[i]? = some f := by simpa using h1
  have h6 : fi.size ≠ 0 := by rw [h4]; exact h5
  simp only [Instr.fieldAt, Sem.run_bind, run_und w hU, Result.andThen_ok, h1', Instr.sureAddr, fieldPlace, run_szOf w h3, Sem.run_pure, h6, if_false, addr_add, h2]

section
variable {P : Program} {tab : Tab} (hT : tabB P tab = true) {Γ : Ctx} {H : Hp} {ρ : Rho} {D : Nat → Prop} {w : World}
include hT

theorem exFieldAddr_ok {T : TypeId} {i : Nat} {x v : V} {p : Value} (h : exFieldAddr tab T i x = some v) (hp : RV H ρ D x p) :
    ∃ y, RV H ρ D v y ∧ ∀ w', (Instr.fieldAt T p i).run P w' = .ok y w' := by
  unfold exFieldAddr at h
  split at h
  · obtain ⟨hk, b, h1, rfl⟩ := hp
    split at h
    · rename_i hti
      split at h
      · rename_i q hq
        cases h
        exact ⟨_, ⟨hk, b, h1, rfl⟩, fun w' => run_fieldAt (tget_ok hT hti) hq b _⟩
      · cases h
    · cases h
  · rename_i E x off
    obtain ⟨b, o, cs, e, fz, h1, rfl, h3⟩ := hp
    split at h
    · rename_i hti
      split at h
      · rename_i q hq
        cases h
        refine ⟨_, ⟨b, o + q.1, cs, e, fz, h1, rfl, fun j l hj => ?_⟩, fun w' => run_fieldAt (tget_ok hT hti) hq b _⟩
        have := h3 (q.1 + j) l (by rw [← Nat.add_assoc]; exact hj)
        rw [← Nat.add_assoc] at this
        exact this
      · cases h
    · cases h
  · rename_i ls off
    obtain ⟨b, o, cs, e, fz, h1, rfl, h3⟩ := hp
    split at h
    · rename_i hti
      split at h
      · rename_i q hq
        cases h
        refine ⟨_, ⟨b, o + q.1, cs, e, fz, h1, rfl, fun j l hj => ?_⟩, fun w' => run_fieldAt (tget_ok hT hti) hq b _⟩
        have := h3 (q.1 + j) l (by rw [← Nat.add_assoc]; exact hj)
        rw [← Nat.add_assoc] at this
        exact this
      · cases h
    · cases h
  · obtain ⟨hk, b, o, n, c, h1, hi, rfl⟩ := hp
    split at h
    · rename_i hti
      split at h
      · rename_i q hq
        cases h
        exact ⟨_, ⟨hk, b, o, n, c, h1, hi, rfl⟩, fun w' => by rw [← Nat.add_assoc]; exact run_fieldAt (tget_ok hT hti) hq b _⟩
      · cases h
    · cases h
  · cases h

theorem exField_ok {T : TypeId} {i : Nat} {x v : V} {p : Value} (h : exField tab T i x = some v) (hp : RV H ρ D x p) :
    ∃ y, RV H ρ D v y ∧ ∀ w', (Instr.field T p i).run P w' = .ok y w' := by
  unfold exField at h
  split at h
  · rename_i cs
    obtain ⟨vs, rfl, hcs⟩ := hp
    split at h
    · rename_i n fs z q hti
      obtain ⟨fields, hU, ⟨hf, _⟩, _⟩ := ti_st (tget_ok hT hti)
      split at h
      · rename_i o m hq
        split at h
        · rename_i hle
          cases h
          obtain ⟨f, h1, h2, ⟨fi, h3, h4⟩, h5, ⟨d, h6, h7⟩, _⟩ := fld_get hf hq
          have h1' : fields[i]? = some f := by simpa using h1
          refine ⟨_, ⟨_, rfl, hcs.cut hle⟩, fun w' => ?_⟩
          simp only [Instr.field, Sem.run_bind, run_und w' hU, Result.andThen_ok, h1', asAgg, Sem.run_pure, part, run_agg w' h6, h7, run_szOf w' h3, h2, h4, if_true]
          congr 2
          apply Array.ext
          · simp only [Array.size_extract, List.size_toArray, List.length_map, List.length_range]; have := hcs.1; omega
          · intro j hj1 hj2
            simp only [Array.getElem_extract, List.getElem_toArray, List.getElem_map, List.getElem_range]
            rw [Array.getD_eq_getD_getElem?, Array.getElem?_eq_getElem]
            rfl
        · cases h
      · rename_i o m hq
        split at h
        · rename_i c hc
          cases h
          obtain ⟨f, h1, h2, ⟨fi, h3, h4⟩, h5, ⟨d, h6, h7⟩, _⟩ := fld_get hf hq
          have h1' : fields[i]? = some f := by simpa using h1
          refine ⟨_, hcs.2 _ _ hc, fun w' => ?_⟩
          simp only [Instr.field, Sem.run_bind, run_und w' hU, Result.andThen_ok, h1', asAgg, Sem.run_pure, part, run_agg w' h6, h7, h2, Bool.false_eq_true, if_false,
            getD_some (show o < vs.size by rw [hcs.1]; exact lt_of_get hc)]
        · cases h
      · cases h
    · cases h
  · cases h

theorem exBin_ok {op : BinOp} {T : TypeId} {x y v : V} {p q : Value} {X Y : Operand} (h : exBin tab op T x y = some v) (hp : RV H ρ D x p) (hq : RV H ρ D y q) :
    ∃ z, RV H ρ D v z ∧ ∀ w', ((do eqGuard op T X Y p q; binOp op T p q) : Sem Value).run P w' = .ok z w' := by
  unfold exBin at h
  split at h
  · obtain ⟨rfl, _⟩ := RL.of_int hp
    obtain ⟨rfl, _⟩ := RL.of_int hq
    split at h
    · rename_i hk
      subst hk
      split at h
      · rename_i t ht
        cases h
        refine ⟨_, RL.bool, fun w' => ?_⟩
        rw [Sem.run_bind, run_guard_int, Result.andThen_ok, run_cmp ht]
      · cases h
    · cases h
  · rename_i a b
    obtain ⟨rfl, _⟩ := RL.of_str hp
    obtain ⟨rfl, _⟩ := RL.of_str hq
    split at h
    · cases h
      refine ⟨_, RL.bool, fun w' => ?_⟩
      simp [eqGuard, binOp, Op.stringOp]
    · cases h
      refine ⟨_, RL.bool, fun w' => ?_⟩
      simp [eqGuard, binOp, Op.stringOp]
    · cases h
  · rename_i xs ys
    obtain ⟨vs, rfl, hx⟩ := hp
    obtain ⟨us, rfl, hy⟩ := hq
    split at h
    · rename_i n fs z hti
      split at h
      · rename_i hn
        obtain ⟨fields, hU, ⟨hf, hq⟩, _⟩ := ti_st (tget_ok hT hti)
        have hq' := hq rfl
        simp only [eqB, Bool.and_eq_true, Bool.not_eq_true'] at hq'
        obtain ⟨⟨g1, g2⟩, g3⟩ := hq'
        have hFo : P.fieldsOf T = fields := by simp [Program.fieldsOf, hU]
        have hlen := fld_len hf
        have main : ∀ t, eqCells xs ys = some t → ∀ w', (Op.equalIn 10000 T (.agg vs) (.agg us)).run P w' = .ok (t ()) w' := fun t ht w' => by
          rw [run_equalIn_agg w' 9999 T vs us (by rw [hFo]; exact hU) g1, hFo]
          exact eqF hx hy fields.toList 0 g3 (by omega) (by simpa using ht)
        split at h
        · rename_i t ht
          cases h
          refine ⟨_, RL.bool, fun w' => ?_⟩
          rw [Sem.run_bind, run_eqGuard_agg w' _ T X Y vs us g2, Result.andThen_ok, run_eql_struct, main t ht]
          rfl
        · rename_i t ht
          cases h
          refine ⟨_, RL.bool, fun w' => ?_⟩
          rw [Sem.run_bind, run_eqGuard_agg w' _ T X Y vs us g2, Result.andThen_ok, run_neq_struct, main t ht]
          rfl
        · cases h
      · cases h
    · cases h
  · split at h
    · rename_i a b ha hb hti
      have hu := (ti_bt (tget_ok hT hti)).1
      have e1 := boolT_ok ha hp
      have e2 := boolT_ok hb hq
      subst e1 e2
      split at h
      · cases h
        refine ⟨_, RL.bool, fun w' => ?_⟩
        simp [eqGuard, binOp, run_equal_bool w' T _ _ hu]
      · cases h
        refine ⟨_, RL.bool, fun w' => ?_⟩
        simp [eqGuard, binOp, run_equal_bool w' T _ _ hu]
      · cases h
    · cases h

end

end Go.Proofs.Ytnmdhpaobmjefaa
