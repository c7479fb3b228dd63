/-
  The operations that make lists: what is to be shown, and that it is enough. No conditions.
-/
import Derived.Test.YtnmdhpaobmjefaaApp
namespace Go.Proofs.Ytnmdhpaobmjefaa
open Go

/-! ### an element, from its cells -/

/-- a cell, as it is to be owned, and the name that is used up -/
def mkCell (bs : List (Nat × Blk)) (z : Z) : C → Option (Lf × List Nat)
  | .lf (.list _ _) => none
  | .lf l => some (l, [])
  | .bl b => some (.bool fun _ => b, [])
  | .nil => match z with | .nl E => some (.list E fun _ => [], []) | _ => none
  | .own k => match getB bs k with | some (.own E xs false) => some (.list E xs, [k]) | _ => none
  | _ => none

def mkCells (bs : List (Nat × Blk)) : List Z → List C → Option (List Lf × List Nat)
  | [], [] => some ([], [])
  | z :: zs, c :: cs => match mkCell bs z c, mkCells bs zs cs with
    | some (l, k), some (ls, ks) => some (l :: ls, k ++ ks)
    | _, _ => none
  | _, _ => none

def toE : (E : ETy) → List Lf → Option (Unit → E.α)
  | .int, [.int .i64 t] => some t
  | .byte, [.int .u8 t] => some fun _ => UInt8.ofNat (t ()).toNat
  | .str, [.str t] => some t
  | .pin, [.int .i64 a, .int .i64 b] => some fun _ => ⟨a (), b ()⟩
  | .ent, [.int .i64 a, .int .i64 b, .int .i64 c, .int .i64 d] => some fun _ => ⟨a (), b (), c (), d ()⟩
  | .pty, [.int .i64 a, .int .i64 b, .int .i64 c, .int .i64 d, .int .i64 e, .int .i64 f, .int .i64 g, .int .i64 h, .int .i64 i, .int .i64 j] =>
    some fun _ => ⟨a (), b (), c (), d (), e (), f (), g (), h (), i (), j ()⟩
  | .spk, [.list .pin t] => some t
  | .cab, [.int .i64 a, .int .i64 b, .int .i64 c, .int .i64 d, .int .i64 e, .list .ent r, .list .spk s] => some fun _ => ⟨⟨a (), b (), c (), d (), e ()⟩, r (), s ()⟩
  | .req, [.int .i64 a, .int .i64 b, .int .i64 c, .int .i64 d, .int .i64 e, .int .i64 f] => some fun _ => ⟨a (), b (), c (), d (), e (), f ()⟩
  | .rep, [.int .i64 a, .list .int l] => some fun _ => ⟨a (), l ()⟩
  | _, _ => none

theorem byte_int {t : Int} (h : IntKind.u8.has t) : ((UInt8.ofNat t.toNat).toNat : Int) = t := by
  have : 0 ≤ t ∧ t ≤ 255 := by simpa [IntKind.has, IntKind.min, IntKind.max, IntKind.signed, IntKind.bits] using h
  have h2 : t.toNat < 256 := by omega
  rw [UInt8.toNat_ofNat', Nat.mod_eq_of_lt (by simpa using h2)]
  omega

/-- the element's cells are those that it was made of -/
theorem toE_ok {E : ETy} {ls : List Lf} {x : Unit → E.α} (h : toE E ls = some x) (hb : ∀ t, ls = [.int .u8 t] → IntKind.u8.has (t ())) : cellsT E x = ls := by
  unfold toE at h
  split at h
  · cases h; rfl
  · rename_i t
    cases h
    simp only [cellsT]
    congr 2
    funext u
    exact byte_int (hb t rfl)
  all_goals first
    | (cases h; rfl)
    | cases h

/-! ### counting -/

def sumF : List (Nat → Nat) → Nat → Nat
  | [], _ => 0
  | f :: fs, x => f x + sumF fs x

theorem sumN_succ' {n : Nat} {f : Nat → Nat} : sumN (n + 1) f = f 0 + sumN n fun i => f (i + 1) := by
  induction n with
  | zero => simp [sumN]
  | succ n ih =>
    have h : sumN (n + 1 + 1) f = sumN (n + 1) f + f (n + 1) := rfl
    have h2 : (sumN (n + 1) fun i => f (i + 1)) = (sumN n fun i => f (i + 1)) + f (n + 1) := rfl
    rw [h, ih, h2]; omega

theorem sumF_eq : ∀ (fs : List (Nat → Nat)) (x : Nat), sumN fs.length (fun j => fs.getD j (fun _ => 0) x) = sumF fs x
  | [], _ => rfl
  | f :: fs, x => by
    simp only [List.length_cons, sumF]
    rw [sumN_succ', ← sumF_eq fs x]
    rfl

theorem sumK_app {ρ : Rho} {x : Nat} : ∀ {ks js : List Nat}, sumK ρ (ks ++ js) x = sumK ρ ks x + sumK ρ js x
  | [], js => by simp [sumK]
  | k :: ks, js => by simp only [List.cons_append, sumK, sumK_app (ks := ks)]; omega

theorem unlent_app {bs : List (Nat × Blk)} : ∀ {ks js : List Nat}, unlent bs ks = true → unlent bs js = true → unlent bs (ks ++ js) = true
  | [], _, _, h => h
  | k :: ks, js, h1, h2 => by
    simp only [unlent, Bool.and_eq_true, List.cons_append] at h1 ⊢
    exact ⟨h1.1, unlent_app h1.2 h2⟩

section
variable {Γ : Ctx} {H : Hp} {ρ : Rho} {σ : SS} {a : Act} {w : World} (r : RelH Γ H ρ σ a w)
include r

theorem mkCell_ok {z : Z} {c : C} {l : Lf} {ks : List Nat} {v : Value} (h : mkCell σ.blk z c = some (l, ks)) (hv : RC H ρ (dom σ.blk) c v) :
    ∃ S : Nat → Nat, OwnL w.heap l v S ∧ unlent σ.blk ks = true ∧ ∀ x, S x = sumK ρ ks x := by
  unfold mkCell at h
  split at h
  · cases h
  · rename_i l' hl
    cases h
    refine ⟨fun _ => 0, RL.own_sc hv ?_, rfl, fun _ => rfl⟩
    cases l <;> first | rfl | exact (hl _ _ rfl).elim
  · rename_i b
    cases h
    simp only [RC] at hv
    subst hv
    exact ⟨fun _ => 0, OwnL.bool (t := fun _ => b), rfl, fun _ => rfl⟩
  · split at h
    · cases h
      simp only [RC] at hv
      subst hv
      exact ⟨fun _ => 0, OwnL.nil rfl, rfl, fun _ => rfl⟩
    · cases h
  · rename_i k
    split at h
    · rename_i E xs hg
      cases h
      obtain ⟨_, rfl⟩ := hv
      exact ⟨(ρ k).2, own_of r hg, by simp [unlent, hg], fun x => by simp [sumK]⟩
    · cases h
  · cases h

theorem mkCells_ok : ∀ {zs : List Z} {cs : List C} {ls : List Lf} {ks : List Nat} {f : Nat → Value}, mkCells σ.blk zs cs = some (ls, ks) → (∀ (j : Nat) c, cs[j]? = some c → RC H ρ (dom σ.blk) c (f j)) →
    ∃ S : List (Nat → Nat), S.length = ls.length ∧ ls.length = cs.length ∧ unlent σ.blk ks = true ∧ (∀ x, sumF S x = sumK ρ ks x) ∧ ∀ (j : Nat) l, ls[j]? = some l → OwnL w.heap l (f j) (S.getD j fun _ => 0)
  | [], [], ls, ks, f, h, _ => by
    simp only [mkCells, Option.some.injEq, Prod.mk.injEq] at h
    obtain ⟨rfl, rfl⟩ := h
    exact ⟨[], rfl, rfl, rfl, fun _ => rfl, fun j l hj => by simp at hj⟩
  | [], _ :: _, _, _, _, h, _ => by simp [mkCells] at h
  | _ :: _, [], _, _, _, h, _ => by simp [mkCells] at h
  | z :: zs, c :: cs, ls, ks, f, h, hc => by
    unfold mkCells at h
    split at h
    · rename_i l k ls' ks' h1 h2
      cases h
      obtain ⟨S0, g1, g2, g3⟩ := mkCell_ok r h1 (hc 0 c rfl)
      obtain ⟨S, g4, g5, g6, g7, g8⟩ := mkCells_ok h2 (f := fun j => f (j + 1)) fun j c hj => hc (j + 1) c (by simpa using hj)
      refine ⟨S0 :: S, by simp [g4], by simp [g5], unlent_app g2 g6, fun x => by simp only [sumF, g3, g7, sumK_app], fun j l hj => ?_⟩
      cases j with
      | zero => simp at hj; subst hj; exact g1
      | succ j => simp at hj; simpa using g8 j l hj
    · cases h

end

def mkE (bs : List (Nat × Blk)) (E : ETy) (v : V) : Option ((Unit → E.α) × List Nat) :=
  match cellsV v with
  | some cs => (match mkCells bs (zOf E) cs with
    | some (ls, ks) => (match toE E ls with | some x => some (x, ks) | none => none)
    | none => none)
  | none => none

def mkEs (bs : List (Nat × Blk)) (E : ETy) : List V → Option ((Unit → List E.α) × List Nat)
  | [] => some (fun _ => [], [])
  | v :: vs => match mkE bs E v, mkEs bs E vs with
    | some (x, k), some (xs, ks) => some (fun _ => x () :: xs (), k ++ ks)
    | _, _ => none

/-- every place of a literal is given, in its order -/
def dense : Nat → List (Nat × Operand) → Bool
  | _, [] => true
  | i, p :: ps => decide (p.1 = i) && dense (i + 1) ps

theorem dense_ok {f : Operand → Value} : ∀ {ps : List (Nat × Operand)} {i : Nat}, dense i ps = true → (ps.map fun p => (p.1, f p.2)) = ((ps.map fun p => f p.2).zipIdx i).map fun x => (x.2, x.1)
  | [], _, _ => rfl
  | p :: ps, i, h => by
    simp only [dense, Bool.and_eq_true, decide_eq_true_eq] at h
    simp only [List.map_cons, List.zipIdx_cons, dense_ok h.2, h.1]

section
variable {Γ : Ctx} {H : Hp} {ρ : Rho} {σ : SS} {a : Act} {w : World} (r : RelH Γ H ρ σ a w)
include r

theorem mkE_ok {E : ETy} {v : V} {x : Unit → E.α} {ks : List Nat} {u : Value} (h : mkE σ.blk E v = some (x, ks)) (hv : RV H ρ (dom σ.blk) v u) :
    u.cells.size = E.sz ∧ unlent σ.blk ks = true ∧ ∃ S, Seg w.heap E [x ()] (fun q => u.cells.getD q Go.undef) S ∧ ∀ y, segN 1 E.sz S y = sumK ρ ks y := by
  unfold mkE at h
  split at h
  · rename_i cs hcs
    split at h
    · rename_i ls ks' hm
      split at h
      · rename_i x' hx
        cases h
        have hc := hv.cells hcs fun k hk => by
          rw [hk] at hv
          exact own_one r hv
        obtain ⟨S, g1, g2, g3, g4, g5⟩ := mkCells_ok r hm (f := fun j => u.cells.getD j Go.undef) hc.2
        have he := toE_ok hx fun t ht => by
          have := g5 0 _ (by rw [ht]; rfl)
          generalize u.cells.getD 0 Go.undef = y, S.getD 0 (fun _ => 0) = T at this
          cases this with
          | int hr => exact hr
        have hlen : ls.length = E.sz := by rw [← he, cellsT_len]
        refine ⟨by rw [hc.1, ← g2, hlen], g3, fun _ j => S.getD j fun _ => 0, fun i y hy j l hj => ?_, fun y => ?_⟩
        · cases i with
          | zero =>
            simp only [List.getElem?_cons_zero, Option.some.injEq] at hy
            subst hy
            have hj' : (cellsT E x)[j]? = some l := hj
            rw [he] at hj'
            rw [Nat.zero_mul, Nat.zero_add]
            exact g5 j l hj'
          | succ i => simp at hy
        · rw [← g4 y, ← sumF_eq, g1, hlen]
          show 0 + sumN E.sz _ = _
          rw [Nat.zero_add]
      · cases h
    · cases h
  · cases h

theorem mkEs_ok {E : ETy} : ∀ {vs : List V} {us : List Value} {xs : Unit → List E.α} {ks : List Nat}, mkEs σ.blk E vs = some (xs, ks) → vs.length = us.length → (∀ (j : Nat) v u, vs[j]? = some v → us[j]? = some u → RV H ρ (dom σ.blk) v u) →
    (xs ()).length = us.length ∧ (∀ u ∈ us, u.cells.size = E.sz) ∧ (us.flatMap fun u => u.cells.toList).length = us.length * E.sz ∧ unlent σ.blk ks = true ∧
      ∃ S, Seg w.heap E (xs ()) (fun q => (us.flatMap fun u => u.cells.toList).getD q Go.undef) S ∧ ∀ y, segN us.length E.sz S y = sumK ρ ks y
  | [], us, xs, ks, h, hl, _ => by
    have : us = [] := List.length_eq_zero_iff.1 hl.symm
    subst this
    simp only [mkEs, Option.some.injEq, Prod.mk.injEq] at h
    obtain ⟨rfl, rfl⟩ := h
    exact ⟨rfl, fun u hu => by (cases hu), by simp, rfl, fun _ _ _ => 0, Seg.nil, fun y => rfl⟩
  | v :: vs, [], _, _, _, hl, _ => by simp at hl
  | v :: vs, u :: us, xs, ks, h, hl, hv => by
    unfold mkEs at h
    split at h
    · rename_i x k xs' ks' h1 h2
      cases h
      obtain ⟨g1, g2, S0, g3, g4⟩ := mkE_ok r h1 (hv 0 v u rfl rfl)
      obtain ⟨g5, g6, g7, g8, S, g9, g10⟩ := mkEs_ok h2 (by simpa using hl) fun j v u hj hj' => hv (j + 1) v u (by simpa using hj) (by simpa using hj')
      refine ⟨by simp [g5], fun y hy => ?_, by simp only [List.flatMap_cons, List.length_append, List.length_cons, g7, Array.length_toList, g1, Nat.add_mul]; omega, unlent_app g2 g8, glue 1 S0 S, ?_, fun y => ?_⟩
      · cases hy with
        | head => exact g1
        | tail _ hy => exact g6 y hy
      · have := (g3.glue g9)
        refine Seg.cells this fun q hq => ?_
        simp only [List.length_cons, List.length_nil, Nat.zero_add, Nat.one_mul, glue, List.flatMap_cons]
        by_cases h : q < E.sz
        · rw [if_pos h, List.getD_eq_getElem?_getD, List.getElem?_append_left (by simp [g1, h]), Array.getD_eq_getD_getElem?, Array.getElem?_toList]
        · rw [if_neg h, List.getD_eq_getElem?_getD, List.getElem?_append_right (by simp [g1]; omega), List.getD_eq_getElem?_getD]
          simp [g1]
      · rw [List.length_cons, Nat.add_comm, segN_glue, g4, g10, sumK_app]
    · cases h

end


/-! ### zeros -/

def zLf : Z → Lf
  | .i k => .int k fun _ => 0
  | .bo => .bool fun _ => false
  | .st => .str fun _ => []
  | .nl E => .list E fun _ => []
  | .un => .bool fun _ => false

theorem dflt_cells (E : ETy) : (cellsT E fun _ => E.dflt) = (zOf E).map zLf := by cases E <;> rfl

theorem Z.own {h : Array Obj} {z : Z} {v : Value} (hz : z.ok v = true) (hu : z ≠ .un) : OwnL h (zLf z) v fun _ => 0 := by
  cases z with
  | i k =>
    cases v <;> simp [Z.ok] at hz
    obtain ⟨rfl, rfl⟩ := hz
    exact OwnL.int (t := fun _ => 0) (IntKind.has_zero _)
  | bo => cases v <;> simp [Z.ok] at hz; subst hz; exact OwnL.bool (t := fun _ => false)
  | st =>
    cases v <;> simp [Z.ok] at hz
    subst hz
    exact OwnL.str (t := fun _ => []) (by simp [maxL])
  | nl E =>
    cases v with
    | slice a n c =>
      cases a with
      | none => cases n <;> cases c <;> first | exact OwnL.nil rfl | simp [Z.ok] at hz
      | some a => simp [Z.ok] at hz
    | _ => simp [Z.ok] at hz
  | un => exact (hu rfl).elim

theorem Z.oks_get : ∀ {zs : List Z} {vs : List Value} {j : Nat} {z : Z}, Z.oks zs vs = true → zs[j]? = some z → ∃ v, vs[j]? = some v ∧ z.ok v = true
  | [], _, j, z, _, h => by simp at h
  | z0 :: zs, [], j, z, h, _ => by simp [Z.oks] at h
  | z0 :: zs, v :: vs, j, z, h, hz => by
    simp only [Z.oks, Bool.and_eq_true] at h
    cases j with
    | zero => simp at hz; subst hz; exact ⟨v, rfl, h.1⟩
    | succ j => simp at hz; obtain ⟨u, h1, h2⟩ := Z.oks_get h.2 hz; exact ⟨u, by simpa using h1, h2⟩

theorem Z.oks_len : ∀ {zs : List Z} {vs : List Value}, Z.oks zs vs = true → vs.length = zs.length
  | [], [], _ => rfl
  | [], _ :: _, h => by simp [Z.oks] at h
  | _ :: _, [], h => by simp [Z.oks] at h
  | _ :: _, _ :: _, h => by
    simp only [Z.oks, Bool.and_eq_true] at h
    simp [Z.oks_len h.2]

theorem zOf_len (E : ETy) : (zOf E).length = E.sz := by cases E <;> rfl
theorem zOf_un (E : ETy) : ∀ z ∈ zOf E, z ≠ .un := by cases E <;> decide

theorem seg_zero {h : Array Obj} {E : ETy} {z : Value} (hz : Z.oks (zOf E) z.cells.toList = true) (n : Nat) :
    Seg h E (List.replicate n E.dflt) (fun q => (madeCells z.cells (n * E.sz)).getD (0 + q) Go.undef) fun _ _ _ => 0 := fun i x hx j l hj => by
  have hlen : z.cells.size = E.sz := by have := Z.oks_len hz; rw [zOf_len] at this; simpa using this
  have hi : i < n := by have := lt_of_get hx; simpa using this
  have hjl := cell_lt hj
  rw [List.getElem?_replicate, if_pos hi] at hx
  cases hx
  have hd : (cellsT E fun _ => E.dflt)[j]? = some l := hj
  rw [dflt_cells, List.getElem?_map, Option.map_eq_some_iff] at hd
  obtain ⟨zj, h1, rfl⟩ := hd
  obtain ⟨v, h2, h3⟩ := Z.oks_get hz h1
  have hq : i * E.sz + j < n * E.sz := cell_idx hi hjl
  have hmod : (i * E.sz + j) % z.cells.size = j := by rw [hlen, Nat.mul_comm, Nat.mul_add_mod, Nat.mod_eq_of_lt hjl]
  have : (madeCells z.cells (n * E.sz)).getD (0 + (i * E.sz + j)) Go.undef = v := by
    rw [Nat.zero_add, Array.getD_eq_getD_getElem?]
    unfold madeCells
    rw [Array.getElem?_map, Array.getElem?_range, if_pos hq]
    simp only [Option.map_some, Option.getD_some, hmod]
    rw [Array.getElem?_toList] at h2
    rw [getElem!_def, h2]
  show OwnL h _ ((madeCells z.cells (n * E.sz)).getD (0 + (i * E.sz + j)) Go.undef) _
  rw [this]
  exact Z.own h3 (zOf_un E zj (List.mem_of_getElem? h1))

end Go.Proofs.Ytnmdhpaobmjefaa
