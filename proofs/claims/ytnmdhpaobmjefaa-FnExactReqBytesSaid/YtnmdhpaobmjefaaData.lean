/-
  The plain data of the program (parties, entries, pins, cabins), how they lie in cells, and what it means that a value reads as such data, or owns it. No conditions.
-/
import Derived.WalkKit
import Derived.OrdersHeld
namespace Go.Proofs.Ytnmdhpaobmjefaa
open Go

structure Pin where
  tm : Int
  pid : Int
deriving DecidableEq, Inhabited

structure Entry where
  lvl : Int
  turn : Int
  eid : Int
  siz : Int
deriving DecidableEq, Inhabited

structure Party where
  id : Int
  cab : Int
  frm : Int
  siz : Int
  tier : Int
  since : Int
  turn : Int
  st : Int
  untl : Int
  asked : Int
deriving DecidableEq, Inhabited

structure Ledger where
  total : Int
  free : Int
  held : Int
  sold : Int
  tied : Int
deriving DecidableEq, Inhabited

structure Cabin where
  seats : Ledger
  row : List Entry
  spoke : List (List Pin)
deriving DecidableEq, Inhabited

structure Rules where
  seats : List Int
  tiers : Int
  room : Int
  size : Int
  period : Int
  window : Int
  rest : Int
  tries : Int
  crew : Int
deriving DecidableEq, Inhabited

structure House where
  rules : Rules
  now : Int
  turn : Int
  parties : List Party
  cabins : List Cabin
  todo : List Int
  jobs : List Int
deriving DecidableEq, Inhabited

structure Req where
  kind : Int
  id : Int
  cab : Int
  frm : Int
  siz : Int
  tier : Int
deriving DecidableEq, Inhabited

structure Reply where
  code : Int
  ids : List Int
deriving DecidableEq, Inhabited

/-- the types of a slice's elements -/
inductive ETy where
  | int | byte | str | pin | ent | pty | spk | cab | req | rep
deriving DecidableEq, Inhabited

@[reducible] def ETy.α : ETy → Type
  | .int => Int
  | .byte => UInt8
  | .str => List UInt8
  | .pin => Pin
  | .ent => Entry
  | .pty => Party
  | .spk => List Pin
  | .cab => Cabin
  | .req => Req
  | .rep => Reply

def ETy.dflt : (E : ETy) → E.α
  | .int => (0 : Int)
  | .byte => (0 : UInt8)
  | .str => ([] : List UInt8)
  | .pin => (default : Pin)
  | .ent => (default : Entry)
  | .pty => (default : Party)
  | .spk => ([] : List Pin)
  | .cab => (default : Cabin)
  | .req => (default : Req)
  | .rep => (default : Reply)

def ETy.sz : ETy → Nat
  | .int => 1
  | .byte => 1
  | .str => 1
  | .pin => 2
  | .ent => 4
  | .pty => 10
  | .spk => 1
  | .cab => 7
  | .req => 6
  | .rep => 2

/-- what one cell reads as; the values stand behind a function, so that no evaluation of a state looks into them -/
inductive Lf where
  | int (k : IntKind) (t : Unit → Int)
  | bool (t : Unit → Bool)
  | str (t : Unit → List UInt8)
  | list (E : ETy) (t : Unit → List E.α)

def cellsT : (E : ETy) → (Unit → E.α) → List Lf
  | .int, x => [.int .i64 x]
  | .byte, x => [.int .u8 fun _ => ((x ()).toNat : Int)]
  | .str, x => [.str x]
  | .pin, x => [.int .i64 fun _ => (x ()).tm, .int .i64 fun _ => (x ()).pid]
  | .ent, x => [.int .i64 fun _ => (x ()).lvl, .int .i64 fun _ => (x ()).turn, .int .i64 fun _ => (x ()).eid, .int .i64 fun _ => (x ()).siz]
  | .pty, x => [.int .i64 fun _ => (x ()).id, .int .i64 fun _ => (x ()).cab, .int .i64 fun _ => (x ()).frm, .int .i64 fun _ => (x ()).siz, .int .i64 fun _ => (x ()).tier,
      .int .i64 fun _ => (x ()).since, .int .i64 fun _ => (x ()).turn, .int .i64 fun _ => (x ()).st, .int .i64 fun _ => (x ()).untl, .int .i64 fun _ => (x ()).asked]
  | .spk, x => [.list .pin x]
  | .cab, x => [.int .i64 fun _ => (x ()).seats.total, .int .i64 fun _ => (x ()).seats.free, .int .i64 fun _ => (x ()).seats.held, .int .i64 fun _ => (x ()).seats.sold, .int .i64 fun _ => (x ()).seats.tied,
      .list .ent fun _ => (x ()).row, .list .spk fun _ => (x ()).spoke]
  | .req, x => [.int .i64 fun _ => (x ()).kind, .int .i64 fun _ => (x ()).id, .int .i64 fun _ => (x ()).cab, .int .i64 fun _ => (x ()).frm, .int .i64 fun _ => (x ()).siz, .int .i64 fun _ => (x ()).tier]
  | .rep, x => [.int .i64 fun _ => (x ()).code, .list .int fun _ => (x ()).ids]

theorem cellsT_len (E : ETy) (x : Unit → E.α) : (cellsT E x).length = E.sz := by cases E <;> rfl

theorem sz_pos (E : ETy) : 0 < E.sz := by cases E <;> decide

/-- no slice is longer than this: the greatest int -/
def maxL : Nat := 9223372036854775807

/-- A cell's value reads as this, in memory that is known to be H. -/
inductive RL (H : Nat → Option Obj) : Lf → Value → Prop where
  | int {k : IntKind} {t : Unit → Int} (h : k.has (t ())) : RL H (.int k t) (.int k (t ()))
  | bool {t : Unit → Bool} : RL H (.bool t) (.bool (t ()))
  | str {t : Unit → List UInt8} (hm : (t ()).length ≤ maxL) : RL H (.str t) (.string ⟨(t ()).toArray⟩)
  | nil {E : ETy} {t : Unit → List E.α} {a : Option Addr} {c : Nat} (h : t () = []) : RL H (.list E t) (.slice a 0 c)
  | list {E : ETy} {t : Unit → List E.α} {b off c : Nat} {cs : Array Value} {e : TypeId} {fz : Nat × Nat} (hb : H b = some (.cells cs e fz))
      (hl : (t ()).length ≤ c) (hm : (t ()).length ≤ maxL) (ho : off + (t ()).length * E.sz ≤ cs.size)
      (hc : ∀ i x, (t ())[i]? = some x → ∀ j l, (cellsT E fun _ => x)[j]? = some l → RL H l (cs.getD (off + i * E.sz + j) undef)) :
      RL H (.list E t) (.slice (some ⟨b, off, none⟩) (t ()).length c)

/-- sum of f over the numbers below n -/
def sumN : Nat → (Nat → Nat) → Nat
  | 0, _ => 0
  | n + 1, f => sumN n f + f n

theorem sumN_pos {n : Nat} {f : Nat → Nat} {i : Nat} (hi : i < n) : f i ≤ sumN n f := by
  induction n with
  | zero => omega
  | succ n ih =>
    simp only [sumN]
    by_cases h : i = n
    · subst h; omega
    · have := ih (by omega); omega

theorem sumN_zero {n : Nat} {f : Nat → Nat} (h : ∀ i, i < n → f i = 0) : sumN n f = 0 := by
  induction n with
  | zero => rfl
  | succ n ih => simp only [sumN]; rw [ih fun i hi => h i (by omega), h n (by omega)]

theorem sumN_exists {n : Nat} {f : Nat → Nat} (h : 0 < sumN n f) : ∃ i, i < n ∧ 0 < f i := by
  induction n with
  | zero => simp [sumN] at h
  | succ n ih =>
    simp only [sumN] at h
    by_cases h0 : 0 < f n
    · exact ⟨n, by omega, h0⟩
    · obtain ⟨i, hi, hf⟩ := ih (by omega); exact ⟨i, by omega, hf⟩

theorem sumN_congr {n : Nat} {f g : Nat → Nat} (h : ∀ i, i < n → f i = g i) : sumN n f = sumN n g := by
  induction n with
  | zero => rfl
  | succ n ih => simp only [sumN]; rw [ih fun i hi => h i (by omega), h n (by omega)]

theorem sumN_le {n : Nat} {f g : Nat → Nat} (h : ∀ i, i < n → f i ≤ g i) : sumN n f ≤ sumN n g := by
  induction n with
  | zero => exact Nat.le_refl _
  | succ n ih => simp only [sumN]; have := ih fun i hi => h i (by omega); have := h n (by omega); omega

/-- one summand is another -/
theorem sumN_set {n : Nat} {f g : Nat → Nat} {i : Nat} (hi : i < n) (h : ∀ j, j ≠ i → f j = g j) : sumN n f + g i = sumN n g + f i := by
  induction n with
  | zero => omega
  | succ n ih =>
    simp only [sumN]
    by_cases h0 : i = n
    · subst h0
      rw [sumN_congr (f := f) (g := g) fun j hj => h j (by omega)]
      omega
    · have := ih (by omega)
      rw [h n (by omega)]
      omega

/-- a block's cells may all be written -/
def NF (cs : Array Value) (fz : Nat × Nat) : Prop := fz.2 ≤ fz.1 ∨ cs.size ≤ fz.1

/-- what the blocks of a slice are counted by -/
def cnt (b n sz : Nat) (S : Nat → Nat → Nat → Nat) : Nat → Nat := fun x => (if x = b then 1 else 0) + sumN n fun i => sumN sz fun j => S i j x

/-- A cell's value reads as this, and owns the blocks that S counts. -/
inductive OwnL (h : Array Obj) : Lf → Value → (Nat → Nat) → Prop where
  | int {k : IntKind} {t : Unit → Int} (hr : k.has (t ())) : OwnL h (.int k t) (.int k (t ())) fun _ => 0
  | bool {t : Unit → Bool} : OwnL h (.bool t) (.bool (t ())) fun _ => 0
  | str {t : Unit → List UInt8} (hm : (t ()).length ≤ maxL) : OwnL h (.str t) (.string ⟨(t ()).toArray⟩) fun _ => 0
  | nil {E : ETy} {t : Unit → List E.α} (h0 : t () = []) : OwnL h (.list E t) (.slice none 0 0) fun _ => 0
  | list {E : ETy} {t : Unit → List E.α} {b off c : Nat} {cs : Array Value} {e : TypeId} {fz : Nat × Nat} (S : Nat → Nat → Nat → Nat) (hb : h[b]? = some (.cells cs e fz)) (hf : NF cs fz)
      (hl : (t ()).length ≤ c) (hm : (t ()).length ≤ maxL) (ho : off + c * E.sz ≤ cs.size)
      (hc : ∀ i x, (t ())[i]? = some x → ∀ j l, (cellsT E fun _ => x)[j]? = some l → OwnL h l (cs.getD (off + i * E.sz + j) undef) (S i j)) :
      OwnL h (.list E t) (.slice (some ⟨b, off, none⟩) (t ()).length c) (cnt b (t ()).length E.sz S)

theorem cnt_top (b n sz : Nat) (S : Nat → Nat → Nat → Nat) : 0 < cnt b n sz S b := by simp [cnt]; omega

theorem cnt_in {b n sz : Nat} {S : Nat → Nat → Nat → Nat} {i j x : Nat} (hi : i < n) (hj : j < sz) : S i j x ≤ cnt b n sz S x := by
  have h1 := sumN_pos (f := fun j => S i j x) hj
  have h2 := sumN_pos (f := fun i => sumN sz fun j => S i j x) hi
  simp only [cnt]
  exact Nat.le_trans h1 (Nat.le_trans h2 (Nat.le_add_left _ _))

theorem cnt_cases {b n sz : Nat} {S : Nat → Nat → Nat → Nat} {x : Nat} (h : 0 < cnt b n sz S x) : x = b ∨ ∃ i j, i < n ∧ j < sz ∧ 0 < S i j x := by
  simp only [cnt] at h
  by_cases hx : x = b
  · exact .inl hx
  · simp only [hx, if_false] at h
    obtain ⟨i, hi, h1⟩ := sumN_exists (n := n) (by omega : 0 < sumN n fun i => sumN sz fun j => S i j x)
    obtain ⟨j, hj, h2⟩ := sumN_exists h1
    exact .inr ⟨i, j, hi, hj, h2⟩

theorem lt_of_get {α : Type} {l : List α} {i : Nat} {x : α} (h : l[i]? = some x) : i < l.length := by
  rcases Nat.lt_or_ge i l.length with h' | h'
  · exact h'
  · rw [List.getElem?_eq_none h'] at h; cases h

theorem OwnL.mono {h h' : Array Obj} {l : Lf} {v : Value} {S : Nat → Nat} (ho : OwnL h l v S) : (∀ b, 0 < S b → h'[b]? = h[b]?) → OwnL h' l v S := by
  induction ho with
  | int hr => exact fun _ => .int hr
  | bool => exact fun _ => .bool
  | str hm => exact fun _ => .str hm
  | nil h0 => exact fun _ => .nil h0
  | list S hb hf hl hm ho hc ih =>
    intro hk
    refine .list S (by rw [hk _ (cnt_top _ _ _ _)]; exact hb) hf hl hm ho fun i x hx j l hj => ih i x hx j l hj fun b h0 => hk b ?_
    exact Nat.lt_of_lt_of_le h0 (cnt_in (lt_of_get hx) (by have := lt_of_get hj; rwa [cellsT_len] at this))

theorem OwnL.rl {h : Array Obj} {H : Nat → Option Obj} {l : Lf} {v : Value} {S : Nat → Nat} (ho : OwnL h l v S) : (∀ b, 0 < S b → H b = h[b]?) → RL H l v := by
  induction ho with
  | int hr => exact fun _ => .int hr
  | bool => exact fun _ => .bool
  | str hm => exact fun _ => .str hm
  | nil h0 => exact fun _ => .nil h0
  | list S hb hf hl hm ho hc ih =>
    intro hk
    refine .list (by rw [hk _ (cnt_top _ _ _ _)]; exact hb) hl hm (Nat.le_trans ?_ ho) fun i x hx j l hj => ih i x hx j l hj fun b h0 => hk b ?_
    · exact Nat.add_le_add_left (Nat.mul_le_mul_right _ hl) _
    · exact Nat.lt_of_lt_of_le h0 (cnt_in (lt_of_get hx) (by have := lt_of_get hj; rwa [cellsT_len] at this))

theorem RL.mono {H H' : Nat → Option Obj} {l : Lf} {v : Value} (hr : RL H l v) (hk : ∀ b o, H b = some o → H' b = some o) : RL H' l v := by
  induction hr with
  | int hr => exact .int hr
  | bool => exact .bool
  | str hm => exact .str hm
  | nil h0 => exact .nil h0
  | list hb hl hm ho hc ih => exact .list (hk _ _ hb) hl hm ho ih

theorem OwnL.there {h : Array Obj} {l : Lf} {v : Value} {S : Nat → Nat} (ho : OwnL h l v S) : ∀ b, 0 < S b → ∃ cs e fz, h[b]? = some (.cells cs e fz) := by
  induction ho with
  | int hr => intro b h0; simp at h0
  | bool => intro b h0; simp at h0
  | str hm => intro b h0; simp at h0
  | nil _ => intro b h0; simp at h0
  | list S hb hf hl hm ho hc ih =>
    intro x h0
    rcases cnt_cases h0 with rfl | ⟨i, j, hi, hj, h1⟩
    · exact ⟨_, _, _, hb⟩
    · obtain ⟨y, hy⟩ : ∃ y, (_ : List _)[i]? = some y := ⟨_, List.getElem?_eq_getElem hi⟩
      obtain ⟨l, hl⟩ : ∃ l, (cellsT _ fun _ => y)[j]? = some l := ⟨_, List.getElem?_eq_getElem (by rw [cellsT_len]; exact hj)⟩
      exact ih i y hy j l hl x h1

end Go.Proofs.Ytnmdhpaobmjefaa
