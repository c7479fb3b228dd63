/- Parts of a proof. No conditions. -/

import Derived.WalkKit
import Derived.OrdersHeld
set_option linter.unusedSimpArgs false
set_option linter.unusedVariables false
namespace Go.Proofs.Ytlochjpjlhkjaaa
open Go
structure Pin where
  tm : Int
  pid : Int
deriving DecidableEq, Inhabited
structure Entry where
  lvl : Int
  turn : Int
  eid : Int
  siz : Int
deriving DecidableEq, Inhabited
structure Party where
  id : Int
  cab : Int
  frm : Int
  siz : Int
  tier : Int
  since : Int
  turn : Int
  st : Int
  untl : Int
  asked : Int
deriving DecidableEq, Inhabited
structure Ledger where
  total : Int
  free : Int
  held : Int
  sold : Int
  tied : Int
deriving DecidableEq, Inhabited
structure Cabin where
  seats : Ledger
  row : List Entry
  spoke : List (List Pin)
deriving DecidableEq, Inhabited
structure Rules where
  seats : List Int
  tiers : Int
  room : Int
  size : Int
  period : Int
  window : Int
  rest : Int
  tries : Int
  crew : Int
deriving DecidableEq, Inhabited
structure House where
  rules : Rules
  now : Int
  turn : Int
  parties : List Party
  cabins : List Cabin
  todo : List Int
  jobs : List Int
deriving DecidableEq, Inhabited
structure Req where
  kind : Int
  id : Int
  cab : Int
  frm : Int
  siz : Int
  tier : Int
deriving DecidableEq, Inhabited
structure Reply where
  code : Int
  ids : List Int
deriving DecidableEq, Inhabited
inductive ETy where
  | int | byte | str | pin | ent | pty | spk | cab | req | rep
deriving DecidableEq, Inhabited
@[reducible] def ETy.α : ETy → Type
  | .int => Int
  | .byte => UInt8
  | .str => List UInt8
  | .pin => Pin
  | .ent => Entry
  | .pty => Party
  | .spk => List Pin
  | .cab => Cabin
  | .req => Req
  | .rep => Reply
def ETy.dflt : (E : ETy) → E.α
  | .int => (0 : Int)
  | .byte => (0 : UInt8)
  | .str => ([] : List UInt8)
  | .pin => (default : Pin)
  | .ent => (default : Entry)
  | .pty => (default : Party)
  | .spk => ([] : List Pin)
  | .cab => (default : Cabin)
  | .req => (default : Req)
  | .rep => (default : Reply)
def ETy.sz : ETy → Nat
  | .int => 1
  | .byte => 1
  | .str => 1
  | .pin => 2
  | .ent => 4
  | .pty => 10
  | .spk => 1
  | .cab => 7
  | .req => 6
  | .rep => 2
inductive Lf where
  | int (k : IntKind) (t : Unit → Int)
  | bool (t : Unit → Bool)
  | str (t : Unit → List UInt8)
  | list (E : ETy) (t : Unit → List E.α)
def cellsT : (E : ETy) → (Unit → E.α) → List Lf
  | .int, x => [.int .i64 x]
  | .byte, x => [.int .u8 fun _ => ((x ()).toNat : Int)]
  | .str, x => [.str x]
  | .pin, x => [.int .i64 fun _ => (x ()).tm, .int .i64 fun _ => (x ()).pid]
  | .ent, x => [.int .i64 fun _ => (x ()).lvl, .int .i64 fun _ => (x ()).turn, .int .i64 fun _ => (x ()).eid, .int .i64 fun _ => (x ()).siz]
  | .pty, x => [.int .i64 fun _ => (x ()).id, .int .i64 fun _ => (x ()).cab, .int .i64 fun _ => (x ()).frm, .int .i64 fun _ => (x ()).siz, .int .i64 fun _ => (x ()).tier,
      .int .i64 fun _ => (x ()).since, .int .i64 fun _ => (x ()).turn, .int .i64 fun _ => (x ()).st, .int .i64 fun _ => (x ()).untl, .int .i64 fun _ => (x ()).asked]
  | .spk, x => [.list .pin x]
  | .cab, x => [.int .i64 fun _ => (x ()).seats.total, .int .i64 fun _ => (x ()).seats.free, .int .i64 fun _ => (x ()).seats.held, .int .i64 fun _ => (x ()).seats.sold, .int .i64 fun _ => (x ()).seats.tied,
      .list .ent fun _ => (x ()).row, .list .spk fun _ => (x ()).spoke]
  | .req, x => [.int .i64 fun _ => (x ()).kind, .int .i64 fun _ => (x ()).id, .int .i64 fun _ => (x ()).cab, .int .i64 fun _ => (x ()).frm, .int .i64 fun _ => (x ()).siz, .int .i64 fun _ => (x ()).tier]
  | .rep, x => [.int .i64 fun _ => (x ()).code, .list .int fun _ => (x ()).ids]
theorem cellsT_len (E : ETy) (x : Unit → E.α) : (cellsT E x).length = E.sz := by cases E <;> rfl
theorem sz_pos (E : ETy) : 0 < E.sz := by cases E <;> decide
def maxL : Nat := 9223372036854775807
inductive RL (H : Nat → Option Obj) : Lf → Value → Prop where
  | int {k : IntKind} {t : Unit → Int} (h : k.has (t ())) : RL H (.int k t) (.int k (t ()))
  | bool {t : Unit → Bool} : RL H (.bool t) (.bool (t ()))
  | str {t : Unit → List UInt8} (hm : (t ()).length ≤ maxL) : RL H (.str t) (.string ⟨(t ()).toArray⟩)
  | nil {E : ETy} {t : Unit → List E.α} {a : Option Addr} {c : Nat} (h : t () = []) : RL H (.list E t) (.slice a 0 c)
  | list {E : ETy} {t : Unit → List E.α} {b off c : Nat} {cs : Array Value} {e : TypeId} {fz : Nat × Nat} (hb : H b = some (.cells cs e fz))
      (hl : (t ()).length ≤ c) (hm : (t ()).length ≤ maxL) (ho : off + (t ()).length * E.sz ≤ cs.size)
      (hc : ∀ i x, (t ())[i]? = some x → ∀ j l, (cellsT E fun _ => x)[j]? = some l → RL H l (cs.getD (off + i * E.sz + j) undef)) :
      RL H (.list E t) (.slice (some ⟨b, off, none⟩) (t ()).length c)
def sumN : Nat → (Nat → Nat) → Nat
  | 0, _ => 0
  | n + 1, f => sumN n f + f n
theorem sumN_pos {n : Nat} {f : Nat → Nat} {i : Nat} (hi : i < n) : f i ≤ sumN n f := by
  induction n with
  | zero => omega
  | succ n ih =>
    simp only [sumN]
    by_cases h : i = n
    · subst h; omega
    · have := ih (by omega); omega
theorem sumN_zero {n : Nat} {f : Nat → Nat} (h : ∀ i, i < n → f i = 0) : sumN n f = 0 := by
  induction n with
  | zero => rfl
  | succ n ih => simp only [sumN]; rw [ih fun i hi => h i (by omega), h n (by omega)]
theorem sumN_exists {n : Nat} {f : Nat → Nat} (h : 0 < sumN n f) : ∃ i, i < n ∧ 0 < f i := by
  induction n with
  | zero => simp [sumN] at h
  | succ n ih =>
    simp only [sumN] at h
    by_cases h0 : 0 < f n
    · exact ⟨n, by omega, h0⟩
    · obtain ⟨i, hi, hf⟩ := ih (by omega); exact ⟨i, by omega, hf⟩
theorem sumN_congr {n : Nat} {f g : Nat → Nat} (h : ∀ i, i < n → f i = g i) : sumN n f = sumN n g := by
  induction n with
  | zero => rfl
  | succ n ih => simp only [sumN]; rw [ih fun i hi => h i (by omega), h n (by omega)]
theorem sumN_le {n : Nat} {f g : Nat → Nat} (h : ∀ i, i < n → f i ≤ g i) : sumN n f ≤ sumN n g := by
  induction n with
  | zero => exact Nat.le_refl _
  | succ n ih => simp only [sumN]; have := ih fun i hi => h i (by omega); have := h n (by omega); omega
theorem sumN_set {n : Nat} {f g : Nat → Nat} {i : Nat} (hi : i < n) (h : ∀ j, j ≠ i → f j = g j) : sumN n f + g i = sumN n g + f i := by
  induction n with
  | zero => omega
  | succ n ih =>
    simp only [sumN]
    by_cases h0 : i = n
    · subst h0
      rw [sumN_congr (f := f) (g := g) fun j hj => h j (by omega)]
      omega
    · have := ih (by omega)
      rw [h n (by omega)]
      omega
def NF (cs : Array Value) (fz : Nat × Nat) : Prop := fz.2 ≤ fz.1 ∨ (fz.2 ≤ fz.1 ∧ cs.size ≤ fz.1)
def cnt (b n sz : Nat) (S : Nat → Nat → Nat → Nat) : Nat → Nat := fun x => (if x = b then 1 else 0) + sumN n fun i => sumN sz fun j => S i j x
inductive OwnL (h : Array Obj) : Lf → Value → (Nat → Nat) → Prop where
  | int {k : IntKind} {t : Unit → Int} (hr : k.has (t ())) : OwnL h (.int k t) (.int k (t ())) fun _ => 0
  | bool {t : Unit → Bool} : OwnL h (.bool t) (.bool (t ())) fun _ => 0
  | str {t : Unit → List UInt8} (hm : (t ()).length ≤ maxL) : OwnL h (.str t) (.string ⟨(t ()).toArray⟩) fun _ => 0
  | nil {E : ETy} {t : Unit → List E.α} (h0 : t () = []) : OwnL h (.list E t) (.slice none 0 0) fun _ => 0
  | list {E : ETy} {t : Unit → List E.α} {b off c : Nat} {cs : Array Value} {e : TypeId} {fz : Nat × Nat} (S : Nat → Nat → Nat → Nat) (hb : h[b]? = some (.cells cs e fz)) (hf : NF cs fz)
      (hl : (t ()).length ≤ c) (hm : (t ()).length ≤ maxL) (ho : off + c * E.sz ≤ cs.size)
      (hc : ∀ i x, (t ())[i]? = some x → ∀ j l, (cellsT E fun _ => x)[j]? = some l → OwnL h l (cs.getD (off + i * E.sz + j) undef) (S i j)) :
      OwnL h (.list E t) (.slice (some ⟨b, off, none⟩) (t ()).length c) (cnt b (t ()).length E.sz S)
theorem cnt_top (b n sz : Nat) (S : Nat → Nat → Nat → Nat) : 0 < cnt b n sz S b := by simp [cnt]; omega
theorem cnt_in {b n sz : Nat} {S : Nat → Nat → Nat → Nat} {i j x : Nat} (hi : i < n) (hj : j < sz) : S i j x ≤ cnt b n sz S x := by
  have h1 := sumN_pos (f := fun j => S i j x) hj
  have h2 := sumN_pos (f := fun i => sumN sz fun j => S i j x) hi
  simp only [cnt]
  exact Nat.le_trans h1 (Nat.le_trans h2 (Nat.le_add_left _ _))
theorem cnt_cases {b n sz : Nat} {S : Nat → Nat → Nat → Nat} {x : Nat} (h : 0 < cnt b n sz S x) : x = b ∨ ∃ i j, i < n ∧ j < sz ∧ 0 < S i j x := by
  simp only [cnt] at h
  by_cases hx : x = b
  · exact .inl hx
  · simp only [hx, if_false] at h
    obtain ⟨i, hi, h1⟩ := sumN_exists (n := n) (by omega : 0 < sumN n fun i => sumN sz fun j => S i j x)
    obtain ⟨j, hj, h2⟩ := sumN_exists h1
    exact .inr ⟨i, j, hi, hj, h2⟩
theorem lt_of_get {α : Type} {l : List α} {i : Nat} {x : α} (h : l[i]? = some x) : i < l.length := by
  rcases Nat.lt_or_ge i l.length with h' | h'
  · exact h'
  · rw [List.getElem?_eq_none h'] at h; cases h
theorem OwnL.mono {h h' : Array Obj} {l : Lf} {v : Value} {S : Nat → Nat} (ho : OwnL h l v S) : (∀ b, 0 < S b → h'[b]? = h[b]?) → OwnL h' l v S := by
  induction ho with
  | int hr => exact fun _ => .int hr
  | bool => exact fun _ => .bool
  | str hm => exact fun _ => .str hm
  | nil h0 => exact fun _ => .nil h0
  | list S hb hf hl hm ho hc ih =>
    intro hk
    refine .list S (by rw [hk _ (cnt_top _ _ _ _)]; exact hb) hf hl hm ho fun i x hx j l hj => ih i x hx j l hj fun b h0 => hk b ?_
    exact Nat.lt_of_lt_of_le h0 (cnt_in (lt_of_get hx) (by have := lt_of_get hj; rwa [cellsT_len] at this))
theorem OwnL.rl {h : Array Obj} {H : Nat → Option Obj} {l : Lf} {v : Value} {S : Nat → Nat} (ho : OwnL h l v S) : (∀ b, 0 < S b → H b = h[b]?) → RL H l v := by
  induction ho with
  | int hr => exact fun _ => .int hr
  | bool => exact fun _ => .bool
  | str hm => exact fun _ => .str hm
  | nil h0 => exact fun _ => .nil h0
  | list S hb hf hl hm ho hc ih =>
    intro hk
    refine .list (by rw [hk _ (cnt_top _ _ _ _)]; exact hb) hl hm (Nat.le_trans ?_ ho) fun i x hx j l hj => ih i x hx j l hj fun b h0 => hk b ?_
    · exact Nat.add_le_add_left (Nat.mul_le_mul_right _ hl) _
    · exact Nat.lt_of_lt_of_le h0 (cnt_in (lt_of_get hx) (by have := lt_of_get hj; rwa [cellsT_len] at this))
theorem RL.mono {H H' : Nat → Option Obj} {l : Lf} {v : Value} (hr : RL H l v) (hk : ∀ b o, H b = some o → H' b = some o) : RL H' l v := by
  induction hr with
  | int hr => exact .int hr
  | bool => exact .bool
  | str hm => exact .str hm
  | nil h0 => exact .nil h0
  | list hb hl hm ho hc ih => exact .list (hk _ _ hb) hl hm ho ih
theorem OwnL.there {h : Array Obj} {l : Lf} {v : Value} {S : Nat → Nat} (ho : OwnL h l v S) : ∀ b, 0 < S b → ∃ cs e fz, h[b]? = some (.cells cs e fz) := by
  induction ho with
  | int hr => intro b h0; simp at h0
  | bool => intro b h0; simp at h0
  | str hm => intro b h0; simp at h0
  | nil _ => intro b h0; simp at h0
  | list S hb hf hl hm ho hc ih =>
    intro x h0
    rcases cnt_cases h0 with rfl | ⟨i, j, hi, hj, h1⟩
    · exact ⟨_, _, _, hb⟩
    · obtain ⟨y, hy⟩ : ∃ y, (_ : List _)[i]? = some y := ⟨_, List.getElem?_eq_getElem hi⟩
      obtain ⟨l, hl⟩ : ∃ l, (cellsT _ fun _ => y)[j]? = some l := ⟨_, List.getElem?_eq_getElem (by rw [cellsT_len]; exact hj)⟩
      exact ih i y hy j l hl x h1
end Go.Proofs.Ytlochjpjlhkjaaa
namespace Go.Proofs.Ytlochjpjlhkjaaa
open Go
def midx : List (Int × Int) → Int → Option Nat
  | [], _ => none
  | p :: r, k => if k = p.1 then some 0 else (midx r k).map (· + 1)
def mget : List (Int × Int) → Int → Int
  | [], _ => 0
  | p :: r, k => if k = p.1 then p.2 else mget r k
def mput : List (Int × Int) → Int → Int → List (Int × Int)
  | [], k, v => [(k, v)]
  | p :: r, k, v => if k = p.1 then (p.1, v) :: r else p :: mput r k v
def kvs (m : List (Int × Int)) : List (Value × Value) := m.map fun p => (.int .i64 p.1, .int .i64 p.2)
def ekv (es : List MapEntry) : List (Value × Value) := es.map fun e => (e.key, e.val)
theorem find_now {kk : IntKind} (k : Int) : ∀ (m : List (Int × Int)) (es : List MapEntry) (i : Nat), ekv es = kvs m →
    Instr.findNow (.int kk) (.int .i64 k) es i = some (match midx m k with | some j => some (i + j, .int .i64 (mget m k)) | none => none)
  | [], es, i, h => by
    have : es = [] := by simpa [ekv, kvs] using h
    subst this; rfl
  | p :: m, es, i, h => by
    cases es with
    | nil => simp [ekv, kvs] at h
    | cons e es =>
      simp only [ekv, kvs, List.map_cons, List.cons.injEq, Prod.mk.injEq] at h
      obtain ⟨⟨h1, h2⟩, h3⟩ := h
      have ih := find_now (kk := kk) k m es (i + 1) h3
      simp only [Instr.findNow, Instr.sameNow, h1, h2, if_true]
      by_cases hk : k = p.1
      · subst hk; simp [midx, mget]
      · simp only [midx, mget, if_neg hk, show (k == p.1) = false by simpa using hk]
        rw [ih]
        cases midx m k with
        | none => rfl
        | some j => simp; omega
theorem midx_none : ∀ {m : List (Int × Int)} {k v : Int}, midx m k = none → mput m k v = m ++ [(k, v)] ∧ mget m k = 0
  | [], _, _, _ => ⟨rfl, rfl⟩
  | p :: m, k, v, h => by
    simp only [midx] at h
    split at h
    · cases h
    · rename_i hk
      have := midx_none (m := m) (k := k) (v := v) (by simpa using h)
      simp [mput, mget, if_neg hk, this]
theorem midx_some : ∀ {m : List (Int × Int)} {k v : Int} {j : Nat}, midx m k = some j → m[j]? = some (k, mget m k) ∧ mput m k v = m.set j (k, v)
  | [], _, _, _, h => by simp [midx] at h
  | p :: m, k, v, j, h => by
    simp only [midx] at h
    split at h
    · rename_i hk
      cases h; subst hk
      simp [mget, mput]
    · rename_i hk
      simp only [Option.map_eq_some_iff] at h
      obtain ⟨i, hi, rfl⟩ := h
      have := midx_some (m := m) (k := k) (v := v) hi
      simp [mput, mget, if_neg hk, this]
structure MapR (m : List (Int × Int)) (es : Array MapEntry) : Prop where
  kv : ekv es.toList = kvs m
  le : m.length ≤ 9223372036854775807
  has : ∀ p ∈ m, IntKind.i64.has p.2
theorem MapR.size {m : List (Int × Int)} {es : Array MapEntry} (h : MapR m es) : es.size = m.length := by
  have := congrArg List.length h.kv
  simpa [ekv, kvs] using this
theorem MapR.get {m : List (Int × Int)} {es : Array MapEntry} (h : MapR m es) (k : Int) : IntKind.i64.has (mget m k) := by
  cases hi : midx m k with
  | none => rw [(midx_none (v := 0) hi).2]; simp [IntKind.has, IntKind.min, IntKind.max, IntKind.signed, IntKind.bits]
  | some j => exact h.has _ (List.mem_of_getElem? (midx_some (v := 0) hi).1)
section
variable {P : Program} {T kt et : TypeId} {kk : IntKind}
theorem run_checkKey (hk : P.underlying kt = some (.int kk)) (e : Bool) (w : World) (n : Nat) (k : Int) : (Instr.checkKey e (n + 1) kt (.int .i64 k)).run P w = .ok () w := by
  unfold Instr.checkKey
  simp only [Sem.run_bind, run_underlying hk, Result.andThen_ok, Sem.run_pure]
theorem run_findKey (hk : P.underlying kt = some (.int kk)) (w : World) {es : Array MapEntry} {m : List (Int × Int)} (hm : MapR m es) (k : Int) :
    (Instr.findKey kt (.int .i64 k) es.toList).run P w = .ok (match midx m k with | some j => some (j, .int .i64 (mget m k)) | none => none) w := by
  have hf := find_now (kk := kk) k m es.toList 0 hm.kv
  simp only [Instr.findKey, Sem.run_bind, run_underlying hk, Result.andThen_ok, hf]
  cases midx m k <;> simp
theorem run_lookup {w : World} {b : Nat} {es : Array MapEntry} {c : Nat} {m : List (Int × Int)} (hT : P.underlying T = some (.map kt et)) (hk : P.underlying kt = some (.int kk)) {ei : TypeInfo} (he : P.info? et = some ei)
    (hz : ei.zero = some (.int .i64 0)) (hb : w.heap[b]? = some (.map es c)) (hm : MapR m es) (k : Int) :
    (Instr.lookup T (.map (some b)) (.int .i64 k) false).run P w = .ok (.int .i64 (mget m k)) w := by
  have hg : (getObj b).run P w = .ok (.map es c) w := by simp [getObj, Sem.run, hb]
  have h0 : (zeroValue et).run P w = .ok (.int .i64 0) w := by simp [zeroValue, typeInfo, he, hz]
  unfold Instr.lookup
  have hc := run_checkKey hk es.isEmpty w 9999 k
  simp only [Nat.reduceAdd] at hc
  simp only [Sem.run_bind, run_underlying hT, Result.andThen_ok, hg, Sem.run_pure, hc, run_findKey hk w hm]
  cases hi : midx m k with
  | none => simp [(midx_none (v := 0) hi).2, h0]
  | some j => simp
theorem run_mapUpdate {w : World} {b : Nat} {es : Array MapEntry} {c : Nat} {m : List (Int × Int)} (hT : P.underlying T = some (.map kt et)) (hk : P.underlying kt = some (.int kk))
    (hb : w.heap[b]? = some (.map es c)) (hm : MapR m es) (k v : Int) (hv : IntKind.i64.has v) (hl : m.length < 9223372036854775807) :
    ∃ es' c', (Instr.mapUpdate T (.map (some b)) (.int .i64 k) (.int .i64 v)).run P w = .ok () { w with heap := w.heap.setIfInBounds b (.map es' c') } ∧ MapR (mput m k v) es' := by
  have hg : (getObj b).run P w = .ok (.map es c) w := by simp [getObj, Sem.run, hb]
  have hs : ∀ o, (setObj b o).run P w = .ok () { w with heap := w.heap.setIfInBounds b o } := fun o => by simp [setObj, Sem.run, hb]
  have hc := run_checkKey hk false w 9999 k
  simp only [Nat.reduceAdd] at hc
  have hf := run_findKey hk w hm k
  cases hi : midx m k with
  | none =>
    refine ⟨es.push { key := .int .i64 k, val := .int .i64 v, born := c }, c + 1, ?_, ?_⟩
    · simp only [hi] at hf
      unfold Instr.mapUpdate
      simp only [Sem.run_bind, run_underlying hT, Result.andThen_ok, hg, hc, hf, hs]
    · have h1 := (midx_none (v := v) hi).1
      refine ⟨?_, by rw [h1]; simp; omega, fun p hp => ?_⟩
      · have := hm.kv
        rw [h1]
        simp only [ekv, kvs, Array.toList_push, List.map_append, List.map_cons, List.map_nil] at this ⊢
        rw [this]
      · rw [h1] at hp
        rcases List.mem_append.1 hp with hp | hp
        · exact hm.has p hp
        · cases List.mem_singleton.1 hp; exact hv
  | some j =>
    obtain ⟨h1, h2⟩ := midx_some (v := v) hi
    have hj : es[j]? = some (es[j]?.getD default) ∧ (es[j]?.getD default).key = .int .i64 k := by
      have h3 := congrArg (fun l => l[j]?) hm.kv
      simp only [ekv, kvs, List.getElem?_map, h1, Option.map_some] at h3
      rw [Array.getElem?_toList] at h3
      cases h4 : es[j]? with
      | none => rw [h4] at h3; simp at h3
      | some e => rw [h4] at h3; simp at h3; simp [h3]
    refine ⟨es.modify j fun e => { e with key := .int .i64 k, val := .int .i64 v }, c, ?_, ?_⟩
    · simp only [hi] at hf
      have hkey : ((es[j]?).map (·.key)).getD (.int .i64 k) = .int .i64 k := by rw [hj.1]; simp [hj.2]
      have hks : (Instr.keyThatStays (.int .i64 k) (.int .i64 k)).run P w = .ok (.int .i64 k) w := by
        simp [Instr.keyThatStays, Instr.sameBits]
      unfold Instr.mapUpdate
      simp only [Sem.run_bind, run_underlying hT, Result.andThen_ok, hg, hc, hf, hkey, hks, hs]
    · refine ⟨?_, by rw [h2]; simpa using hm.le, fun p hp => ?_⟩
      · have := hm.kv
        rw [h2]
        apply List.ext_getElem?
        intro i
        have h5 := congrArg (fun l => l[i]?) this
        simp only [ekv, kvs, List.getElem?_map, Array.getElem?_toList] at h5
        simp only [ekv, kvs, List.getElem?_map, Array.getElem?_toList, Array.getElem?_modify, List.getElem?_set]
        by_cases hij : j = i
        · subst hij
          have hlt : j < m.length := by
            rcases Nat.lt_or_ge j m.length with h | h
            · exact h
            · rw [List.getElem?_eq_none h] at h1; cases h1
          rw [if_pos rfl, if_pos rfl, if_pos hlt, hj.1]
          simp
        · rw [if_neg hij, if_neg hij]; exact h5
      · rw [h2] at hp
        rcases List.mem_or_eq_of_mem_set hp with hp | rfl
        · exact hm.has p hp
        · exact hv
end
end Go.Proofs.Ytlochjpjlhkjaaa
namespace Go.Proofs.Ytlochjpjlhkjaaa
open Go
inductive Cp where
  | ptr (k off : Nat)
  | el (E : ETy) (x : Unit → E.α) (off : Nat)
  | pcs (ls : List Lf) (off : Nat)
inductive C where
  | lf (l : Lf)
  | bl (b : Bool)
  | nil
  | own (k : Nat)
  | ptr (k off : Nat)
  | el (E : ETy) (x : Unit → E.α) (off : Nat)
  | pcs (ls : List Lf) (off : Nat)
  | oel (k : Nat) (E : ETy) (i : Unit → Nat) (off : Nat)
  | fn (f : FuncId) (caps : List Cp)
  | undef
inductive V where
  | c (x : C)
  | agg (cs : List C)
  | tup (cs : List (Bool × List C))
inductive Blk where
  | dead
  | box (cs : List C)
  | own (E : ETy) (xs : Unit → List E.α) (lent : Bool)
  | view (E : ETy) (xs : Unit → List E.α)
  | hol (E : ETy) (xs : Unit → List E.α) (i : Unit → Nat) (fs : List (Option Nat))
  | mp (m : Unit → List (Int × Int))
structure SS where
  env : List V
  blk : List (Nat × Blk)
abbrev Hp := Nat → Option Obj
abbrev Rho := Nat → Value × (Nat → Nat)
def RCp (H : Hp) (ρ : Rho) (D : Nat → Prop) : Cp → Value → Prop
  | .ptr k off, v => D k ∧ ∃ b, (ρ k).1 = .pointer (some ⟨b, 0, none⟩) ∧ v = .pointer (some ⟨b, off, none⟩)
  | .el E x off, v => ∃ b o cs e fz, H b = some (.cells cs e fz) ∧ v = .pointer (some ⟨b, o, none⟩) ∧
      ∀ j l, (cellsT E x)[off + j]? = some l → o + j < cs.size ∧ RL H l (cs.getD (o + j) Go.undef)
  | .pcs ls off, v => ∃ b o cs e fz, H b = some (.cells cs e fz) ∧ v = .pointer (some ⟨b, o, none⟩) ∧
      ∀ j l, ls[off + j]? = some l → o + j < cs.size ∧ RL H l (cs.getD (o + j) Go.undef)
def RC (H : Hp) (ρ : Rho) (D : Nat → Prop) : C → Value → Prop
  | .lf l, v => RL H l v
  | .bl b, v => v = .bool b
  | .nil, v => v = .slice none 0 0
  | .own k, v => D k ∧ v = (ρ k).1
  | .ptr k off, v => RCp H ρ D (.ptr k off) v
  | .el E x off, v => RCp H ρ D (.el E x off) v
  | .pcs ls off, v => RCp H ρ D (.pcs ls off) v
  | .oel k E i off, v => D k ∧ ∃ b o n c, (ρ k).1 = .slice (some ⟨b, o, none⟩) n c ∧ i () < n ∧ v = .pointer (some ⟨b, o + i () * E.sz + off, none⟩)
  | .fn f caps, v => ∃ vs : Array Value, v = .func (.func f) #[] vs ∧ vs.size = caps.length ∧ ∀ j c, caps[j]? = some c → RCp H ρ D c (vs.getD j Go.undef)
  | .undef, _ => True
def RCs (H : Hp) (ρ : Rho) (D : Nat → Prop) (cs : List C) (vs : Array Value) : Prop :=
  vs.size = cs.length ∧ ∀ j c, cs[j]? = some c → RC H ρ D c (vs.getD j Go.undef)
def RT (H : Hp) (ρ : Rho) (D : Nat → Prop) (p : Bool × List C) (v : Value) : Prop :=
  match p.1 with
  | true => ∃ vs, v = .agg vs ∧ RCs H ρ D p.2 vs
  | false => ∃ c, p.2 = [c] ∧ RC H ρ D c v
def RV (H : Hp) (ρ : Rho) (D : Nat → Prop) : V → Value → Prop
  | .c x, v => RC H ρ D x v
  | .agg cs, v => ∃ vs, v = .agg vs ∧ RCs H ρ D cs vs
  | .tup cs, v => ∃ vs : Array Value, v = .tuple vs ∧ vs.size = cs.length ∧ ∀ j p, cs[j]? = some p → RT H ρ D p (vs.getD j Go.undef)
def one (b : Nat) : Nat → Nat := fun x => if x = b then 1 else 0
def filled (fs : List (Option Nat)) (i q j : Nat) : Option Nat := if q = i then (match fs[j]? with | some (some k) => some k | _ => none) else none
def HSeg (h : Array Obj) (ρ : Rho) (D : Nat → Prop) (E : ETy) (xs : List E.α) (i : Nat) (fs : List (Option Nat)) (cs : Nat → Value) (S : Nat → Nat → Nat → Nat) : Prop :=
  ∀ q x, xs[q]? = some x → ∀ j l, (cellsT E fun _ => x)[j]? = some l → match filled fs i q j with
    | some k => D k ∧ cs (q * E.sz + j) = (ρ k).1 ∧ S q j = fun _ => 0
    | none => OwnL h l (cs (q * E.sz + j)) (S q j)
def BlkR (h : Array Obj) (H : Hp) (ρ : Rho) (D : Nat → Prop) (B : Blk) (p : Value × (Nat → Nat)) : Prop :=
  match B with
  | .dead => p.2 = fun _ => 0
  | .box cs => ∃ b vs e fz, p.1 = .pointer (some ⟨b, 0, none⟩) ∧ p.2 = one b ∧ h[b]? = some (.cells vs e fz) ∧ NF vs fz ∧ RCs H ρ D cs vs
  | .own E xs _ => OwnL h (.list E xs) p.1 p.2
  | .view E xs => RL H (.list E xs) p.1 ∧ p.2 = fun _ => 0
  | .hol E xs i fs => ∃ b o c cs e fz S, p.1 = .slice (some ⟨b, o, none⟩) (xs ()).length c ∧ p.2 = cnt b (xs ()).length E.sz S ∧ h[b]? = some (.cells cs e fz) ∧ NF cs fz ∧ (xs ()).length ≤ c ∧
      (xs ()).length ≤ maxL ∧ o + c * E.sz ≤ cs.size ∧ i () < (xs ()).length ∧ HSeg h ρ D E (xs ()) (i ()) fs (fun q => cs.getD (o + q) Go.undef) S
  | .mp m => ∃ b es c, p.1 = .map (some b) ∧ p.2 = one b ∧ h[b]? = some (.map es c) ∧ MapR (m ()) es
def Top (B : Blk) (p : Value × (Nat → Nat)) (x : Nat) : Prop :=
  match B with
  | .dead => False
  | .box _ => 0 < p.2 x
  | .own _ _ false => 0 < p.2 x
  | .own _ _ true => ∃ o n c, p.1 = .slice (some ⟨x, o, none⟩) n c
  | .view _ _ => False
  | .hol _ _ _ _ => 0 < p.2 x
  | .mp _ => 0 < p.2 x
def dom (bs : List (Nat × Blk)) (k : Nat) : Prop := k ∈ bs.map (·.1)
def tot (ρ : Rho) : List (Nat × Blk) → Nat → Nat
  | [], _ => 0
  | p :: r, x => (ρ p.1).2 x + tot ρ r x
structure RelB (h : Array Obj) (H0 H : Hp) (ρ : Rho) (bs : List (Nat × Blk)) : Prop where
  oc : ∀ k, dom bs k → (ρ k).1.oneCell' = true
  nd : (bs.map (·.1)).Nodup
  h0 : ∀ b o, H0 b = some o → H b = some o
  hh : ∀ b o, H b = some o → h[b]? = some o
  blk : ∀ k B, (k, B) ∈ bs → BlkR h H ρ (dom bs) B (ρ k)
  sum : ∀ x, tot ρ bs x ≤ 1
  fresh : ∀ k B, (k, B) ∈ bs → ∀ x, 0 < (ρ k).2 x → H0 x = none
  tops : ∀ k B, (k, B) ∈ bs → ∀ x, Top B (ρ k) x → H x = none
structure Ext (w w' : World) : Prop where
  sz : w.heap.size ≤ w'.heap.size
  os : w'.os = w.os
  out : w'.output = w.output
  fz : ∀ a : Addr, a.block < w.heap.size → w'.frozen? a = w.frozen? a
theorem Ext.of {w w' : World} (sz : w.heap.size ≤ w'.heap.size) (os : w'.os = w.os) (out : w'.output = w.output) (fz : ∀ a, w'.frozen? a = w.frozen? a) : Ext w w' := ⟨sz, os, out, fun a _ => fz a⟩
theorem Ext.refl (w : World) : Ext w w := ⟨Nat.le_refl _, rfl, rfl, fun _ _ => rfl⟩
theorem Ext.trans {w w' w'' : World} (h : Ext w w') (g : Ext w' w'') : Ext w w'' := ⟨Nat.le_trans h.sz g.sz, g.os.trans h.os, g.out.trans h.out, fun a q => (g.fz a (Nat.lt_of_lt_of_le q h.sz)).trans (h.fz a q)⟩
structure Ctx where
  H0 : Hp
  hd : List (Nat × (Value × (Nat → Nat)))
  w0 : World
  hm : List (Nat × Value)
structure RelE (H : Hp) (ρ : Rho) (D : Nat → Prop) (env : List V) (tmps : Array Value) : Prop where
  size : tmps.size = env.length
  get : ∀ (j : Nat) c, env[j]? = some c → RV H ρ D c (tmps.getD j Go.undef)
structure RelH (Γ : Ctx) (H : Hp) (ρ : Rho) (σ : SS) (a : Act) (w : World) : Prop where
  b : RelB w.heap Γ.H0 H ρ σ.blk
  e : RelE H ρ (dom σ.blk) σ.env a.tmps
  d : a.defers = []
  n : Ext Γ.w0 w
  hd : ∀ p ∈ Γ.hd, dom σ.blk p.1 ∧ (ρ p.1).1 = p.2.1 ∧ ∀ x, (ρ p.1).2 x ≤ p.2.2 x
  hm : ∀ p ∈ Γ.hm, dom σ.blk p.1 ∧ (ρ p.1).1 = p.2
def Rel (Γ : Ctx) (σ : SS) (a : Act) (w : World) : Prop := ∃ H ρ, RelH Γ H ρ σ a w
structure Grow (H H' : Hp) (ρ ρ' : Rho) (D D' : Nat → Prop) : Prop where
  h : ∀ b o, H b = some o → H' b = some o
  d : ∀ k, D k → D' k ∧ (ρ' k).1 = (ρ k).1
theorem Grow.refl (H : Hp) (ρ : Rho) (D : Nat → Prop) : Grow H H ρ ρ D D := ⟨fun _ _ h => h, fun _ h => ⟨h, rfl⟩⟩
section
variable {H H' : Hp} {ρ ρ' : Rho} {D D' : Nat → Prop}
theorem RCp.grow (g : Grow H H' ρ ρ' D D') {c : Cp} {v : Value} (h : RCp H ρ D c v) : RCp H' ρ' D' c v := by
  cases c with
  | ptr k off => obtain ⟨hk, b, h1, h2⟩ := h; exact ⟨(g.d k hk).1, b, by rw [(g.d k hk).2]; exact h1, h2⟩
  | el E x off =>
    obtain ⟨b, o, cs, e, fz, h1, h2, h3⟩ := h
    exact ⟨b, o, cs, e, fz, g.h _ _ h1, h2, fun j l hj => ⟨(h3 j l hj).1, (h3 j l hj).2.mono g.h⟩⟩
  | pcs ls off =>
    obtain ⟨b, o, cs, e, fz, h1, h2, h3⟩ := h
    exact ⟨b, o, cs, e, fz, g.h _ _ h1, h2, fun j l hj => ⟨(h3 j l hj).1, (h3 j l hj).2.mono g.h⟩⟩
theorem RC.grow (g : Grow H H' ρ ρ' D D') {c : C} {v : Value} (h : RC H ρ D c v) : RC H' ρ' D' c v := by
  cases c with
  | lf l => exact RL.mono h g.h
  | bl b => exact h
  | nil => exact h
  | own k => obtain ⟨hk, h1⟩ := h; exact ⟨(g.d k hk).1, by rw [(g.d k hk).2]; exact h1⟩
  | ptr k off => exact RCp.grow g (c := .ptr k off) h
  | el E x off => exact RCp.grow g (c := .el E x off) h
  | pcs ls off => exact RCp.grow g (c := .pcs ls off) h
  | oel k E i off => obtain ⟨hk, b, o, n, c, h1, h2⟩ := h; exact ⟨(g.d k hk).1, b, o, n, c, by rw [(g.d k hk).2]; exact h1, h2⟩
  | fn f caps => obtain ⟨vs, h1, h2, h3⟩ := h; exact ⟨vs, h1, h2, fun j c hj => (h3 j c hj).grow g⟩
  | undef => trivial
theorem RCs.grow (g : Grow H H' ρ ρ' D D') {cs : List C} {vs : Array Value} (h : RCs H ρ D cs vs) : RCs H' ρ' D' cs vs :=
  ⟨h.1, fun j c hj => (h.2 j c hj).grow g⟩
theorem RT.grow (g : Grow H H' ρ ρ' D D') {p : Bool × List C} {v : Value} (h : RT H ρ D p v) : RT H' ρ' D' p v := by
  obtain ⟨b, cs⟩ := p
  cases b with
  | true => obtain ⟨vs, h1, h2⟩ := h; exact ⟨vs, h1, h2.grow g⟩
  | false => obtain ⟨c, h1, h2⟩ := h; exact ⟨c, h1, h2.grow g⟩
theorem RV.grow (g : Grow H H' ρ ρ' D D') {c : V} {v : Value} (h : RV H ρ D c v) : RV H' ρ' D' c v := by
  cases c with
  | c x => exact RC.grow g h
  | agg cs => obtain ⟨vs, h1, h2⟩ := h; exact ⟨vs, h1, h2.grow g⟩
  | tup cs => obtain ⟨vs, h1, h2, h3⟩ := h; exact ⟨vs, h1, h2, fun j p hj => (h3 j p hj).grow g⟩
theorem RelE.grow (g : Grow H H' ρ ρ' D D') {env : List V} {tmps : Array Value} (h : RelE H ρ D env tmps) : RelE H' ρ' D' env tmps :=
  ⟨h.size, fun j c hj => (h.get j c hj).grow g⟩
end
theorem BlkR.mono {h h' : Array Obj} {H H' : Hp} {ρ ρ' : Rho} {D D' : Nat → Prop} {B : Blk} {p : Value × (Nat → Nat)} (g : Grow H H' ρ ρ' D D')
    (hr : BlkR h H ρ D B p) (hk : ∀ b, 0 < p.2 b → h'[b]? = h[b]?) : BlkR h' H' ρ' D' B p := by
  cases B with
  | dead => exact hr
  | box cs =>
    obtain ⟨b, vs, e, fz, h1, h2, h3, h4, h5⟩ := hr
    exact ⟨b, vs, e, fz, h1, h2, by rw [hk b (by simp [h2, one])]; exact h3, h4, h5.grow g⟩
  | own E xs lent => exact OwnL.mono hr hk
  | mp m =>
    obtain ⟨b, es, c, h1, h2, h3, h4⟩ := hr
    exact ⟨b, es, c, h1, h2, by rw [hk b (by simp [h2, one])]; exact h3, h4⟩
  | view E xs => exact ⟨hr.1.mono g.h, hr.2⟩
  | hol E xs i fs =>
    obtain ⟨b, o, c, cs, e, fz, S, h1, h2, h3, h4, h5, h6, h7, h8, h9⟩ := hr
    refine ⟨b, o, c, cs, e, fz, S, h1, h2, by rw [hk b (by rw [h2]; exact cnt_top _ _ _ _)]; exact h3, h4, h5, h6, h7, h8, fun q x hx j l hj => ?_⟩
    have h10 := h9 q x hx j l hj
    split at h10
    · obtain ⟨g1, g2, g3⟩ := h10
      exact ⟨(g.d _ g1).1, by rw [(g.d _ g1).2]; exact g2, g3⟩
    · refine h10.mono fun y hy => hk y ?_
      rw [h2]
      exact Nat.lt_of_lt_of_le hy (cnt_in (lt_of_get hx) (by have := lt_of_get hj; rwa [cellsT_len] at this))
theorem tot_le {ρ : Rho} {bs : List (Nat × Blk)} {k : Nat} {B : Blk} (h : (k, B) ∈ bs) (x : Nat) : (ρ k).2 x ≤ tot ρ bs x := by
  induction bs with
  | nil => cases h
  | cons p r ih =>
    simp only [tot]
    cases h with
    | head => simp only; omega
    | tail _ h => have := ih h; omega
def getB : List (Nat × Blk) → Nat → Option Blk
  | [], _ => none
  | p :: r, k => if p.1 = k then some p.2 else getB r k
theorem getB_mem {bs : List (Nat × Blk)} {k : Nat} {B : Blk} (h : getB bs k = some B) : (k, B) ∈ bs := by
  induction bs with
  | nil => simp [getB] at h
  | cons p r ih =>
    simp only [getB] at h
    split at h
    · rename_i hk; cases h; subst hk; exact List.mem_cons_self
    · exact List.mem_cons_of_mem _ (ih h)
theorem getB_dom {bs : List (Nat × Blk)} {k : Nat} {B : Blk} (h : getB bs k = some B) : dom bs k := List.mem_map.2 ⟨_, getB_mem h, rfl⟩
theorem getB_none {bs : List (Nat × Blk)} {k : Nat} (h : getB bs k = none) : ¬ dom bs k := by
  induction bs with
  | nil => simp [dom]
  | cons p r ih =>
    simp only [getB] at h
    split at h
    · cases h
    · rename_i hk
      intro hd
      simp only [dom, List.map_cons, List.mem_cons] at hd
      rcases hd with hd | hd
      · exact hk hd.symm
      · exact ih h hd
def insB : List (Nat × Blk) → Nat → Blk → List (Nat × Blk)
  | [], k, B => [(k, B)]
  | p :: r, k, B => if k < p.1 then (k, B) :: p :: r else p :: insB r k B
theorem mem_insB {bs : List (Nat × Blk)} {k : Nat} {B : Blk} {q : Nat × Blk} : q ∈ insB bs k B ↔ q = (k, B) ∨ q ∈ bs := by
  induction bs with
  | nil => simp [insB]
  | cons p r ih =>
    simp only [insB]
    split
    · simp
    · simp only [List.mem_cons, ih]
      constructor
      · rintro (h | h | h)
        · exact .inr (.inl h)
        · exact .inl h
        · exact .inr (.inr h)
      · rintro (h | h | h)
        · exact .inr (.inl h)
        · exact .inl h
        · exact .inr (.inr h)
theorem dom_insB {bs : List (Nat × Blk)} {k : Nat} {B : Blk} {j : Nat} : dom (insB bs k B) j ↔ j = k ∨ dom bs j := by
  simp only [dom, List.mem_map, mem_insB]
  constructor
  · rintro ⟨q, h | h, rfl⟩
    · exact .inl (by rw [h])
    · exact .inr ⟨q, h, rfl⟩
  · rintro (rfl | ⟨q, h, rfl⟩)
    · exact ⟨_, .inl rfl, rfl⟩
    · exact ⟨q, .inr h, rfl⟩
theorem nodup_insB {bs : List (Nat × Blk)} {k : Nat} {B : Blk} (h : (bs.map (·.1)).Nodup) (hk : ¬ dom bs k) : ((insB bs k B).map (·.1)).Nodup := by
  induction bs with
  | nil => simp [insB]
  | cons p r ih =>
    simp only [insB]
    split
    · simp only [List.map_cons] at h hk ⊢
      exact List.nodup_cons.2 ⟨hk, h⟩
    · simp only [List.map_cons, List.nodup_cons] at h ⊢
      have hk' : ¬ dom r k := fun h' => hk (by simp only [dom, List.map_cons, List.mem_cons]; exact .inr h')
      refine ⟨fun h' => ?_, ih h.2 hk'⟩
      have := dom_insB.1 h'
      rcases this with h1 | h1
      · exact hk (by simp only [dom, List.map_cons, List.mem_cons]; exact .inl h1.symm)
      · exact h.1 h1
theorem tot_insB {ρ : Rho} {bs : List (Nat × Blk)} {k : Nat} {B : Blk} (x : Nat) : tot ρ (insB bs k B) x = (ρ k).2 x + tot ρ bs x := by
  induction bs with
  | nil => simp [insB, tot]
  | cons p r ih =>
    simp only [insB]
    split
    · simp [tot]
    · simp only [tot, ih]; omega
theorem tot_congr {ρ ρ' : Rho} {bs : List (Nat × Blk)} (h : ∀ k, dom bs k → ρ' k = ρ k) (x : Nat) : tot ρ' bs x = tot ρ bs x := by
  induction bs with
  | nil => rfl
  | cons p r ih =>
    simp only [tot]
    rw [h p.1 (by simp [dom]), ih fun k hk => h k (by simp only [dom, List.map_cons, List.mem_cons]; exact .inr hk)]
def setB : List (Nat × Blk) → Nat → Blk → List (Nat × Blk)
  | [], _, _ => []
  | p :: r, k, B => if p.1 = k then (k, B) :: r else p :: setB r k B
theorem keys_setB {bs : List (Nat × Blk)} {k : Nat} {B : Blk} : (setB bs k B).map (·.1) = bs.map (·.1) := by
  induction bs with
  | nil => rfl
  | cons p r ih =>
    simp only [setB]
    split
    · rename_i h; simp [h]
    · simp [ih]
theorem dom_setB {bs : List (Nat × Blk)} {k : Nat} {B : Blk} {j : Nat} : dom (setB bs k B) j ↔ dom bs j := by simp only [dom, keys_setB]
theorem mem_setB {bs : List (Nat × Blk)} (hn : (bs.map (·.1)).Nodup) {k : Nat} {B : Blk} {j : Nat} {A : Blk} (h : (j, A) ∈ setB bs k B) :
    (j = k ∧ A = B) ∨ (j ≠ k ∧ (j, A) ∈ bs) := by
  induction bs with
  | nil => simp [setB] at h
  | cons p r ih =>
    simp only [List.map_cons, List.nodup_cons] at hn
    simp only [setB] at h
    split at h
    · rename_i hk
      cases h with
      | head => exact .inl ⟨rfl, rfl⟩
      | tail _ h =>
        refine .inr ⟨fun hj => hn.1 ?_, List.mem_cons_of_mem _ h⟩
        rw [hk, ← hj]
        exact List.mem_map.2 ⟨_, h, rfl⟩
    · rename_i hk
      cases h with
      | head => exact .inr ⟨hk, List.mem_cons_self⟩
      | tail _ h =>
        rcases ih hn.2 h with h' | h'
        · exact .inl h'
        · exact .inr ⟨h'.1, List.mem_cons_of_mem _ h'.2⟩
theorem tot_setB {ρ ρ' : Rho} {bs : List (Nat × Blk)} (hn : (bs.map (·.1)).Nodup) {k : Nat} {B : Blk} (hk : dom bs k) (h : ∀ j, j ≠ k → ρ' j = ρ j) (x : Nat) :
    tot ρ' (setB bs k B) x + (ρ k).2 x = tot ρ bs x + (ρ' k).2 x := by
  induction bs with
  | nil => simp [dom] at hk
  | cons p r ih =>
    simp only [List.map_cons, List.nodup_cons] at hn
    simp only [setB]
    split
    · rename_i hp
      simp only [tot]
      rw [tot_congr (ρ := ρ) (ρ' := ρ') (bs := r) fun j hj => h j fun he => hn.1 (by rw [hp, ← he]; exact hj)]
      rw [hp]; omega
    · rename_i hp
      simp only [tot]
      have hk' : dom r k := by
        simp only [dom, List.map_cons, List.mem_cons] at hk
        rcases hk with hk | hk
        · exact absurd hk.symm hp
        · exact hk
      have := ih hn.2 hk'
      rw [h p.1 hp]
      omega
end Go.Proofs.Ytlochjpjlhkjaaa
namespace Go.Proofs.Ytlochjpjlhkjaaa
open Go
inductive Z where
  | i (k : IntKind)
  | bo
  | st
  | nl (E : ETy)
  | un
deriving DecidableEq
def Z.c : Z → C
  | .i k => .lf (.int k fun _ => 0)
  | .bo => .bl false
  | .st => .lf (.str fun _ => [])
  | .nl _ => .nil
  | .un => .undef
def Z.ok : Z → Value → Bool
  | .i k, .int k' m => decide (k = k') && decide (m = 0)
  | .bo, .bool b => !b
  | .st, .string s => decide (s = ByteArray.empty)
  | .nl _, .slice none 0 0 => true
  | .un, _ => true
  | _, _ => false
def Z.oks : List Z → List Value → Bool
  | [], [] => true
  | z :: zs, v :: vs => z.ok v && Z.oks zs vs
  | _, _ => false
theorem IntKind.has_zero (k : IntKind) : k.has 0 := by cases k <;> simp [IntKind.has, IntKind.min, IntKind.max, IntKind.signed, IntKind.bits]
theorem Z.ok_c {H : Hp} {ρ : Rho} {D : Nat → Prop} {z : Z} {v : Value} (h : z.ok v = true) : RC H ρ D z.c v := by
  cases z with
  | i k =>
    cases v <;> simp [Z.ok] at h
    obtain ⟨rfl, rfl⟩ := h
    exact RL.int (t := fun _ => 0) (IntKind.has_zero _)
  | bo => cases v <;> simp [Z.ok] at h; subst h; rfl
  | st =>
    cases v <;> simp [Z.ok] at h
    subst h
    exact RL.str (t := fun _ => []) (by simp [maxL])
  | nl E =>
    cases v with
    | slice a n c =>
      cases a with
      | none => cases n <;> cases c <;> first | rfl | simp [Z.ok] at h
      | some a => simp [Z.ok] at h
    | _ => simp [Z.ok] at h
  | un => trivial
theorem Z.oks_cs {H : Hp} {ρ : Rho} {D : Nat → Prop} {zs : List Z} {vs : List Value} (h : Z.oks zs vs = true) : RCs H ρ D (zs.map Z.c) vs.toArray := by
  induction zs generalizing vs with
  | nil =>
    cases vs with
    | nil => exact ⟨rfl, fun j c hj => by simp at hj⟩
    | cons v vs => simp [Z.oks] at h
  | cons z zs ih =>
    cases vs with
    | nil => simp [Z.oks] at h
    | cons v vs =>
      simp only [Z.oks, Bool.and_eq_true] at h
      have := ih h.2
      refine ⟨by simpa using this.1, fun j c hj => ?_⟩
      cases j with
      | zero => simp at hj; subst hj; simpa using Z.ok_c h.1
      | succ j => simpa using this.2 j c (by simpa using hj)
def zOf : ETy → List Z
  | .int => [.i .i64]
  | .byte => [.i .u8]
  | .str => [.st]
  | .pin => List.replicate 2 (.i .i64)
  | .ent => List.replicate 4 (.i .i64)
  | .pty => List.replicate 10 (.i .i64)
  | .spk => [.nl .pin]
  | .cab => List.replicate 5 (.i .i64) ++ [.nl .ent, .nl .spk]
  | .req => List.replicate 6 (.i .i64)
  | .rep => [.i .i64, .nl .int]
inductive TI where
  | sl (E : ETy) (elem bytes : Nat)
  | st (n : Nat) (fs : List (Nat × Nat × Bool)) (z : List Z) (q : Bool)
  | sc (z : Z)
  | it (k : IntKind)
  | bt
  | ss
  | mp (kt et : Nat)
def aggD : TypeDesc → Bool
  | .struct _ | .array _ _ => true
  | _ => false
def fldB (P : Program) : List (Nat × Nat × Bool) → List Field → Bool
  | [], [] => true
  | p :: ps, f :: fs =>
    decide (f.offset = p.1) && (match P.info? f.type with | some i => decide (i.size = p.2.1) | none => false) && decide (p.2.1 ≠ 0) &&
      (match P.underlying f.type with | some d => aggD d == p.2.2 | none => false) && decide (f.name ≠ "_") && fldB P ps fs
  | _, _ => false
def eqFB (P : Program) : Nat → List Field → Bool
  | _, [] => true
  | j, f :: fs => decide (f.offset = j) && decide (f.name ≠ "_") && (match P.underlying f.type with | some (.int _) => true | _ => false) && eqFB P (j + 1) fs
def eqB (P : Program) (t : TypeId) (fields : Array Field) : Bool := !P.stoodInHeld t && !P.eqGuardType P.depth t && eqFB P 0 fields.toList
def tiB (P : Program) (t : TypeId) : TI → Bool
  | .sl E elem bytes =>
    (match P.underlying t with | some (.slice e) => decide (e = elem) | _ => false) &&
      (match P.info? elem with
        | some i => decide (i.size = E.sz) && decide (i.bytes = bytes) && (match i.zero with | some z => Z.oks (zOf E) z.cells.toList | none => false)
        | none => false) &&
      (match P.info? t with
        | some i => decide (i.size = 1) && (match i.zero with | some v => v.oneCell' && (Z.nl E).ok v | none => false)
        | none => false)
  | .st n fs z q =>
    (match P.underlying t with | some (.struct fields) => fldB P fs fields.toList && (!q || eqB P t fields) | _ => false) &&
      (match P.info? t with
        | some i => decide (i.size = n) && (match i.zero with | some (.agg cs) => Z.oks z cs.toList | _ => false)
        | none => false)
  | .sc z =>
    (match P.underlying t with | some d => !aggD d | none => false) &&
      (match P.info? t with
        | some i => decide (i.size = 1) && (match i.zero with | some v => v.oneCell' && z.ok v | none => false)
        | none => false)
  | .it k =>
    (match P.underlying t with | some (.int k') => decide (k' = k) | _ => false) &&
      (match P.info? t with
        | some i => decide (i.size = 1) && (match i.zero with | some v => v.oneCell' && (Z.i k).ok v | none => false)
        | none => false)
  | .bt =>
    (match P.underlying t with | some .bool => true | _ => false) &&
      (match P.info? t with
        | some i => decide (i.size = 1) && (match i.zero with | some v => v.oneCell' && Z.bo.ok v | none => false)
        | none => false)
  | .ss =>
    (match P.underlying t with | some .string => true | _ => false) &&
      (match P.info? t with
        | some i => decide (i.size = 1) && (match i.zero with | some v => v.oneCell' && Z.st.ok v | none => false)
        | none => false)
  | .mp kt et =>
    (match P.underlying t with | some (.map a b) => decide (a = kt) && decide (b = et) | _ => false) && (match P.underlying kt with | some (.int k) => decide (k = .i64) | _ => false) &&
      (match P.info? et with | some i => (match i.zero with | some (.int k n) => decide (k = .i64) && decide (n = 0) | _ => false) | none => false) &&
      (match P.info? t with
        | some i => decide (i.size = 1) && (match i.zero with | some v => v.oneCell' && Z.un.ok v | none => false)
        | none => false)
structure Tab where
  ts : List (Nat × TI)
  mu : List (Nat × List Bool)
  fz : List (Nat × Nat × ETy)
def tabC (P : Program) (tab : Tab) : Bool := tab.ts.all fun p => tiB P p.1 p.2
def tabB (P : Program) (tab : Tab) : Bool := P.follows .mixedOrders && tabC P tab
def tgetL : List (Nat × TI) → Nat → Option TI
  | [], _ => none
  | p :: r, n => if p.1 = n then some p.2 else tgetL r n
def tget (tab : Tab) (n : Nat) : Option TI := tgetL tab.ts n
def muL : List (Nat × List Bool) → Nat → Option (List Bool)
  | [], _ => none
  | p :: r, n => if p.1 = n then some p.2 else muL r n
def muT (tab : Tab) (f : Nat) : Option (List Bool) := muL tab.mu f
theorem tgetL_okC {P : Program} {ts : List (Nat × TI)} (h : (ts.all fun p => tiB P p.1 p.2) = true) {n : Nat} {ti : TI} (hg : tgetL ts n = some ti) : tiB P n ti = true := by
  induction ts with
  | nil => simp [tgetL] at hg
  | cons p r ih =>
    simp only [List.all_cons, Bool.and_eq_true] at h
    simp only [tgetL] at hg
    split at hg
    · rename_i hn; cases hg; subst hn; exact h.1
    · exact ih h.2 hg
theorem tget_okC {P : Program} {tab : Tab} (h : tabC P tab = true) {n : Nat} {ti : TI} (hg : tget tab n = some ti) : tiB P n ti = true := tgetL_okC h hg
theorem tget_ok {P : Program} {tab : Tab} (h : tabB P tab = true) {n : Nat} {ti : TI} (hg : tget tab n = some ti) : tiB P n ti = true := by
  simp only [tabB, Bool.and_eq_true] at h
  exact tget_okC h.2 hg
theorem tabB_mix {P : Program} {tab : Tab} (h : tabB P tab = true) : P.follows .mixedOrders = true := by
  simp only [tabB, Bool.and_eq_true] at h
  exact h.1
section
variable {P : Program} {t : TypeId}
theorem ti_sl {E : ETy} {elem bytes : Nat} (h : tiB P t (.sl E elem bytes) = true) :
    P.underlying t = some (.slice elem) ∧ ∃ i z, P.info? elem = some i ∧ i.size = E.sz ∧ i.bytes = bytes ∧ i.zero = some z ∧ Z.oks (zOf E) z.cells.toList = true := by
  simp only [tiB, Bool.and_eq_true] at h
  obtain ⟨⟨h1, h2⟩, _⟩ := h
  split at h1
  · rename_i e he
    simp only [decide_eq_true_eq] at h1
    subst h1
    refine ⟨he, ?_⟩
    split at h2
    · rename_i i hi
      simp only [Bool.and_eq_true, decide_eq_true_eq] at h2
      split at h2
      · rename_i z hz; exact ⟨i, z, hi, h2.1.1, h2.1.2, hz, h2.2⟩
      · simp at h2
    · cases h2
  · cases h1
theorem ti_sl' {E : ETy} {elem bytes : Nat} (h : tiB P t (.sl E elem bytes) = true) : tiB P t (.sc (.nl E)) = true := by
  have hU := (ti_sl h).1
  simp only [tiB, Bool.and_eq_true] at h ⊢
  exact ⟨by rw [hU]; rfl, h.2⟩
theorem ti_st {n : Nat} {fs : List (Nat × Nat × Bool)} {z : List Z} {q : Bool} (h : tiB P t (.st n fs z q) = true) :
    ∃ fields, P.underlying t = some (.struct fields) ∧ (fldB P fs fields.toList = true ∧ (q = true → eqB P t fields = true)) ∧ ∃ i cs, P.info? t = some i ∧ i.size = n ∧ i.zero = some (.agg cs) ∧ Z.oks z cs.toList = true := by
  simp only [tiB, Bool.and_eq_true] at h
  obtain ⟨h1, h2⟩ := h
  split at h1
  · rename_i fields hf
    simp only [Bool.and_eq_true] at h1
    refine ⟨fields, hf, ⟨h1.1, fun hq => by simpa [hq] using h1.2⟩, ?_⟩
    split at h2
    · rename_i i hi
      simp only [Bool.and_eq_true, decide_eq_true_eq] at h2
      split at h2
      · rename_i cs hz; exact ⟨i, cs, hi, h2.1, hz, h2.2⟩
      · simp at h2
    · cases h2
  · cases h1
theorem ti_sc {z : Z} (h : tiB P t (.sc z) = true) :
    (∃ d, P.underlying t = some d ∧ aggD d = false) ∧ ∃ i v, P.info? t = some i ∧ i.size = 1 ∧ i.zero = some v ∧ v.oneCell' = true ∧ z.ok v = true := by
  simp only [tiB, Bool.and_eq_true] at h
  obtain ⟨h1, h2⟩ := h
  split at h1
  · rename_i d hd
    refine ⟨⟨d, hd, by simpa using h1⟩, ?_⟩
    split at h2
    · rename_i i hi
      simp only [Bool.and_eq_true, decide_eq_true_eq] at h2
      split at h2
      · rename_i v hv
        simp only [Bool.and_eq_true] at h2
        exact ⟨i, v, hi, h2.1, hv, h2.2.1, h2.2.2⟩
      · simp at h2
    · cases h2
  · cases h1
theorem ti_it {k : IntKind} (h : tiB P t (.it k) = true) : P.underlying t = some (.int k) ∧ tiB P t (.sc (.i k)) = true := by
  simp only [tiB, Bool.and_eq_true] at h ⊢
  obtain ⟨h1, h2⟩ := h
  split at h1
  · rename_i k' hd
    simp only [decide_eq_true_eq] at h1
    subst h1
    exact ⟨hd, by rw [hd]; rfl, h2⟩
  · cases h1
theorem ti_bt (h : tiB P t .bt = true) : P.underlying t = some .bool ∧ tiB P t (.sc .bo) = true := by
  simp only [tiB, Bool.and_eq_true] at h ⊢
  obtain ⟨h1, h2⟩ := h
  split at h1
  · rename_i hd; exact ⟨hd, by rw [hd]; rfl, h2⟩
  · cases h1
theorem ti_ss (h : tiB P t .ss = true) : P.underlying t = some .string ∧ tiB P t (.sc .st) = true := by
  simp only [tiB, Bool.and_eq_true] at h ⊢
  obtain ⟨h1, h2⟩ := h
  split at h1
  · rename_i hd; exact ⟨hd, by rw [hd]; rfl, h2⟩
  · cases h1
theorem ti_mp {kt et : Nat} (h : tiB P t (.mp kt et) = true) : P.underlying t = some (.map kt et) ∧ P.underlying kt = some (.int .i64) ∧ (∃ i, P.info? et = some i ∧ i.zero = some (.int .i64 0)) ∧ tiB P t (.sc .un) = true := by
  simp only [tiB, Bool.and_eq_true] at h ⊢
  obtain ⟨⟨⟨h1, h2⟩, h3⟩, h4⟩ := h
  split at h1
  · rename_i a b hd
    simp only [Bool.and_eq_true, decide_eq_true_eq] at h1
    obtain ⟨rfl, rfl⟩ := h1
    refine ⟨hd, ?_, ?_, by rw [hd]; rfl, h4⟩
    · split at h2
      · rename_i k hk; simp only [decide_eq_true_eq] at h2; subst h2; exact hk
      · cases h2
    · split at h3
      · rename_i i hi
        split at h3
        · rename_i k n hz
          simp only [Bool.and_eq_true, decide_eq_true_eq] at h3
          obtain ⟨rfl, rfl⟩ := h3
          exact ⟨i, hi, hz⟩
        · cases h3
      · cases h3
  · cases h1
theorem fld_get {fs : List (Nat × Nat × Bool)} {l : List Field} (h : fldB P fs l = true) {i : Nat} {p : Nat × Nat × Bool} (hp : fs[i]? = some p) :
    ∃ f, l[i]? = some f ∧ f.offset = p.1 ∧ (∃ fi, P.info? f.type = some fi ∧ fi.size = p.2.1) ∧ p.2.1 ≠ 0 ∧ (∃ d, P.underlying f.type = some d ∧ aggD d = p.2.2) ∧ f.name ≠ "_" := by
  induction fs generalizing l i with
  | nil => simp at hp
  | cons q qs ih =>
    cases l with
    | nil => simp [fldB] at h
    | cons f l =>
      simp only [fldB, Bool.and_eq_true] at h
      obtain ⟨⟨⟨⟨⟨h1, h2⟩, h3⟩, h4⟩, h6⟩, h5⟩ := h
      cases i with
      | zero =>
        simp at hp; subst hp
        refine ⟨f, rfl, by simpa using h1, ?_, by simpa using h3, ?_, by simpa using h6⟩
        · split at h2
          · rename_i fi hfi; exact ⟨fi, hfi, by simpa using h2⟩
          · cases h2
        · split at h4
          · rename_i d hd; exact ⟨d, hd, by simpa using h4⟩
          · cases h4
      | succ i => simpa using ih h5 (by simpa using hp)
theorem fld_len {fs : List (Nat × Nat × Bool)} {l : List Field} (h : fldB P fs l = true) : fs.length = l.length := by
  induction fs generalizing l with
  | nil => cases l <;> simp [fldB] at h ⊢
  | cons q qs ih =>
    cases l with
    | nil => simp [fldB] at h
    | cons f l => simp only [fldB, Bool.and_eq_true] at h; simp [ih h.2]
variable (w : World)
theorem run_und {d : TypeDesc} (h : P.underlying t = some d) : (underlying t).run P w = .ok d w := run_underlying h w
theorem run_agg {d : TypeDesc} (h : P.underlying t = some d) : (isAgg t).run P w = .ok (aggD d) w := by
  simp only [isAgg, Sem.run_bind, run_underlying h, Result.andThen_ok]
  cases d <;> rfl
theorem run_szOf {i : TypeInfo} (h : P.info? t = some i) : (sizeOf t).run P w = .ok i.size w := by
  simp [sizeOf, typeInfo, h]
theorem run_zero {i : TypeInfo} {z : Value} (h : P.info? t = some i) (hz : i.zero = some z) : (zeroValue t).run P w = .ok z w := by
  simp [zeroValue, typeInfo, h, hz]
end
def inB (k : IntKind) (n : Int) : Bool :=
  match k with
  | .i64 => decide (-9223372036854775808 ≤ n) && decide (n ≤ 9223372036854775807)
  | .u8 => decide (0 ≤ n) && decide (n ≤ 255)
  | .u64 => decide (0 ≤ n) && decide (n ≤ 18446744073709551615)
  | _ => false
theorem has_i64 {n : Int} : IntKind.i64.has n ↔ -9223372036854775808 ≤ n ∧ n ≤ 9223372036854775807 := by
  simp [IntKind.has, IntKind.min, IntKind.max, IntKind.signed, IntKind.bits]
theorem has_u8 {n : Int} : IntKind.u8.has n ↔ 0 ≤ n ∧ n ≤ 255 := by
  simp [IntKind.has, IntKind.min, IntKind.max, IntKind.signed, IntKind.bits]
theorem has_u64 {n : Int} : IntKind.u64.has n ↔ 0 ≤ n ∧ n ≤ 18446744073709551615 := by
  simp [IntKind.has, IntKind.min, IntKind.max, IntKind.signed, IntKind.bits]
theorem inB_has {k : IntKind} {n : Int} (h : inB k n = true) : k.has n := by
  cases k <;> simp [inB] at h
  · exact has_i64.2 h
  · exact has_u8.2 h
  · exact has_u64.2 h
def constV : Value → V
  | .int k n => if inB k n then .c (.lf (.int k fun _ => n)) else .c .undef
  | .bool b => .c (.bl b)
  | .string s => if s.data.toList.length ≤ maxL then .c (.lf (.str fun _ => s.data.toList)) else .c .undef
  | .slice none 0 0 => .c .nil
  | _ => .c .undef
def SS.ev (σ : SS) : Operand → V
  | .tmp t => σ.env.getD t (.c .undef)
  | .const v => constV v
  | .func f => .c (.fn f [])
  | .global _ => .c .undef
section
variable {H : Hp} {ρ : Rho} {D : Nat → Prop}
theorem constV_ok (v : Value) : RV H ρ D (constV v) v := by
  unfold constV
  split
  · split
    · rename_i h; exact RL.int (inB_has h)
    · trivial
  · rfl
  · split
    · rename_i s h
      have := RL.str (H := H) (t := fun _ => s.data.toList) h
      simpa [RV, RC] using this
    · trivial
  · rfl
  · trivial
theorem ev_ok {σ : SS} {a : Act} (h : RelE H ρ D σ.env a.tmps) (x : Operand) : RV H ρ D (σ.ev x) (a.eval x) := by
  cases x with
  | tmp t =>
    simp only [SS.ev, Act.eval]
    cases ht : σ.env[t]? with
    | none => simp [List.getD_eq_getElem?_getD, ht, RV, RC]
    | some c => simpa [List.getD_eq_getElem?_getD, ht] using h.get t c ht
  | const v => exact constV_ok v
  | global g => trivial
  | func f => exact ⟨#[], rfl, rfl, fun j c hj => by simp at hj⟩
theorem RL.one {l : Lf} {v : Value} (h : RL H l v) : v.oneCell' = true := by cases h <;> rfl
def C.def? : C → Bool
  | .undef => false
  | _ => true
theorem OwnL.one {h : Array Obj} {l : Lf} {v : Value} {S : Nat → Nat} (ho : OwnL h l v S) : v.oneCell' = true := by cases ho <;> rfl
end
def SS.put (σ : SS) (d : Option Nat) (v : V) : SS :=
  match d with
  | some d => { σ with env := σ.env.set d v }
  | none => σ
theorem SS.put_blk (σ : SS) (d : Option Nat) (v : V) : (σ.put d v).blk = σ.blk := by cases d <;> rfl
theorem RelE.put {H : Hp} {ρ : Rho} {D : Nat → Prop} {σ : SS} {a : Act} {v : V} {x : Value} (h : RelE H ρ D σ.env a.tmps) (hv : RV H ρ D v x) (d : Option Nat) :
    RelE H ρ D (σ.put d v).env (a.put d x).tmps := by
  cases d with
  | none => exact h
  | some d =>
    refine ⟨by simpa [SS.put, Act.put] using h.size, fun j c hj => ?_⟩
    simp only [SS.put, Act.put] at hj ⊢
    rw [List.getElem?_set] at hj
    rw [Array.getD_eq_getD_getElem?, Array.getElem?_setIfInBounds]
    split at hj
    · rename_i hd
      split at hj
      · rename_i hlt
        simp only [Option.some.injEq] at hj
        subst hj
        rw [if_pos hd, if_pos (by rw [h.size]; omega)]
        exact hv
      · cases hj
    · rename_i hd
      rw [if_neg hd]
      simpa [Array.getD_eq_getD_getElem?] using h.get j c hj
theorem RelH.put {Γ : Ctx} {H : Hp} {ρ : Rho} {σ : SS} {a : Act} {w : World} (r : RelH Γ H ρ σ a w) {v : V} {x : Value} (hv : RV H ρ (dom σ.blk) v x) (d : Option Nat) :
    RelH Γ H ρ (σ.put d v) (a.put d x) w := by
  refine ⟨by rw [SS.put_blk]; exact r.b, by rw [SS.put_blk]; exact r.e.put hv d, ?_, r.n, by rw [SS.put_blk]; exact r.hd, by rw [SS.put_blk]; exact r.hm⟩
  cases d <;> exact r.d
end Go.Proofs.Ytlochjpjlhkjaaa
namespace Go.Proofs.Ytlochjpjlhkjaaa
open Go
section
variable {P : Program} {w : World} {T : TypeId}
theorem cell_of {b o : Nat} {vs : Array Value} {e : TypeId} {fz : Nat × Nat} {v : Value} (hb : w.heap[b]? = some (.cells vs e fz)) (hv : vs[o]? = some v) :
    w.cell? ⟨b, o, none⟩ = some v := by simp [World.cell?, hb, hv]
theorem run_loadSc {d : TypeDesc} {b o : Nat} {vs : Array Value} {e : TypeId} {fz : Nat × Nat} {v : Value} (hU : P.underlying T = some d) (hd : aggD d = false)
    (hb : w.heap[b]? = some (.cells vs e fz)) (hv : vs[o]? = some v) : (Instr.loadAt T (.pointer (some ⟨b, o, none⟩))).run P w = .ok v w := by
  simp [Instr.loadAt, Instr.sureAddr, loadVar, run_agg w hU, hd, cell_of hb hv]
theorem addr_add (b o j : Nat) : (⟨b, o, none⟩ : Addr).add j = ⟨b, o + j, none⟩ := by
  unfold Addr.add; split
  · rename_i h; subst h; rfl
  · rfl
theorem run_loadAgg {d : TypeDesc} {i : TypeInfo} {b o : Nat} {vs : Array Value} {e : TypeId} {fz : Nat × Nat} (hU : P.underlying T = some d) (hd : aggD d = true) (hi : P.info? T = some i)
    (hb : w.heap[b]? = some (.cells vs e fz)) (hs : o + i.size ≤ vs.size) :
    (Instr.loadAt T (.pointer (some ⟨b, o, none⟩))).run P w = .ok (.agg ((List.range i.size).map fun j => vs.getD (o + j) Go.undef).toArray) w := by
  have h := run_loadCells (P := P) w ⟨b, o, none⟩ i.size (fun j => vs.getD (o + j) Go.undef) (fun j hj => by
    rw [addr_add]
    refine cell_of hb ?_
    rw [Array.getD_eq_getD_getElem?, Array.getElem?_eq_getElem (by omega)]
    rfl)
  simp [Instr.loadAt, Instr.sureAddr, loadVar, run_agg w hU, hd, run_szOf w hi, h]
end
def cut (cs : List C) (o n : Nat) : List C := (cs.drop o).take n
theorem cut_get {cs : List C} {o n j : Nat} {c : C} (h : (cut cs o n)[j]? = some c) : j < n ∧ cs[o + j]? = some c := by
  simp only [cut, List.getElem?_take, List.getElem?_drop] at h
  split at h
  · rename_i hj; exact ⟨hj, h⟩
  · cases h
theorem cut_len {cs : List C} {o n : Nat} (h : o + n ≤ cs.length) : (cut cs o n).length = n := by simp [cut]; omega
theorem RCs.cut {H : Hp} {ρ : Rho} {D : Nat → Prop} {cs : List C} {vs : Array Value} (h : RCs H ρ D cs vs) {o n : Nat} (hn : o + n ≤ cs.length) :
    RCs H ρ D (cut cs o n) ((List.range n).map fun j => vs.getD (o + j) Go.undef).toArray := by
  refine ⟨by simp [cut_len hn], fun j c hj => ?_⟩
  obtain ⟨h1, h2⟩ := cut_get hj
  have := h.2 _ _ h2
  rw [Array.getD_eq_getD_getElem?]
  simp only [List.getElem?_toArray, List.getElem?_map, List.getElem?_range h1, Option.map_some, Option.getD_some]
  exact this
def lfs (ls : List Lf) : List C := ls.map .lf
def Lf.sc : Lf → Bool
  | .list _ _ => false
  | _ => true
def getE (E : ETy) (xs : Unit → List E.α) (i : Unit → Nat) : Unit → E.α := fun _ => (xs ()).getD (i ()) E.dflt
def exLoad (tab : Tab) (bs : List (Nat × Blk)) (T : TypeId) : V → Option V
  | .c (.ptr k off) =>
    match getB bs k, tget tab T with
    | some (.box cs), some (.st n _ _ _) => if off + n ≤ cs.length then some (.agg (cut cs off n)) else none
    | some (.box cs), some _ => (cs[off]?).map .c
    | _, _ => none
  | .c (.el E x off) =>
    match tget tab T with
    | some (.st n _ _ _) => if off + n ≤ E.sz ∧ 0 < n then some (.agg (cut (lfs (cellsT E x)) off n)) else none
    | some _ => ((lfs (cellsT E x))[off]?).map .c
    | none => none
  | .c (.pcs ls off) =>
    match tget tab T with
    | some (.st n _ _ _) => if off + n ≤ ls.length ∧ 0 < n then some (.agg (cut (lfs ls) off n)) else none
    | some _ => ((lfs ls)[off]?).map .c
    | none => none
  | .c (.oel k E i off) =>
    match getB bs k, tget tab T with
    | some (.own E' xs _), some (.st n _ _ _) => if E = E' ∧ (((cellsT E' (getE E' xs i)).drop off).take n).all Lf.sc = true ∧ off + n ≤ E'.sz then some (.agg (cut (lfs (cellsT E' (getE E' xs i))) off n)) else none
    | some (.own E' xs _), some _ => if E = E' then (match (cellsT E' (getE E' xs i))[off]? with | some l => if l.sc then some (.c (.lf l)) else none | none => none) else none
    | _, _ => none
  | _ => none
def Keeps (H : Hp) (ρ : Rho) (rd : List Nat) (w w' : World) : Prop :=
  (∀ b o, H b = some o → w'.heap[b]? = some o) ∧ ∀ k ∈ rd, ∀ x, 0 < (ρ k).2 x → w'.heap[x]? = w.heap[x]?
theorem Keeps.refl {Γ : Ctx} {H : Hp} {ρ : Rho} {σ : SS} {a : Act} {w : World} (r : RelH Γ H ρ σ a w) (rd : List Nat) : Keeps H ρ rd w w :=
  ⟨r.b.hh, fun _ _ _ _ => rfl⟩
def rdV : V → List Nat
  | .c (.ptr k _) => [k]
  | .c (.oel k _ _ _) => [k]
  | _ => []
theorem ti_agg {P : Program} {T : TypeId} {ti : TI} (h : tiB P T ti = true) :
    ∃ d i, P.underlying T = some d ∧ (match ti with | .st n _ _ _ => aggD d = true ∧ P.info? T = some i ∧ i.size = n | _ => aggD d = false) := by
  cases ti with
  | sl E elem bytes => obtain ⟨h1, i, z, h2⟩ := ti_sl h; exact ⟨_, i, h1, rfl⟩
  | st n fs z q => obtain ⟨fields, h1, _, i, cs, h2, h3, _⟩ := ti_st h; exact ⟨_, i, h1, rfl, h2, h3⟩
  | sc z => obtain ⟨⟨d, h1, h2⟩, i, v, h3⟩ := ti_sc h; exact ⟨d, i, h1, h2⟩
  | it k => obtain ⟨_, i, v, _⟩ := ti_sc (ti_it h).2; exact ⟨_, i, (ti_it h).1, rfl⟩
  | bt => obtain ⟨_, i, v, _⟩ := ti_sc (ti_bt h).2; exact ⟨_, i, (ti_bt h).1, rfl⟩
  | ss => obtain ⟨_, i, v, _⟩ := ti_sc (ti_ss h).2; exact ⟨_, i, (ti_ss h).1, rfl⟩
  | mp kt et => obtain ⟨_, i, v, _⟩ := ti_sc (ti_mp h).2.2.2; exact ⟨_, i, (ti_mp h).1, rfl⟩
theorem getD_some {vs : Array Value} {o : Nat} (h : o < vs.size) : vs[o]? = some (vs.getD o Go.undef) := by
  rw [Array.getD_eq_getD_getElem?, Array.getElem?_eq_getElem h]; rfl
theorem OwnL.rl_sc {h : Array Obj} {H : Hp} {l : Lf} {v : Value} {S : Nat → Nat} (ho : OwnL h l v S) (hs : l.sc = true) : RL H l v := by
  cases ho with
  | int hr => exact .int hr
  | bool => exact .bool
  | str hm => exact .str hm
  | nil h0 => simp [Lf.sc] at hs
  | list _ _ _ _ _ _ _ => simp [Lf.sc] at hs
theorem oel_cells {h : Array Obj} {E : ETy} {xs : Unit → List E.α} {b o n c : Nat} {S : Nat → Nat} (ho : OwnL h (.list E xs) (.slice (some ⟨b, o, none⟩) n c) S) {i : Nat} (hi : i < n) :
    ∃ cs e fz, h[b]? = some (.cells cs e fz) ∧ NF cs fz ∧ 0 < S b ∧ o + (i + 1) * E.sz ≤ cs.size ∧ n = (xs ()).length ∧
      ∀ j l, (cellsT E fun _ => (xs ()).getD i E.dflt)[j]? = some l → ∃ S', OwnL h l (cs.getD (o + i * E.sz + j) Go.undef) S' := by
  generalize hv : Value.slice (some ⟨b, o, none⟩) n c = v at ho
  generalize hl : Lf.list E xs = l at ho
  cases ho with
  | int hr => cases hv
  | bool => cases hl
  | str hm => cases hv
  | nil h0 => simp at hv
  | list S hb hf hl' hm ho hc =>
    simp only [Value.slice.injEq, Option.some.injEq, Addr.mk.injEq, and_true] at hv
    obtain ⟨⟨rfl, rfl⟩, rfl, rfl⟩ := hv
    cases hl
    refine ⟨_, _, _, hb, hf, cnt_top _ _ _ _, Nat.le_trans ?_ ho, rfl, fun j l hj => ⟨_, hc i _ ?_ j l hj⟩⟩
    · exact Nat.add_le_add_left (Nat.mul_le_mul_right _ (by omega)) _
    · rw [List.getD_eq_getElem?_getD, List.getElem?_eq_getElem hi]; rfl
section
variable {P : Program} {tab : Tab} (hT : tabB P tab = true) {Γ : Ctx} {H : Hp} {ρ : Rho} {σ : SS} {a : Act} {w : World} (r : RelH Γ H ρ σ a w)
include hT r
theorem exLoad_ok {T : TypeId} {x : V} {p : Value} {v : V} (h : exLoad tab σ.blk T x = some v) (hp : RV H ρ (dom σ.blk) x p) :
    ∃ y, RV H ρ (dom σ.blk) v y ∧ ∀ w', Keeps H ρ (rdV x) w w' → (Instr.loadAt T p).run P w' = .ok y w' := by
  unfold exLoad at h
  split at h
  · rename_i k off
    obtain ⟨hk, b, h1, rfl⟩ := hp
    split at h
    · rename_i cs n fs z q hB hti
      split at h
      · rename_i hn
        cases h
        obtain ⟨d, i, hU, hd, hi, hin⟩ := ti_agg (tget_ok hT hti)
        have hbox := r.b.blk k _ (getB_mem hB)
        obtain ⟨b', vs, e, fz, h2, h3, h4, h5, h6⟩ := hbox
        rw [h1] at h2
        simp only [Value.pointer.injEq, Option.some.injEq, Addr.mk.injEq, and_true] at h2
        subst h2
        refine ⟨_, ⟨_, rfl, h6.cut hn⟩, fun w' hk' => ?_⟩
        have h7 := hk'.2 k (by simp [rdV]) b (by simp [h3, one])
        rw [← hin]
        exact run_loadAgg hU hd hi (by rw [h7]; exact h4) (by rw [hin, h6.1]; exact hn)
      · cases h
    · rename_i cs ti hnot hB hti
      cases hc : cs[off]? with
      | none => simp [hc] at h
      | some c =>
        simp only [hc, Option.map_some, Option.some.injEq] at h
        subst h
        obtain ⟨d, i, hU, hd⟩ := ti_agg (tget_ok hT hti)
        have hd' : aggD d = false := by
          cases ti with
          | st n fs z q => exact (hnot n fs z q rfl).elim
          | _ => exact hd
        have hbox := r.b.blk k _ (getB_mem hB)
        obtain ⟨b', vs, e, fz, h2, h3, h4, h5, h6⟩ := hbox
        rw [h1] at h2
        simp only [Value.pointer.injEq, Option.some.injEq, Addr.mk.injEq, and_true] at h2
        subst h2
        refine ⟨_, h6.2 _ _ hc, fun w' hk' => ?_⟩
        have h7 := hk'.2 k (by simp [rdV]) b (by simp [h3, one])
        exact run_loadSc hU hd' (by rw [h7]; exact h4) (getD_some (by rw [h6.1]; exact lt_of_get hc))
    · cases h
  · rename_i E x off
    obtain ⟨b, o, cs, e, fz, h1, rfl, h3⟩ := hp
    split at h
    · rename_i n fs z q hti
      split at h
      · rename_i hn
        obtain ⟨hn, hn0⟩ := hn
        cases h
        obtain ⟨d, i, hU, hd, hi, hin⟩ := ti_agg (tget_ok hT hti)
        have hlen := cellsT_len E x
        have hget : ∀ j, j < n → ∃ l, (cellsT E x)[off + j]? = some l := fun j hj => ⟨_, List.getElem?_eq_getElem (by omega)⟩
        have hsz : o + i.size ≤ cs.size := by
          obtain ⟨l, hl⟩ := hget (n - 1) (by omega)
          have := (h3 _ l hl).1
          omega
        refine ⟨_, ⟨_, rfl, ?_, fun j c hj => ?_⟩, fun w' hk' => run_loadAgg hU hd hi (hk'.1 _ _ h1) hsz⟩
        · rw [cut_len (by simpa [lfs, hlen] using hn)]; simp [hin]
        · obtain ⟨h5, h6⟩ := cut_get hj
          simp only [lfs, List.getElem?_map, Option.map_eq_some_iff] at h6
          obtain ⟨l, hl, rfl⟩ := h6
          have := (h3 _ _ hl).2
          rw [Array.getD_eq_getD_getElem?]
          simp only [List.getElem?_toArray, List.getElem?_map, hin, List.getElem?_range h5, Option.map_some, Option.getD_some]
          exact this
      · cases h
    · rename_i ti hnot hti
      cases hc : (cellsT E x)[off]? with
      | none => simp [lfs, hc] at h
      | some l =>
        simp only [lfs, List.getElem?_map, hc, Option.map_some, Option.some.injEq] at h
        subst h
        obtain ⟨d, i, hU, hd⟩ := ti_agg (tget_ok hT hti)
        have hd' : aggD d = false := by
          cases ti with
          | st n fs z q => exact (hnot n fs z q rfl).elim
          | _ => exact hd
        have h4 := h3 0 l (by simpa using hc)
        simp only [Nat.add_zero] at h4
        exact ⟨_, h4.2, fun w' hk' => run_loadSc hU hd' (hk'.1 _ _ h1) (getD_some h4.1)⟩
    · cases h
  · rename_i ls off
    obtain ⟨b, o, cs, e, fz, h1, rfl, h3⟩ := hp
    split at h
    · rename_i n fs z q hti
      split at h
      · rename_i hn
        obtain ⟨hn, hn0⟩ := hn
        cases h
        obtain ⟨d, i, hU, hd, hi, hin⟩ := ti_agg (tget_ok hT hti)
        have hget : ∀ j, j < n → ∃ l, ls[off + j]? = some l := fun j hj => ⟨_, List.getElem?_eq_getElem (by omega)⟩
        have hsz : o + i.size ≤ cs.size := by
          obtain ⟨l, hl⟩ := hget (n - 1) (by omega)
          have := (h3 _ l hl).1
          omega
        refine ⟨_, ⟨_, rfl, ?_, fun j c hj => ?_⟩, fun w' hk' => run_loadAgg hU hd hi (hk'.1 _ _ h1) hsz⟩
        · rw [cut_len (by simpa [lfs] using hn)]; simp [hin]
        · obtain ⟨h5, h6⟩ := cut_get hj
          simp only [lfs, List.getElem?_map, Option.map_eq_some_iff] at h6
          obtain ⟨l, hl, rfl⟩ := h6
          have := (h3 _ _ hl).2
          rw [Array.getD_eq_getD_getElem?]
          simp only [List.getElem?_toArray, List.getElem?_map, hin, List.getElem?_range h5, Option.map_some, Option.getD_some]
          exact this
      · cases h
    · rename_i ti hnot hti
      cases hc : ls[off]? with
      | none => simp [lfs, hc] at h
      | some l =>
        simp only [lfs, List.getElem?_map, hc, Option.map_some, Option.some.injEq] at h
        subst h
        obtain ⟨d, i, hU, hd⟩ := ti_agg (tget_ok hT hti)
        have hd' : aggD d = false := by
          cases ti with
          | st n fs z q => exact (hnot n fs z q rfl).elim
          | _ => exact hd
        have h4 := h3 0 l (by simpa using hc)
        simp only [Nat.add_zero] at h4
        exact ⟨_, h4.2, fun w' hk' => run_loadSc hU hd' (hk'.1 _ _ h1) (getD_some h4.1)⟩
    · cases h
  · rename_i k E i off
    obtain ⟨hk, b, o, n, c, h1, hi, rfl⟩ := hp
    split at h
    · rename_i E' xs lent n' fs z q hB hti
      split at h
      · rename_i hn
        obtain ⟨rfl, hsc, hn⟩ := hn
        cases h
        obtain ⟨d, ii, hU, hd, hii, hin⟩ := ti_agg (tget_ok hT hti)
        have hown : OwnL w.heap (.list E xs) (ρ k).1 (ρ k).2 := r.b.blk k _ (getB_mem hB)
        rw [h1] at hown
        obtain ⟨cs, e, fz, h2, h3, h4, h5, h6, h7⟩ := oel_cells hown hi
        have hsz : o + i () * E.sz + off + ii.size ≤ cs.size := by rw [hin]; rw [Nat.add_mul] at h5; omega
        refine ⟨_, ⟨_, rfl, ?_, fun j c hj => ?_⟩, fun w' hk' => run_loadAgg hU hd hii (by rw [hk'.2 k (by simp [rdV]) b h4]; exact h2) hsz⟩
        · rw [cut_len (by simpa [lfs, cellsT_len] using hn)]; simp [hin]
        · obtain ⟨h8, h9⟩ := cut_get hj
          simp only [lfs, List.getElem?_map, Option.map_eq_some_iff] at h9
          obtain ⟨l, hl, rfl⟩ := h9
          obtain ⟨S', h10⟩ := h7 _ _ hl
          rw [Array.getD_eq_getD_getElem?]
          simp only [List.getElem?_toArray, List.getElem?_map, hin, List.getElem?_range h8, Option.map_some, Option.getD_some]
          rw [Nat.add_assoc]
          exact h10.rl_sc (List.all_eq_true.1 hsc _ (List.mem_of_getElem? (i := j) (by rw [List.getElem?_take, if_pos h8, List.getElem?_drop]; exact hl)))
      · cases h
    · rename_i E' xs lent ti hnot hB hti
      split at h
      · rename_i hE
        subst hE
        split at h
        · rename_i l hl
          split at h
          · rename_i hsc
            cases h
            obtain ⟨d, ii, hU, hd⟩ := ti_agg (tget_ok hT hti)
            have hd' : aggD d = false := by
              cases ti with
              | st n fs z q => exact (hnot n fs z q rfl).elim
              | _ => exact hd
            have hown : OwnL w.heap (.list E xs) (ρ k).1 (ρ k).2 := r.b.blk k _ (getB_mem hB)
            rw [h1] at hown
            obtain ⟨cs, e, fz, h2, h3, h4, h5, h6, h7⟩ := oel_cells hown hi
            obtain ⟨S', h10⟩ := h7 _ _ hl
            have hlt := lt_of_get hl
            rw [cellsT_len] at hlt
            rw [Nat.add_mul] at h5
            exact ⟨_, h10.rl_sc hsc, fun w' hk' => run_loadSc hU hd' (by rw [hk'.2 k (by simp [rdV]) b h4]; exact h2) (getD_some (by omega))⟩
          · cases h
        · cases h
      · cases h
    · cases h
  · cases h
end
end Go.Proofs.Ytlochjpjlhkjaaa
namespace Go.Proofs.Ytlochjpjlhkjaaa
open Go
theorem has_wrap (k : IntKind) (n : Int) : k.has (k.wrap n) := by
  cases k <;> simp only [IntKind.has, IntKind.min, IntKind.max, IntKind.wrap, IntKind.signed, IntKind.bits] <;> simp <;> (try split) <;> omega
theorem wrap_in {k : IntKind} {n : Int} (h : k.has n) : k.wrap n = n := by
  cases k <;> simp only [IntKind.has, IntKind.min, IntKind.max, IntKind.wrap, IntKind.signed, IntKind.bits] at h ⊢ <;> simp at h ⊢ <;> (try split) <;> omega
def cmpI (op : BinOp) (a b : Unit → Int) : Option (Unit → Bool) :=
  match op with
  | .eql => some fun _ => a () == b ()
  | .neq => some fun _ => a () != b ()
  | .lss => some fun _ => decide (a () < b ())
  | .leq => some fun _ => decide (a () ≤ b ())
  | .gtr => some fun _ => decide (b () < a ())
  | .geq => some fun _ => decide (b () ≤ a ())
  | _ => none
def boolT : V → Option (Unit → Bool)
  | .c (.bl b) => some fun _ => b
  | .c (.lf (.bool t)) => some t
  | _ => none
def eqCells : List C → List C → Option (Unit → Bool)
  | [], [] => some fun _ => true
  | .lf (.int k a) :: xs, .lf (.int k' b) :: ys => if k = k' then (match eqCells xs ys with | some t => some fun _ => a () == b () && t () | none => none) else none
  | _, _ => none
def bV (t : Unit → Bool) : V := .c (.lf (.bool t))
def iV (k : IntKind) (t : Unit → Int) : V := .c (.lf (.int k t))
def exBin (tab : Tab) (op : BinOp) (T : TypeId) : V → V → Option V
  | .c (.lf (.int k a)), .c (.lf (.int k' b)) => if k = k' then (match cmpI op a b with | some t => some (bV t) | none => none) else none
  | .c (.lf (.str a)), .c (.lf (.str b)) =>
    match op with
    | .eql => some (bV fun _ => a () == b ())
    | .neq => some (bV fun _ => !(a () == b ()))
    | _ => none
  | .agg xs, .agg ys =>
    match tget tab T with
    | some (.st _ fs _ true) => if xs.length = fs.length then (match op, eqCells xs ys with
      | .eql, some t => some (bV t)
      | .neq, some t => some (bV fun _ => !(t ()))
      | _, _ => none) else none
    | _ => none
  | x, y =>
    match boolT x, boolT y, tget tab T with
    | some a, some b, some .bt =>
      match op with
      | .eql => some (bV fun _ => a () == b ())
      | .neq => some (bV fun _ => !(a () == b ()))
      | _ => none
    | _, _, _ => none
section
variable {P : Program} {w : World} {H : Hp} {ρ : Rho} {D : Nat → Prop}
theorem boolT_ok {x : V} {t : Unit → Bool} {v : Value} (h : boolT x = some t) (hv : RV H ρ D x v) : v = .bool (t ()) := by
  unfold boolT at h
  split at h
  · cases h; exact hv
  · cases h
    simp only [RV, RC] at hv
    cases hv; rfl
  · cases h
theorem RL.of_int {k : IntKind} {t : Unit → Int} {v : Value} (h : RL H (.int k t) v) : v = .int k (t ()) ∧ k.has (t ()) := by
  cases h with | int h => exact ⟨rfl, h⟩
theorem RL.of_str {t : Unit → List UInt8} {v : Value} (h : RL H (.str t) v) : v = .string ⟨(t ()).toArray⟩ ∧ (t ()).length ≤ maxL := by
  cases h with | str h => exact ⟨rfl, h⟩
theorem RL.of_bool {t : Unit → Bool} {v : Value} (h : RL H (.bool t) v) : v = .bool (t ()) := by
  cases h; rfl
theorem eqF {d : Nat} {xs ys : List C} {vs us : Array Value} {t : Unit → Bool} (hx : RCs H ρ D xs vs) (hy : RCs H ρ D ys us) :
    ∀ (fs : List Field) (j : Nat), eqFB P j fs = true → j + fs.length = xs.length → eqCells (xs.drop j) (ys.drop j) = some t →
      (Op.eqFields (d + 1) vs us fs).run P w = .ok (t ()) w
  | [], j, _, hl, ht => by
    simp only [List.length_nil, Nat.add_zero] at hl
    subst hl
    rw [List.drop_length] at ht
    cases hys : ys.drop xs.length with
    | nil => rw [hys] at ht; simp only [eqCells, Option.some.injEq] at ht; subst ht; rfl
    | cons y r => rw [hys] at ht; simp [eqCells] at ht
  | f :: fs, j, hb, hl, ht => by
    simp only [eqFB, Bool.and_eq_true, decide_eq_true_eq] at hb
    obtain ⟨⟨⟨h1, h2⟩, h3⟩, h4⟩ := hb
    simp only [List.length_cons] at hl
    have hj : j < xs.length := by omega
    rw [List.drop_eq_getElem_cons hj] at ht
    have hjy : j < ys.length := by
      rcases Nat.lt_or_ge j ys.length with h | h
      · exact h
      · rw [List.drop_eq_nil_of_le h] at ht
        cases hxj : xs[j] with
        | lf l => rw [hxj] at ht; cases l <;> simp [eqCells] at ht
        | _ => rw [hxj] at ht; simp [eqCells] at ht
    rw [List.drop_eq_getElem_cons hjy] at ht
    have ex := hx.2 j _ (List.getElem?_eq_getElem hj)
    have ey := hy.2 j _ (List.getElem?_eq_getElem hjy)
    generalize xs[j] = cx at *
    generalize ys[j] = cy at *
    unfold eqCells at ht
    split at ht
    · rename_i heq _; cases heq
    · rename_i k a r k' b r' hc1 hc2
      simp only [List.cons.injEq] at hc1 hc2
      obtain ⟨rfl, rfl⟩ := hc1
      obtain ⟨rfl, rfl⟩ := hc2
      split at ht
      · rename_i hk
        subst hk
        split at ht
        · rename_i t' ht'
          cases ht
          obtain ⟨e1, _⟩ := RL.of_int ex
          obtain ⟨e2, _⟩ := RL.of_int ey
          have ih := eqF (d := d) hx hy fs (j + 1) h4 (by omega) ht'
          split at h3
          · rename_i kf hu
            have p1 : (part f.type vs f.offset).run P w = .ok (.int k (a ())) w := by
              simp only [part, Sem.run_bind, run_agg w hu, aggD, Result.andThen_ok, h1, getD_some (by rw [hx.1]; exact hj), e1]
              rfl
            have p2 : (part f.type us f.offset).run P w = .ok (.int k (b ())) w := by
              simp only [part, Sem.run_bind, run_agg w hu, aggD, Result.andThen_ok, h1, getD_some (by rw [hy.1]; exact hjy), e2]
              rfl
            simp only [Op.eqFields, h2, ne_eq, not_false_eq_true, if_true, Sem.run_bind, p1, p2, Result.andThen_ok, run_equalIn_int w d f.type k kf (a ()) (b ()) hu]
            cases hab : (a () == b ()) with
            | true => simpa [hab] using ih
            | false => simp
          · cases h3
        · cases ht
      · cases ht
    · cases ht
theorem run_guard_int {op : BinOp} {T : TypeId} {X Y : Operand} {k k' : IntKind} {a b : Int} : (eqGuard op T X Y (.int k a) (.int k' b)).run P w = .ok () w := by
  unfold eqGuard; cases op <;> rfl
theorem run_cmp {op : BinOp} {k : IntKind} {T : TypeId} {a b t} (h : cmpI op a b = some t) : (binOp op T (.int k (a ())) (.int k (b ()))).run P w = .ok (.bool (t ())) w := by
  cases op <;> simp only [cmpI] at h <;> cases h <;> simp [binOp, Op.intCmp]
end
def exFieldAddr (tab : Tab) (T : TypeId) (i : Nat) : V → Option V
  | .c (.ptr k off) => match tget tab T with | some (.st _ fs _ _) => (match fs[i]? with | some p => some (.c (.ptr k (off + p.1))) | none => none) | _ => none
  | .c (.el E x off) => match tget tab T with | some (.st _ fs _ _) => (match fs[i]? with | some p => some (.c (.el E x (off + p.1))) | none => none) | _ => none
  | .c (.pcs ls off) => match tget tab T with | some (.st _ fs _ _) => (match fs[i]? with | some p => some (.c (.pcs ls (off + p.1))) | none => none) | _ => none
  | .c (.oel k E j off) => match tget tab T with | some (.st _ fs _ _) => (match fs[i]? with | some p => some (.c (.oel k E j (off + p.1))) | none => none) | _ => none
  | _ => none
def exField (tab : Tab) (T : TypeId) (i : Nat) : V → Option V
  | .agg cs =>
    match tget tab T with
    | some (.st _ fs _ _) =>
      match fs[i]? with
      | some (o, n, true) => if o + n ≤ cs.length then some (.agg (cut cs o n)) else none
      | some (o, _, false) => (match cs[o]? with | some c => some (.c c) | none => none)
      | none => none
    | _ => none
  | _ => none
theorem run_fieldAt {P : Program} {w : World} {T : TypeId} {n : Nat} {fs : List (Nat × Nat × Bool)} {z : List Z} {q : Bool} (h : tiB P T (.st n fs z q) = true) {i : Nat} {p : Nat × Nat × Bool} (hp : fs[i]? = some p) (b o : Nat) :
    (Instr.fieldAt T (.pointer (some ⟨b, o, none⟩)) i).run P w = .ok (.pointer (some ⟨b, o + p.1, none⟩)) w := by
  obtain ⟨fields, hU, ⟨hf, _⟩, _⟩ := ti_st h
  obtain ⟨f, h1, h2, ⟨fi, h3, h4⟩, h5, _⟩ := fld_get hf hp
  have h1' : fields[i]? = some f := by simpa using h1
  have h6 : fi.size ≠ 0 := by rw [h4]; exact h5
  simp only [Instr.fieldAt, Sem.run_bind, run_und w hU, Result.andThen_ok, h1', Instr.sureAddr, fieldPlace, run_szOf w h3, Sem.run_pure, h6, if_false, addr_add, h2]
section
variable {P : Program} {tab : Tab} (hT : tabB P tab = true) {Γ : Ctx} {H : Hp} {ρ : Rho} {D : Nat → Prop} {w : World}
include hT
theorem exFieldAddr_ok {T : TypeId} {i : Nat} {x v : V} {p : Value} (h : exFieldAddr tab T i x = some v) (hp : RV H ρ D x p) :
    ∃ y, RV H ρ D v y ∧ ∀ w', (Instr.fieldAt T p i).run P w' = .ok y w' := by
  unfold exFieldAddr at h
  split at h
  · obtain ⟨hk, b, h1, rfl⟩ := hp
    split at h
    · rename_i hti
      split at h
      · rename_i q hq
        cases h
        exact ⟨_, ⟨hk, b, h1, rfl⟩, fun w' => run_fieldAt (tget_ok hT hti) hq b _⟩
      · cases h
    · cases h
  · rename_i E x off
    obtain ⟨b, o, cs, e, fz, h1, rfl, h3⟩ := hp
    split at h
    · rename_i hti
      split at h
      · rename_i q hq
        cases h
        refine ⟨_, ⟨b, o + q.1, cs, e, fz, h1, rfl, fun j l hj => ?_⟩, fun w' => run_fieldAt (tget_ok hT hti) hq b _⟩
        have := h3 (q.1 + j) l (by rw [← Nat.add_assoc]; exact hj)
        rw [← Nat.add_assoc] at this
        exact this
      · cases h
    · cases h
  · rename_i ls off
    obtain ⟨b, o, cs, e, fz, h1, rfl, h3⟩ := hp
    split at h
    · rename_i hti
      split at h
      · rename_i q hq
        cases h
        refine ⟨_, ⟨b, o + q.1, cs, e, fz, h1, rfl, fun j l hj => ?_⟩, fun w' => run_fieldAt (tget_ok hT hti) hq b _⟩
        have := h3 (q.1 + j) l (by rw [← Nat.add_assoc]; exact hj)
        rw [← Nat.add_assoc] at this
        exact this
      · cases h
    · cases h
  · obtain ⟨hk, b, o, n, c, h1, hi, rfl⟩ := hp
    split at h
    · rename_i hti
      split at h
      · rename_i q hq
        cases h
        exact ⟨_, ⟨hk, b, o, n, c, h1, hi, rfl⟩, fun w' => by rw [← Nat.add_assoc]; exact run_fieldAt (tget_ok hT hti) hq b _⟩
      · cases h
    · cases h
  · cases h
theorem exField_ok {T : TypeId} {i : Nat} {x v : V} {p : Value} (h : exField tab T i x = some v) (hp : RV H ρ D x p) :
    ∃ y, RV H ρ D v y ∧ ∀ w', (Instr.field T p i).run P w' = .ok y w' := by
  unfold exField at h
  split at h
  · rename_i cs
    obtain ⟨vs, rfl, hcs⟩ := hp
    split at h
    · rename_i n fs z q hti
      obtain ⟨fields, hU, ⟨hf, _⟩, _⟩ := ti_st (tget_ok hT hti)
      split at h
      · rename_i o m hq
        split at h
        · rename_i hle
          cases h
          obtain ⟨f, h1, h2, ⟨fi, h3, h4⟩, h5, ⟨d, h6, h7⟩, _⟩ := fld_get hf hq
          have h1' : fields[i]? = some f := by simpa using h1
          refine ⟨_, ⟨_, rfl, hcs.cut hle⟩, fun w' => ?_⟩
          simp only [Instr.field, Sem.run_bind, run_und w' hU, Result.andThen_ok, h1', asAgg, Sem.run_pure, part, run_agg w' h6, h7, run_szOf w' h3, h2, h4, if_true]
          congr 2
          apply Array.ext
          · simp only [Array.size_extract, List.size_toArray, List.length_map, List.length_range]; have := hcs.1; omega
          · intro j hj1 hj2
            simp only [Array.getElem_extract, List.getElem_toArray, List.getElem_map, List.getElem_range]
            rw [Array.getD_eq_getD_getElem?, Array.getElem?_eq_getElem]
            rfl
        · cases h
      · rename_i o m hq
        split at h
        · rename_i c hc
          cases h
          obtain ⟨f, h1, h2, ⟨fi, h3, h4⟩, h5, ⟨d, h6, h7⟩, _⟩ := fld_get hf hq
          have h1' : fields[i]? = some f := by simpa using h1
          refine ⟨_, hcs.2 _ _ hc, fun w' => ?_⟩
          simp only [Instr.field, Sem.run_bind, run_und w' hU, Result.andThen_ok, h1', asAgg, Sem.run_pure, part, run_agg w' h6, h7, h2, Bool.false_eq_true, if_false,
            getD_some (show o < vs.size by rw [hcs.1]; exact lt_of_get hc)]
        · cases h
      · cases h
    · cases h
  · cases h
theorem exBin_ok {op : BinOp} {T : TypeId} {x y v : V} {p q : Value} {X Y : Operand} (h : exBin tab op T x y = some v) (hp : RV H ρ D x p) (hq : RV H ρ D y q) :
    ∃ z, RV H ρ D v z ∧ ∀ w', ((do eqGuard op T X Y p q; binOp op T p q) : Sem Value).run P w' = .ok z w' := by
  unfold exBin at h
  split at h
  · obtain ⟨rfl, _⟩ := RL.of_int hp
    obtain ⟨rfl, _⟩ := RL.of_int hq
    split at h
    · rename_i hk
      subst hk
      split at h
      · rename_i t ht
        cases h
        refine ⟨_, RL.bool, fun w' => ?_⟩
        rw [Sem.run_bind, run_guard_int, Result.andThen_ok, run_cmp ht]
      · cases h
    · cases h
  · rename_i a b
    obtain ⟨rfl, _⟩ := RL.of_str hp
    obtain ⟨rfl, _⟩ := RL.of_str hq
    split at h
    · cases h
      refine ⟨_, RL.bool, fun w' => ?_⟩
      simp [eqGuard, binOp, Op.stringOp]
    · cases h
      refine ⟨_, RL.bool, fun w' => ?_⟩
      simp [eqGuard, binOp, Op.stringOp]
    · cases h
  · rename_i xs ys
    obtain ⟨vs, rfl, hx⟩ := hp
    obtain ⟨us, rfl, hy⟩ := hq
    split at h
    · rename_i n fs z hti
      split at h
      · rename_i hn
        obtain ⟨fields, hU, ⟨hf, hq⟩, _⟩ := ti_st (tget_ok hT hti)
        have hq' := hq rfl
        simp only [eqB, Bool.and_eq_true, Bool.not_eq_true'] at hq'
        obtain ⟨⟨g1, g2⟩, g3⟩ := hq'
        have hFo : P.fieldsOf T = fields := by simp [Program.fieldsOf, hU]
        have hlen := fld_len hf
        have main : ∀ t, eqCells xs ys = some t → ∀ w', (Op.equalIn 10000 T (.agg vs) (.agg us)).run P w' = .ok (t ()) w' := fun t ht w' => by
          rw [run_equalIn_agg w' 9999 T vs us (by rw [hFo]; exact hU) g1, hFo]
          exact eqF hx hy fields.toList 0 g3 (by omega) (by simpa using ht)
        split at h
        · rename_i t ht
          cases h
          refine ⟨_, RL.bool, fun w' => ?_⟩
          rw [Sem.run_bind, run_eqGuard_agg w' _ T X Y vs us g2, Result.andThen_ok, run_eql_struct, main t ht]
          rfl
        · rename_i t ht
          cases h
          refine ⟨_, RL.bool, fun w' => ?_⟩
          rw [Sem.run_bind, run_eqGuard_agg w' _ T X Y vs us g2, Result.andThen_ok, run_neq_struct, main t ht]
          rfl
        · cases h
      · cases h
    · cases h
  · split at h
    · rename_i a b ha hb hti
      have hu := (ti_bt (tget_ok hT hti)).1
      have e1 := boolT_ok ha hp
      have e2 := boolT_ok hb hq
      subst e1 e2
      split at h
      · cases h
        refine ⟨_, RL.bool, fun w' => ?_⟩
        simp [eqGuard, binOp, run_equal_bool w' T _ _ hu]
      · cases h
        refine ⟨_, RL.bool, fun w' => ?_⟩
        simp [eqGuard, binOp, run_equal_bool w' T _ _ hu]
      · cases h
    · cases h
end
end Go.Proofs.Ytlochjpjlhkjaaa
namespace Go.Proofs.Ytlochjpjlhkjaaa
open Go
def cellsV : V → Option (List C)
  | .c .undef => none
  | .c x => some [x]
  | .agg cs => some cs
  | .tup _ => none
theorem RL.cells {H : Hp} {l : Lf} {v : Value} (h : RL H l v) : v.cells = #[v] := by cases h <;> rfl
theorem RC.cells {H : Hp} {ρ : Rho} {D : Nat → Prop} {c : C} {v : Value} (h : RC H ρ D c v) (hc : c.def? = true) (hv : ∀ k, c = .own k → v.oneCell' = true) : v.cells = #[v] ∧ v.oneCell' = true := by
  cases c with
  | lf l => exact ⟨RL.cells h, RL.one h⟩
  | bl b => simp only [RC] at h; subst h; exact ⟨rfl, rfl⟩
  | nil => simp only [RC] at h; subst h; exact ⟨rfl, rfl⟩
  | own k => have := hv k rfl; cases v <;> simp [Value.oneCell'] at this <;> exact ⟨rfl, rfl⟩
  | ptr k off => obtain ⟨_, b, _, rfl⟩ := h; exact ⟨rfl, rfl⟩
  | el E x off => obtain ⟨b, o, cs, e, fz, _, rfl, _⟩ := h; exact ⟨rfl, rfl⟩
  | pcs ls off => obtain ⟨b, o, cs, e, fz, _, rfl, _⟩ := h; exact ⟨rfl, rfl⟩
  | oel k E i off => obtain ⟨_, b, o, n, c, _, _, rfl⟩ := h; exact ⟨rfl, rfl⟩
  | fn f caps => obtain ⟨vs, rfl, _⟩ := h; exact ⟨rfl, rfl⟩
  | undef => simp [C.def?] at hc
def setCs : List C → Nat → List C → List C
  | cs, _, [] => cs
  | cs, o, x :: xs => setCs (cs.set o x) (o + 1) xs
def setVs (vs : Array Value) (o : Nat) : List Value → Array Value
  | [] => vs
  | x :: xs => setVs (vs.setIfInBounds o x) (o + 1) xs
theorem RCs.set {H : Hp} {ρ : Rho} {D : Nat → Prop} {cs : List C} {vs : Array Value} (h : RCs H ρ D cs vs) {o : Nat} {c : C} {v : Value} (hv : RC H ρ D c v) : RCs H ρ D (cs.set o c) (vs.setIfInBounds o v) := by
  refine ⟨by simpa using h.1, fun j x hj => ?_⟩
  rw [List.getElem?_set] at hj
  rw [Array.getD_eq_getD_getElem?, Array.getElem?_setIfInBounds]
  split at hj
  · rename_i ho
    split at hj
    · cases hj
      rw [if_pos ho, if_pos (by rw [h.1]; omega)]
      exact hv
    · cases hj
  · rename_i ho
    rw [if_neg ho, ← Array.getD_eq_getD_getElem?]
    exact h.2 j x hj
theorem RCs.sets {H : Hp} {ρ : Rho} {D : Nat → Prop} : ∀ (xs : List C) (us : List Value) {cs : List C} {vs : Array Value} {o : Nat}, RCs H ρ D cs vs → RCs H ρ D xs us.toArray →
    RCs H ρ D (setCs cs o xs) (setVs vs o us)
  | [], us, cs, vs, o, h, hx => by
    have : us = [] := by have := hx.1; simpa using this
    subst this
    exact h
  | x :: xs, us, cs, vs, o, h, hx => by
    cases us with
    | nil => have := hx.1; simp at this
    | cons u us =>
      have h0 := hx.2 0 x rfl
      refine RCs.sets xs us (h.set (by simpa using h0)) ⟨by simpa using hx.1, fun j c hj => ?_⟩
      have := hx.2 (j + 1) c (by simpa using hj)
      simpa using this
theorem zip_set (vs : Array Value) (o : Nat) (us : List Value) (k : Nat) : (us.zipIdx k).foldl (fun cs (p : Value × Nat) => cs.setIfInBounds (o + p.2) p.1) vs = setVs vs (o + k) us := by
  induction us generalizing vs k with
  | nil => rfl
  | cons u us ih => simp only [List.zipIdx_cons, List.foldl_cons, setVs]; rw [ih]; rfl
def fillC (fs : List (Nat × Nat × Bool)) : List C → List (Nat × V) → Option (List C)
  | cs, [] => some cs
  | cs, (i, v) :: rest =>
    match fs[i]?, cellsV v with
    | some p, some xs => if xs.length = p.2.1 ∧ p.1 + xs.length ≤ cs.length then fillC fs (setCs cs p.1 xs) rest else none
    | _, _ => none
def capV : V → Option Cp
  | .c (.ptr k off) => some (.ptr k off)
  | .c (.el E x off) => some (.el E x off)
  | .c (.pcs ls off) => some (.pcs ls off)
  | _ => none
def caps : List V → Option (List Cp)
  | [] => some []
  | x :: xs => match capV x, caps xs with | some c, some cs => some (c :: cs) | _, _ => none
def lenT (tab : Tab) (bs : List (Nat × Blk)) (T : TypeId) : V → Option (Unit → Nat)
  | .c (.lf (.list _ xs)) => match tget tab T with | some (.sl _ _ _) => some fun _ => (xs ()).length | _ => none
  | .c (.own k) => match tget tab T, getB bs k with | some (.sl _ _ _), some (.own _ xs _) => some fun _ => (xs ()).length | some (.sl _ _ _), some (.view _ xs) => some fun _ => (xs ()).length | _, _ => none
  | .c .nil => match tget tab T with | some (.sl _ _ _) => some fun _ => 0 | _ => none
  | .c (.lf (.str t)) => match tget tab T with | some .ss => some fun _ => (t ()).length | _ => none
  | _ => none
def notV : V → Option V
  | .c (.bl b) => some (.c (.bl (!b)))
  | .c (.lf (.bool t)) => some (bV fun _ => !(t ()))
  | _ => none
def maxT : List V → Option (IntKind × (Unit → Int))
  | [.c (.lf (.int k a)), .c (.lf (.int k' b))] => if k = k' then some (k, fun _ => if b () > a () then b () else a ()) else none
  | _ => none
def minT : List V → Option (IntKind × (Unit → Int))
  | [.c (.lf (.int k a)), .c (.lf (.int k' b))] => if k = k' then some (k, fun _ => if b () < a () then b () else a ()) else none
  | _ => none
def convT (tab : Tab) (src dst : TypeId) : V → Option V
  | .c (.lf (.int k a)) =>
    match tget tab src, tget tab dst with
    | some (.it _), some (.it .i64) => if k = .u8 ∨ k = .i64 then some (iV .i64 a) else some (iV .i64 fun _ => IntKind.i64.wrap (a ()))
    | some (.it _), some (.it k') => some (iV k' fun _ => k'.wrap (a ()))
    | _, _ => none
  | _ => none
def ptrV : V → Bool
  | .c (.ptr _ _) | .c (.el _ _ _) | .c (.pcs _ _) | .c (.oel _ _ _ _) | .c (.fn _ _) => true
  | _ => false
def ex (tab : Tab) (o : Oper) (σ : SS) : Option V :=
  match o.op with
  | .move x | .assign x => some (σ.ev x)
  | .pick c a b => match σ.ev c with | .c (.bl true) => some (σ.ev a) | .c (.bl false) => some (σ.ev b) | _ => none
  | .load T x => exLoad tab σ.blk T (σ.ev x)
  | .fieldAddr T x i => exFieldAddr tab T i (σ.ev x)
  | .field T x i => exField tab T i (σ.ev x)
  | .build T parts =>
    match tget tab T with
    | some (.st _ fs z _) => (match fillC fs (z.map Z.c) (parts.toList.map fun p => (p.1, σ.ev p.2)) with | some cs => some (.agg cs) | none => none)
    | _ => none
  | .unOp .not _ x => notV (σ.ev x)
  | .extract x i =>
    match σ.ev x with
    | .tup cs => (match cs[i]? with | some (true, l) => some (.agg l) | some (false, [c]) => some (.c c) | _ => none)
    | _ => none
  | .nilCheck x => if ptrV (σ.ev x) then some (σ.ev x) else none
  | .makeFunc (.func f) first captured => if first.size = 0 then (match caps (captured.toList.map σ.ev) with | some l => some (.c (.fn f l)) | none => none) else none
  | .binOp op T x y _ => exBin tab op T (σ.ev x) (σ.ev y)
  | .convert src dst x => convT tab src dst (σ.ev x)
  | .call c =>
    match c.callee with
    | .builtin .len => (match c.args.toList, c.argTypes.toList with
      | [x], [T] => (match lenT tab σ.blk T (σ.ev x) with | some n => some (iV .i64 fun _ => (n () : Int)) | none => none)
      | _, _ => none)
    | .builtin .max => (match maxT (c.args.toList.map σ.ev) with | some (k, t) => some (iV k t) | none => none)
    | .builtin .min => (match minT (c.args.toList.map σ.ev) with | some (k, t) => some (iV k t) | none => none)
    | _ => none
  | _ => none
def rdN (o : Oper) (σ : SS) : List Nat :=
  match o.op with
  | .load _ x => rdV (σ.ev x)
  | _ => []
section
variable {P : Program} {H : Hp} {ρ : Rho} {D : Nat → Prop}
theorem RV.cells {c : V} {v : Value} {cs : List C} (h : RV H ρ D c v) (hc : cellsV c = some cs) (hk : ∀ k, c = .c (.own k) → v.oneCell' = true) : RCs H ρ D cs v.cells := by
  cases c with
  | c x =>
    have hd : x.def? = true ∧ cs = [x] := by
      cases x <;> simp [cellsV] at hc <;> exact ⟨rfl, hc.symm⟩
    obtain ⟨hd, rfl⟩ := hd
    obtain ⟨h1, h2⟩ := RC.cells h hd fun k hk' => hk k (by rw [hk'])
    rw [h1]
    refine ⟨rfl, fun j c hj => ?_⟩
    cases j with
    | zero => simp at hj; subst hj; exact h
    | succ j => simp at hj
  | agg l => simp only [cellsV, Option.some.injEq] at hc; subst hc; obtain ⟨vs, rfl, h1⟩ := h; exact h1
  | tup l => simp [cellsV] at hc
theorem fill_ok {fs : List (Nat × Nat × Bool)} {places : Array (Nat × Nat)} (hpl : ∀ (i : Nat) (p : Nat × Nat × Bool), fs[i]? = some p → places[i]? = some (p.1, p.2.1))
    (hown : ∀ k, D k → (ρ k).1.oneCell' = true) :
    ∀ (parts : List (Nat × V)) (vals : List (Nat × Value)) (cs : List C) (vs : Array Value) (out : List C), RCs H ρ D cs vs → parts.length = vals.length →
      (∀ (j : Nat) i v i' x, parts[j]? = some (i, v) → vals[j]? = some (i', x) → i' = i ∧ RV H ρ D v x) → fillC fs cs parts = some out →
      ∃ us, Instr.fill (places[·]?) vs vals = some us ∧ RCs H ρ D out us
  | [], vals, cs, vs, out, h, hl, _, hf => by
    cases vals with
    | nil => simp only [fillC, Option.some.injEq] at hf; subst hf; exact ⟨vs, rfl, h⟩
    | cons v vs => simp at hl
  | (i, v) :: parts, vals, cs, vs, out, h, hl, hv, hf => by
    cases vals with
    | nil => simp at hl
    | cons q vals =>
      obtain ⟨i', x⟩ := q
      obtain ⟨rfl, hx⟩ := hv 0 i v i' x rfl rfl
      simp only [fillC] at hf
      split at hf
      · rename_i p xs hp hxs
        split at hf
        · rename_i hle
          have hc := hx.cells hxs fun k hk => by
            subst hk
            obtain ⟨hd, rfl⟩ := hx
            exact hown k hd
          have hsz : x.cells.size = xs.length := hc.1
          have h1 := RCs.sets xs x.cells.toList (o := p.1) h (by simpa using hc)
          obtain ⟨us, h2, h3⟩ := fill_ok hpl hown parts vals _ _ out h1 (by simpa using hl) (fun j i v i' x h4 h5 => hv (j + 1) i v i' x (by simpa using h4) (by simpa using h5)) hf
          refine ⟨us, ?_, h3⟩
          have hcond : ¬ ((decide (x.cells.size ≠ p.2.1) || decide (p.1 + x.cells.size > vs.size)) = true) := by
            have h4 := h.1
            have h5 := hle.1
            have h6 := hle.2
            simp only [hsz, h5, Bool.or_eq_true, decide_eq_true_eq]
            omega
          simp only [Instr.fill, hpl _ _ hp]
          rw [if_neg hcond]
          rw [← h2]
          congr 1
          rw [← Array.foldl_toList]
          have := zip_set vs p.1 x.cells.toList 0
          simp only [Nat.add_zero] at this
          rw [← this]
          simp [Array.toList_zipIdx]
        · cases hf
      · cases hf
theorem run_places_list : ∀ {fs : List (Nat × Nat × Bool)} {l : List Field}, fldB P fs l = true → ∀ w : World,
    (l.mapM (fun f => do pure (f.offset, ← sizeOf f.type)) : Sem (List (Nat × Nat))).run P w = .ok (fs.map fun p => (p.1, p.2.1)) w
  | [], [], _, w => by simp
  | [], _ :: _, h, _ => by simp [fldB] at h
  | _ :: _, [], h, _ => by simp [fldB] at h
  | p :: fs, f :: l, h, w => by
    obtain ⟨f', h1, h2, ⟨fi, h3, h4⟩, _⟩ := fld_get (i := 0) (p := p) h rfl
    cases h1
    simp only [fldB, Bool.and_eq_true] at h
    have ih := run_places_list h.2 w
    rw [List.mapM_cons, Sem.run_bind, Sem.run_bind, run_szOf w h3, Result.andThen_ok, Sem.run_pure, Result.andThen_ok, Sem.run_bind, ih]
    simp [h2, h4]
theorem run_places {fs : List (Nat × Nat × Bool)} {fields : Array Field} (h : fldB P fs fields.toList = true) (w : World) :
    (fields.mapM (fun f => do pure (f.offset, ← sizeOf f.type)) : Sem (Array (Nat × Nat))).run P w = .ok (fs.map fun p => (p.1, p.2.1)).toArray w := by
  rw [Array.mapM_eq_mapM_toList, Sem.run_map, run_places_list h w]
  rfl
theorem notV_ok {x v : V} {p : Value} (h : notV x = some v) (hp : RV H ρ D x p) : ∃ y, RV H ρ D v y ∧ ∀ w', (Op.unary .not p).run P w' = .ok y w' := by
  unfold notV at h
  split at h
  · cases h; simp only [RV, RC] at hp; subst hp; exact ⟨_, rfl, fun w' => rfl⟩
  · cases h; have := RL.of_bool hp; subst this; exact ⟨_, RL.bool, fun w' => rfl⟩
  · cases h
theorem caps_ok : ∀ (xs : List V) (vs : List Value) (l : List Cp), xs.length = vs.length → (∀ (j : Nat) x v, xs[j]? = some x → vs[j]? = some v → RV H ρ D x v) → caps xs = some l →
    vs.length = l.length ∧ ∀ j c, l[j]? = some c → RCp H ρ D c (vs.toArray.getD j Go.undef)
  | [], vs, l, hl, _, h => by
    cases vs with
    | nil => simp only [caps, Option.some.injEq] at h; subst h; exact ⟨rfl, fun j c hj => by simp at hj⟩
    | cons v vs => simp at hl
  | x :: xs, vs, l, hl, hv, h => by
    cases vs with
    | nil => simp at hl
    | cons v vs =>
      simp only [caps] at h
      split at h
      · rename_i c cs hc hcs
        cases h
        obtain ⟨h1, h2⟩ := caps_ok xs vs cs (by simpa using hl) (fun j x v hj hj' => hv (j + 1) x v (by simpa using hj) (by simpa using hj')) hcs
        refine ⟨by simpa using h1, fun j d hj => ?_⟩
        cases j with
        | zero =>
          simp only [List.getElem?_cons_zero, Option.some.injEq] at hj
          subst hj
          have := hv 0 x v rfl rfl
          unfold capV at hc
          split at hc
          · cases hc; exact this
          · cases hc; exact this
          · cases hc; exact this
          · cases hc
        | succ j => simpa using h2 j d (by simpa using hj)
      · cases h
end
section
variable {P : Program} {tab : Tab} (hT : tabB P tab = true) {Γ : Ctx} {H : Hp} {ρ : Rho} {σ : SS} {a : Act} {w : World} (r : RelH Γ H ρ σ a w)
include hT r
omit hT in
theorem own_of {k : Nat} {E : ETy} {xs : Unit → List E.α} {lent : Bool} (h : getB σ.blk k = some (.own E xs lent)) : OwnL w.heap (.list E xs) (ρ k).1 (ρ k).2 := r.b.blk k _ (getB_mem h)
omit hT r in
theorem OwnL.slice {h : Array Obj} {E : ETy} {xs : Unit → List E.α} {v : Value} {S : Nat → Nat} (ho : OwnL h (.list E xs) v S) : ∃ b c, v = .slice b (xs ()).length c ∧ (xs ()).length ≤ maxL := by
  generalize hl : Lf.list E xs = l at ho
  cases ho with
  | int hr => cases hl
  | bool => cases hl
  | str hm => cases hl
  | nil h0 => cases hl; exact ⟨none, 0, by simp [h0], by simp [h0, maxL]⟩
  | list S hb hf hl' hm ho hc => cases hl; exact ⟨_, _, rfl, hm⟩
omit hT r in
theorem RL.slice {E : ETy} {xs : Unit → List E.α} {v : Value} (ho : RL H (.list E xs) v) : ∃ b c, v = .slice b (xs ()).length c ∧ (xs ()).length ≤ maxL := by
  generalize hl : Lf.list E xs = l at ho
  cases ho with
  | int hr => cases hl
  | bool => cases hl
  | str hm => cases hl
  | nil h0 => cases hl; exact ⟨_, _, by rw [h0]; rfl, by simp [h0, maxL]⟩
  | list hb hl' hm ho hc => cases hl; exact ⟨_, _, rfl, hm⟩
theorem lenT_ok {T ty : TypeId} {x : V} {p : Value} {n : Unit → Nat} (h : lenT tab σ.blk T x = some n) (hp : RV H ρ (dom σ.blk) x p) :
    n () ≤ maxL ∧ ∀ w', (Builtin.len_ #[T] ty #[p]).run P w' = .ok (.int .i64 (n ())) w' := by
  unfold lenT at h
  split at h
  · split at h
    · rename_i hti
      cases h
      obtain ⟨b, c, rfl, hm⟩ := RL.slice hp
      exact ⟨hm, fun w' => by simp [Builtin.len_, run_und w' (ti_sl (tget_ok hT hti)).1, goInt]⟩
    · cases h
  · rename_i k
    split at h
    · rename_i hti hB
      cases h
      obtain ⟨hd, rfl⟩ := hp
      obtain ⟨b, c, h1, hm⟩ := OwnL.slice (own_of r hB)
      rw [h1]
      exact ⟨hm, fun w' => by simp [Builtin.len_, run_und w' (ti_sl (tget_ok hT hti)).1, goInt]⟩
    · rename_i hti hB
      cases h
      obtain ⟨hd, rfl⟩ := hp
      obtain ⟨b, c, h1, hm⟩ := RL.slice (r.b.blk k _ (getB_mem hB)).1
      rw [h1]
      exact ⟨hm, fun w' => by simp [Builtin.len_, run_und w' (ti_sl (tget_ok hT hti)).1, goInt]⟩
    · cases h
  · split at h
    · rename_i hti
      cases h
      simp only [RV, RC] at hp
      subst hp
      exact ⟨by simp [maxL], fun w' => by simp [Builtin.len_, run_und w' (ti_sl (tget_ok hT hti)).1, goInt]⟩
    · cases h
  · split at h
    · rename_i hti
      cases h
      obtain ⟨rfl, hm⟩ := RL.of_str hp
      exact ⟨hm, fun w' => by simp [Builtin.len_, run_und w' (ti_ss (tget_ok hT hti)).1, goInt]; rfl⟩
    · cases h
  · cases h
omit hT in
theorem own_one {k : Nat} {p : Value} (hp : RV H ρ (dom σ.blk) (.c (.own k)) p) : p.oneCell' = true := by
  obtain ⟨hd, rfl⟩ := hp; exact r.b.oc k hd
omit r in
theorem convT_ok {src dst : TypeId} {x v : V} {p : Value} (h : convT tab src dst x = some v) (hp : RV H ρ (dom σ.blk) x p) :
    ∃ y, RV H ρ (dom σ.blk) v y ∧ ∀ w', (convert src dst p).run P w' = .ok y w' := by
  unfold convT at h
  split at h
  · rename_i k t
    obtain ⟨rfl, hh⟩ := RL.of_int hp
    have key : ∀ k1 k', tiB P src (.it k1) = true → tiB P dst (.it k') = true → ∀ w', (convert src dst (.int k (t ()))).run P w' = .ok (.int k' (k'.wrap (t ()))) w' := fun k1 k' h1 h2 w' => by
      simp [convert, run_und w' (ti_it h1).1, run_und w' (ti_it h2).1, Conv.intToInt]
    split at h
    · rename_i k1 hs hd
      split at h
      · rename_i hk
        cases h
        have h64 : IntKind.i64.has (t ()) := by
          rcases hk with rfl | rfl
          · have := has_u8.1 hh; exact has_i64.2 (by omega)
          · exact hh
        refine ⟨_, RL.int h64, fun w' => ?_⟩
        rw [key _ _ (tget_ok hT hs) (tget_ok hT hd), wrap_in h64]
      · cases h
        exact ⟨_, RL.int (t := fun _ => IntKind.i64.wrap (t ())) (has_wrap _ _), fun w' => key _ _ (tget_ok hT hs) (tget_ok hT hd) w'⟩
    · rename_i k1 k' hne hs hd
      cases h
      exact ⟨_, RL.int (t := fun _ => IntKind.wrap k' (t ())) (has_wrap _ _), fun w' => key _ _ (tget_ok hT hs) (tget_ok hT hd) w'⟩
    · cases h
  · cases h
omit hT r in
theorem maxT_ok {xs : List V} {vs : List Value} {k : IntKind} {t : Unit → Int} {D : Nat → Prop} (h : maxT xs = some (k, t)) (hl : xs.length = vs.length)
    (hv : ∀ (j : Nat) x v, xs[j]? = some x → vs[j]? = some v → RV H ρ D x v) (at_ : Array TypeId) (ty : TypeId) :
    k.has (t ()) ∧ ∀ w', (Builtin.max_ at_ ty vs.toArray).run P w' = .ok (.int k (t ())) w' := by
  unfold maxT at h
  split at h
  · rename_i k a k' b
    split at h
    · rename_i hk
      subst hk
      cases h
      match vs, hl with
      | [v, u], _ =>
        obtain ⟨rfl, h1⟩ := RL.of_int (hv 0 _ _ rfl rfl)
        obtain ⟨rfl, h2⟩ := RL.of_int (hv 1 _ _ rfl rfl)
        refine ⟨?_, fun w' => by simp [Builtin.max_, Builtin.max2]⟩
        show IntKind.has k (if b () > a () then b () else a ())
        split <;> assumption
    · cases h
  · cases h
omit hT r in
theorem minT_ok {xs : List V} {vs : List Value} {k : IntKind} {t : Unit → Int} {D : Nat → Prop} (h : minT xs = some (k, t)) (hl : xs.length = vs.length)
    (hv : ∀ (j : Nat) x v, xs[j]? = some x → vs[j]? = some v → RV H ρ D x v) (at_ : Array TypeId) (ty : TypeId) :
    k.has (t ()) ∧ ∀ w', (Builtin.min_ at_ ty vs.toArray).run P w' = .ok (.int k (t ())) w' := by
  unfold minT at h
  split at h
  · rename_i k a k' b
    split at h
    · rename_i hk
      subst hk
      cases h
      match vs, hl with
      | [v, u], _ =>
        obtain ⟨rfl, h1⟩ := RL.of_int (hv 0 _ _ rfl rfl)
        obtain ⟨rfl, h2⟩ := RL.of_int (hv 1 _ _ rfl rfl)
        refine ⟨?_, fun w' => by simp [Builtin.min_, Builtin.min2]⟩
        show IntKind.has k (if b () < a () then b () else a ())
        split <;> assumption
    · cases h
  · cases h
omit hT in
theorem map_ev (args : Array Operand) (j : Nat) (x : V) (v : Value) (h : (args.toList.map σ.ev)[j]? = some x) (h' : (args.map a.eval).toList[j]? = some v) : RV H ρ (dom σ.blk) x v := by
  simp only [Array.toList_map, List.getElem?_map, Option.map_eq_some_iff] at h h'
  obtain ⟨o, h1, rfl⟩ := h
  obtain ⟨o', h2, rfl⟩ := h'
  rw [h1] at h2
  cases h2
  exact ev_ok r.e o
theorem ex_ok {o : Oper} {v : V} (h : ex tab o σ = some v) :
    ∃ y, RV H ρ (dom σ.blk) v y ∧ ∀ w', Keeps H ρ (rdN o σ) w w' → (execOp a.eval o).run P w' = .ok (.value y) w' := by
  have ev := ev_ok r.e
  unfold ex at h
  split at h
  · rename_i x hop; cases h; exact ⟨_, ev x, fun w' _ => by simp [execOp, hop]⟩
  · rename_i x hop; cases h; exact ⟨_, ev x, fun w' _ => by simp [execOp, hop]⟩
  · rename_i c x y hop
    have hc := ev c
    split at h
    · rename_i hcv
      rw [hcv] at hc
      simp only [RV, RC] at hc
      cases h; exact ⟨_, ev x, fun w' _ => by simp [execOp, hop, hc, asBool]⟩
    · rename_i hcv
      rw [hcv] at hc
      simp only [RV, RC] at hc
      cases h; exact ⟨_, ev y, fun w' _ => by simp [execOp, hop, hc, asBool]⟩
    · cases h
  · rename_i T x hop
    obtain ⟨y, h1, h2⟩ := exLoad_ok hT r h (ev x)
    refine ⟨y, h1, fun w' hk => ?_⟩
    have := h2 w' (by simpa [rdN, hop] using hk)
    simp [execOp, hop, this]
  · rename_i T x i hop
    obtain ⟨y, h1, h2⟩ := exFieldAddr_ok hT h (ev x)
    exact ⟨y, h1, fun w' hk => by simp [execOp, hop, h2 w']⟩
  · rename_i T x i hop
    obtain ⟨y, h1, h2⟩ := exField_ok hT h (ev x)
    exact ⟨y, h1, fun w' hk => by simp [execOp, hop, h2 w']⟩
  · rename_i T parts hop
    split at h
    · rename_i n fs z q hti
      split at h
      · rename_i cs hf
        cases h
        obtain ⟨fields, hU, ⟨hfl, _⟩, i, zs, hi, hin, hz, hzo⟩ := ti_st (tget_ok hT hti)
        have hz0 := Z.oks_cs (H := H) (ρ := ρ) (D := dom σ.blk) hzo
        obtain ⟨us, h3, h4⟩ := fill_ok (places := (fs.map fun p => (p.1, p.2.1)).toArray) (fun i p hp => by simp [hp]) r.b.oc _ (parts.toList.map fun p => (p.1, a.eval p.2)) _ _ _ hz0 (by simp) (fun j i v i' x h5 h6 => by
          simp only [List.getElem?_map, Option.map_eq_some_iff, Prod.mk.injEq] at h5 h6
          obtain ⟨p, h7, rfl, rfl⟩ := h5
          obtain ⟨p', h8, rfl, rfl⟩ := h6
          rw [h7] at h8
          cases h8
          exact ⟨rfl, ev _⟩) hf
        refine ⟨_, ⟨us, rfl, h4⟩, fun w' _ => ?_⟩
        have h5 := run_places hfl w'
        simp only [Array.toArray_toList] at h3 h5
        simp only [execOp, hop, Instr.build, Sem.run_bind, run_zero w' hi hz, run_und w' hU, Result.andThen_ok, h5, Array.toList_map, Value.cells, h3]
        rfl
      · cases h
    · cases h
  · rename_i T x hop
    obtain ⟨y, h1, h2⟩ := notV_ok (P := P) h (ev x)
    exact ⟨y, h1, fun w' _ => by simp [execOp, hop, h2 w']⟩
  · rename_i x i hop
    have hx := ev x
    split at h
    · rename_i cs hcs
      rw [hcs] at hx
      obtain ⟨vs, h1, h2, h3⟩ := hx
      split at h
      · rename_i l hl
        cases h
        have := h3 _ _ hl
        refine ⟨_, this, fun w' _ => ?_⟩
        have e := getD_some (show i < vs.size by rw [h2]; exact lt_of_get hl)
        simp only [execOp, hop, Instr.extract, h1, e]
        rfl
      · rename_i c hl
        cases h
        obtain ⟨c', h4, h5⟩ := h3 _ _ hl
        cases h4
        refine ⟨_, h5, fun w' _ => ?_⟩
        have e := getD_some (show i < vs.size by rw [h2]; exact lt_of_get hl)
        simp only [execOp, hop, Instr.extract, h1, e]
        rfl
      · cases h
    · cases h
  · rename_i x hop
    split at h
    · rename_i hpv
      cases h
      refine ⟨_, ev x, fun w' _ => ?_⟩
      have hx := ev x
      generalize σ.ev x = vx at hx hpv
      unfold ptrV at hpv
      split at hpv
      · obtain ⟨_, b, _, h1⟩ := hx; simp [execOp, hop, h1]
      · obtain ⟨b, o, cs, e, fz, _, h1, _⟩ := hx; simp [execOp, hop, h1]
      · obtain ⟨b, o, cs, e, fz, _, h1, _⟩ := hx; simp [execOp, hop, h1]
      · obtain ⟨_, b, o, n, c, _, _, h1⟩ := hx; simp [execOp, hop, h1]
      · obtain ⟨vs, h1, _⟩ := hx; simp [execOp, hop, h1]
      · cases hpv
    · cases h
  · rename_i f first captured hop
    split at h
    · rename_i h0
      split at h
      · rename_i l hl
        cases h
        obtain ⟨h1, h2⟩ := caps_ok _ (captured.map a.eval).toList l (by simp) (map_ev r captured) hl
        have hf : first = #[] := by simpa using h0
        refine ⟨_, ⟨captured.map a.eval, rfl, by simpa using h1, by simpa using h2⟩, fun w' _ => ?_⟩
        simp [execOp, hop, Instr.makeFunc, hf]
      · cases h
    · cases h
  · rename_i op T x y yT hop
    obtain ⟨z, h1, h2⟩ := exBin_ok hT (X := x) (Y := y) h (ev x) (ev y)
    refine ⟨z, h1, fun w' _ => ?_⟩
    have := h2 w'
    simp only [execOp, hop]
    rw [Sem.run_bind, this]
    rfl
  · rename_i src dst x hop
    obtain ⟨y, h1, h2⟩ := convT_ok hT h (ev x)
    exact ⟨y, h1, fun w' _ => by simp [execOp, hop, h2 w']⟩
  · rename_i c hop
    split at h
    · rename_i hcal
      split at h
      · rename_i x T hx hTt
        split at h
        · rename_i n hn
          cases h
          obtain ⟨h1, h2⟩ := lenT_ok hT r (ty := o.type) hn (ev x)
          have e1 : c.args = #[x] := by rw [← Array.toList_inj]; simpa using hx
          have e2 : c.argTypes = #[T] := by rw [← Array.toList_inj]; simpa using hTt
          refine ⟨_, RL.int (t := fun _ => ((n () : Nat) : Int)) (has_i64.2 (by unfold maxL at h1; omega)), fun w' _ => ?_⟩
          simp [execOp, hop, resolve, hcal, e1, e2, invoke, builtin, h2 w']
        · cases h
      · cases h
    · rename_i hcal
      split at h
      · rename_i k t ht
        cases h
        obtain ⟨h1, h2⟩ := maxT_ok (P := P) ht (vs := (c.args.map a.eval).toList) (by simp) (map_ev r c.args) c.argTypes o.type
        refine ⟨_, RL.int h1, fun w' _ => ?_⟩
        have := h2 w'
        simp only [Array.toArray_toList] at this
        simp [execOp, hop, resolve, hcal, invoke, builtin, this]
      · cases h
    · rename_i hcal
      split at h
      · rename_i k t ht
        cases h
        obtain ⟨h1, h2⟩ := minT_ok (P := P) ht (vs := (c.args.map a.eval).toList) (by simp) (map_ev r c.args) c.argTypes o.type
        refine ⟨_, RL.int h1, fun w' _ => ?_⟩
        have := h2 w'
        simp only [Array.toArray_toList] at this
        simp [execOp, hop, resolve, hcal, invoke, builtin, this]
      · cases h
    · cases h
  · cases h
end
end Go.Proofs.Ytlochjpjlhkjaaa
namespace Go.Proofs.Ytlochjpjlhkjaaa
open Go
inductive Br (t : Unit → Bool) (K : Bool → Prop) : Prop where
  | mk (h : K (t ()))
inductive Ix (E : ETy) (xs : Unit → List E.α) (i : Unit → Int) (K : (Unit → E.α) → Prop) : Prop where
  | mk (x : E.α) (h0 : 0 ≤ i ()) (h : (xs ())[(i ()).toNat]? = some x) (hk : K fun _ => x)
inductive Ar (k : IntKind) (t : Unit → Int) (K : (Unit → Int) → Prop) : Prop where
  | mk (u : Unit → Int) (h : k.wrap (t ()) = u ()) (hk : K u)
inductive Ob (p : Unit → Prop) (K : Unit → Prop) : Prop where
  | mk (h : p ()) (hk : K ())
theorem Br.split {t : Unit → Bool} {K : Bool → Prop} (h1 : t () = true → K true) (h0 : t () = false → K false) : Br t K := by
  cases h : t () with
  | true => exact ⟨by rw [h]; exact h1 h⟩
  | false => exact ⟨by rw [h]; exact h0 h⟩
theorem Br.yes {t : Unit → Bool} {K : Bool → Prop} (h : t () = true) (h1 : K true) : Br t K := ⟨by rw [h]; exact h1⟩
theorem Br.no {t : Unit → Bool} {K : Bool → Prop} (h : t () = false) (h1 : K false) : Br t K := ⟨by rw [h]; exact h1⟩
theorem Ar.exact {t : Unit → Int} {K : (Unit → Int) → Prop} (h1 : -9223372036854775808 ≤ t ()) (h2 : t () ≤ 9223372036854775807) (hk : K t) : Ar .i64 t K :=
  ⟨t, wrap_in (has_i64.2 ⟨h1, h2⟩), hk⟩
def arithI (op : BinOp) (a b : Unit → Int) : Option (Unit → Int) :=
  match op with
  | .add => some fun _ => a () + b ()
  | .sub => some fun _ => a () - b ()
  | .mul => some fun _ => a () * b ()
  | _ => none
def bitsI (op : BinOp) (k : IntKind) (a b : Unit → Int) : Option (Unit → Int) :=
  match op with
  | .and => some fun _ => ((BitVec.ofInt k.bits (a ()) &&& BitVec.ofInt k.bits (b ())).toNat : Int)
  | .or => some fun _ => ((BitVec.ofInt k.bits (a ()) ||| BitVec.ofInt k.bits (b ())).toNat : Int)
  | .xor => some fun _ => ((BitVec.ofInt k.bits (a ()) ^^^ BitVec.ofInt k.bits (b ())).toNat : Int)
  | _ => none
def binE (op : BinOp) (K : V → Prop) : V → V → Prop
  | .c (.lf (.int k a)), .c (.lf (.int k' b)) =>
    match op with
    | .shl => Ob (fun _ => 0 ≤ b ()) fun _ => Ar k (fun _ => a () * 2 ^ (min (b ()).toNat k.bits)) fun t => K (iV k t)
    | .shr => Ob (fun _ => 0 ≤ b ()) fun _ => Ar k (fun _ => (a ()).fdiv (2 ^ (min (b ()).toNat k.bits))) fun t => K (iV k t)
    | .quo => if k = k' then Ob (fun _ => b () ≠ 0) fun _ => Ar k (fun _ => (a ()).tdiv (b ())) fun t => K (iV k t) else False
    | .rem => if k = k' then Ob (fun _ => b () ≠ 0) fun _ => K (iV k fun _ => (a ()).tmod (b ())) else False
    | op =>
      if k = k' then
        match arithI op a b, bitsI op k a b with
        | some t, _ => Ar k t fun t => K (iV k t)
        | none, some t => Ar k t fun t => K (iV k t)
        | none, none => False
      else False
  | .c (.lf (.str a)), .c (.lf (.str b)) =>
    match op with
    | .add => Ob (fun _ => (a ()).length + (b ()).length ≤ maxL) fun _ => K (.c (.lf (.str fun _ => a () ++ b ())))
    | _ => False
  | _, _ => False
def negE (K : V → Prop) : V → Prop
  | .c (.lf (.int k a)) => Ar k (fun _ => 0 - a ()) fun t => K (iV k t)
  | _ => False
def ixE (tab : Tab) (bs : List (Nat × Blk)) (T : TypeId) (K : V → Prop) : V → V → Prop
  | .c (.lf (.list E xs)), .c (.lf (.int _ i)) =>
    match tget tab T with
    | some (.sl E' _ _) => if E = E' then Ix E xs i fun x => K (.c (.el E x 0)) else False
    | _ => False
  | .c (.own k), .c (.lf (.int _ i)) =>
    match tget tab T, getB bs k with
    | some (.sl E' _ _), some (.own E xs _) => if E = E' then Ob (fun _ => 0 ≤ i () ∧ i () < (xs ()).length) fun _ => K (.c (.oel k E (fun _ => (i ()).toNat) 0)) else False
    | some (.sl E' _ _), some (.hol E xs _ _) => if E = E' then Ob (fun _ => 0 ≤ i () ∧ i () < (xs ()).length) fun _ => K (.c (.oel k E (fun _ => (i ()).toNat) 0)) else False
    | some (.sl E' _ _), some (.view E xs) => if E = E' then Ix E xs i fun x => K (.c (.el E x 0)) else False
    | _, _ => False
  | _, _ => False
def boundV : Option V → (Unit → Int) → Option (Unit → Int)
  | none, d => some d
  | some (.c (.lf (.int _ i))), _ => some i
  | _, _ => none
def byNm (bs : List (Nat × Blk)) : V → V
  | .c (.own k) => match getB bs k with | some (.view E xs) => .c (.lf (.list E xs)) | _ => .c (.own k)
  | v => v
def slE (tab : Tab) (T : TypeId) (K : V → Prop) (x : V) (lo hi mx : Option V) : Prop :=
  match x, mx with
  | .c (.lf (.list E xs)), none =>
    match tget tab T, boundV lo fun _ => 0, boundV hi fun _ => ((xs ()).length : Int) with
    | some (.sl E' _ _), some l, some h => if E = E' then Ob (fun _ => 0 ≤ l () ∧ l () ≤ h () ∧ h () ≤ (xs ()).length) fun _ => K (.c (.lf (.list E fun _ => ((xs ()).take (h ()).toNat).drop (l ()).toNat))) else False
    | _, _, _ => False
  | .c (.lf (.str s)), none =>
    match tget tab T, boundV lo fun _ => 0, boundV hi fun _ => ((s ()).length : Int) with
    | some .ss, some l, some h => Ob (fun _ => 0 ≤ l () ∧ l () ≤ h () ∧ h () ≤ (s ()).length) fun _ => K (.c (.lf (.str fun _ => ((s ()).take (h ()).toNat).drop (l ()).toNat)))
    | _, _, _ => False
  | _, _ => False
def stE' (tab : Tab) (T : TypeId) (K : V → Prop) : V → V → Prop
  | .c (.lf (.str s)), .c (.lf (.int _ i)) =>
    match tget tab T with
    | some .ss => Ob (fun _ => 0 ≤ i () ∧ i () < (s ()).length) fun _ => K (iV .u8 fun _ => (((s ()).getD (i ()).toNat 0).toNat : Int))
    | _ => False
  | _, _ => False
def vcDet (tab : Tab) (o : Oper) (σ : SS) (K : V → Prop) : Prop :=
  match ex tab o σ with
  | some v => K v
  | none =>
    match o.op with
    | .pick c a b =>
      match σ.ev c with
      | .c (.lf (.bool t)) => Br t fun y => K (match y with | true => σ.ev a | false => σ.ev b)
      | _ => False
    | .binOp op _ x y _ => binE op K (σ.ev x) (σ.ev y)
    | .unOp .neg _ x => negE K (σ.ev x)
    | .indexAddr T x i => ixE tab σ.blk T K (σ.ev x) (σ.ev i)
    | .slice T x lo hi mx => slE tab T K (byNm σ.blk (σ.ev x)) (lo.map σ.ev) (hi.map σ.ev) (mx.map σ.ev)
    | .index T x i => stE' tab T K (σ.ev x) (σ.ev i)
    | _ => False
section
variable {P : Program} {w : World} {H : Hp} {ρ : Rho} {D : Nat → Prop}
theorem tmod_has {k : IntKind} {a b : Int} (h : k.has a) : k.has (a.tmod b) := by
  have h0 : k.has 0 := IntKind.has_zero k
  unfold IntKind.has at *
  have hn := Int.natAbs_tmod a b
  have hle := Nat.mod_le a.natAbs b.natAbs
  rcases Int.le_total 0 a with ha | ha
  · have h1 : 0 ≤ a.tmod b := Int.tmod_nonneg b ha
    omega
  · have h1 : 0 ≤ (-a).tmod b := Int.tmod_nonneg b (by omega)
    rw [Int.neg_tmod] at h1
    omega
theorem fdiv_has {k : IntKind} {a : Int} (h : k.has a) (n : Nat) : k.has (a.fdiv (2 ^ n)) := by
  have h0 : k.has 0 := IntKind.has_zero k
  unfold IntKind.has at *
  have hp : (0 : Int) < 2 ^ n := Int.pow_pos (by omega)
  rw [Int.fdiv_eq_ediv_of_nonneg _ (Int.le_of_lt hp)]
  generalize (2 : Int) ^ n = m at hp
  rcases Int.le_total 0 a with ha | ha
  · have h1 : 0 ≤ a / m := Int.ediv_nonneg ha (by omega)
    have h2 : a / m ≤ a := Int.ediv_le_self m ha
    omega
  · have h1 : a ≤ a / m := (Int.le_ediv_iff_mul_le hp).2 (by
      have := Int.mul_nonpos_of_nonpos_of_nonneg ha (show 0 ≤ m - 1 by omega)
      rw [Int.mul_sub, Int.mul_one] at this
      omega)
    have h2 : a / m ≤ 0 := by
      have := Int.ediv_le_ediv hp ha
      simpa using this
    omega
theorem guard_int (op : BinOp) (T : TypeId) (X Y : Operand) (k k' : IntKind) (a b : Int) (s : Sem Value) :
    ((do eqGuard op T X Y (.int k a) (.int k' b); s) : Sem Value).run P w = s.run P w := by
  rw [Sem.run_bind, run_guard_int]; rfl
theorem guard_op (op : BinOp) (T : TypeId) (X Y : Operand) (p q : Value) (s : Sem Value) (h : op = .add) :
    ((do eqGuard op T X Y p q; s) : Sem Value).run P w = s.run P w := by
  subst h
  rw [Sem.run_bind]
  have : (eqGuard .add T X Y p q).run P w = .ok () w := by unfold eqGuard; rfl
  rw [this]; rfl
theorem binE_ok {op : BinOp} {T : TypeId} {x y : V} {p q : Value} {X Y : Operand} {K : V → Prop} (h : binE op K x y) (hp : RV H ρ D x p) (hq : RV H ρ D y q) :
    ∃ v z, K v ∧ RV H ρ D v z ∧ ∀ w' : World, ((do eqGuard op T X Y p q; binOp op T p q) : Sem Value).run P w' = .ok z w' := by
  unfold binE at h
  split at h
  · rename_i k a k' b
    obtain ⟨rfl, ha⟩ := RL.of_int hp
    obtain ⟨rfl, hb⟩ := RL.of_int hq
    have key : ∀ (t : Int) (u : Unit → Int), k.wrap t = u () → (∀ w' : World, (binOp op T (.int k (a ())) (.int k' (b ()))).run P w' = .ok (.int k (k.wrap t)) w') → K (iV k u) →
        ∃ v z, K v ∧ RV H ρ D v z ∧ ∀ w' : World, ((do eqGuard op T X Y (.int k (a ())) (.int k' (b ())); binOp op T (.int k (a ())) (.int k' (b ()))) : Sem Value).run P w' = .ok z w' :=
      fun t u hu hr hk => ⟨_, _, hk, RL.int (t := u) (by rw [← hu]; exact has_wrap _ _), fun w' => by rw [guard_int, hr, hu]⟩
    split at h
    · obtain ⟨h1, u, h2, hk⟩ := h
      refine key _ u h2 (fun w' => ?_) hk
      simp only [binOp, Op.shift, if_neg (show ¬ b () < 0 by omega)]
      rfl
    · obtain ⟨h1, u, h2, hk⟩ := h
      have hin : k.has ((a ()).fdiv (2 ^ (min (b ()).toNat k.bits))) := fdiv_has ha _
      refine key _ u h2 (fun w' => ?_) hk
      rw [wrap_in hin]
      simp only [binOp, Op.shift, if_neg (show ¬ b () < 0 by omega)]
      rfl
    · split at h
      · rename_i hkk
        subst hkk
        obtain ⟨h1, u, h2, hk⟩ := h
        refine key _ u h2 (fun w' => ?_) hk
        simp [binOp, Op.intDiv, h1]
      · cases h
    · split at h
      · rename_i hkk
        subst hkk
        obtain ⟨h1, hk⟩ := h
        refine key _ (fun _ => (a ()).tmod (b ())) (wrap_in (tmod_has ha)) (fun w' => ?_) hk
        rw [wrap_in (tmod_has ha)]
        simp [binOp, Op.intDiv, h1]
      · cases h
    · rename_i op' n1 n2 n3 n4
      split at h
      · rename_i hkk
        subst hkk
        cases ht : arithI op a b with
        | some t =>
          simp only [ht] at h
          obtain ⟨u, h2, hk⟩ := h
          refine key (t ()) u h2 (fun w' => ?_) hk
          cases op <;> simp only [arithI] at ht <;> cases ht <;> simp [binOp, Op.intArith]
        | none =>
          cases hb : bitsI op k a b with
          | some t =>
            simp only [ht, hb] at h
            obtain ⟨u, h2, hk⟩ := h
            refine key (t ()) u h2 (fun w' => ?_) hk
            cases op <;> simp only [bitsI] at hb <;> cases hb <;> simp [binOp, Op.intBits]
          | none => simp only [ht, hb] at h
      · cases h
  · rename_i a b
    obtain ⟨rfl, ha⟩ := RL.of_str hp
    obtain ⟨rfl, hb⟩ := RL.of_str hq
    split at h
    · obtain ⟨h1, hk⟩ := h
      refine ⟨_, _, hk, RL.str (t := fun _ => a () ++ b ()) (by simpa using h1), fun w' => ?_⟩
      rw [guard_op _ _ _ _ _ _ _ rfl]
      have hs : ¬ (((ByteArray.mk (a ()).toArray).size + (ByteArray.mk (b ()).toArray).size : Nat) : Int) > IntKind.i64.max := by
        have e1 : (ByteArray.mk (a ()).toArray).size = (a ()).length := rfl
        have e2 : (ByteArray.mk (b ()).toArray).size = (b ()).length := rfl
        rw [e1, e2]
        unfold maxL at h1
        simp only [IntKind.max, IntKind.signed, IntKind.bits]
        omega
      simp only [binOp, Op.stringOp, if_neg hs]
      simp only [Sem.run_pure]
      congr 2
    · cases h
  · cases h
theorem negE_ok {x : V} {p : Value} {K : V → Prop} (h : negE K x) (hp : RV H ρ D x p) :
    ∃ v z, K v ∧ RV H ρ D v z ∧ ∀ w' : World, (Op.unary .neg p).run P w' = .ok z w' := by
  unfold negE at h
  split at h
  · rename_i k a
    obtain ⟨rfl, ha⟩ := RL.of_int hp
    obtain ⟨u, h2, hk⟩ := h
    refine ⟨_, _, hk, RL.int (t := u) (by rw [← h2]; exact has_wrap _ _), fun w' => ?_⟩
    rw [← h2]
    simp [Op.unary, Op.intArith]
  · cases h
end
section
variable {P : Program} {tab : Tab} (hT : tabB P tab = true) {Γ : Ctx} {H : Hp} {ρ : Rho} {σ : SS} {a : Act} {w : World} (r : RelH Γ H ρ σ a w)
include hT r
omit r in
theorem ixL_ok {E : ETy} {xs : Unit → List E.α} {i : Unit → Int} {k : IntKind} {T elem bytes : Nat} (hti : tget tab T = some (.sl E elem bytes)) {p : Value} {K : V → Prop} (h : Ix E xs i fun x => K (.c (.el E x 0))) (hp : RL H (.list E xs) p) :
    ∃ v z, K v ∧ RV H ρ (dom σ.blk) v z ∧ ∀ w' : World, (Instr.indexAt T p (.int k (i ()))).run P w' = .ok z w' := by
  obtain ⟨hU, ii, z, hin, hsz, _⟩ := ti_sl (tget_ok hT hti)
  obtain ⟨x, h0, hx, hk⟩ := h
  generalize hl : Lf.list E xs = l at hp
  cases hp with
  | int => cases hl
  | bool => cases hl
  | str => cases hl
  | nil hn => cases hl; rw [hn] at hx; simp at hx
  | @list _ _ b off c cs e fz hb hl' hm ho hc =>
    cases hl
    have hlt := lt_of_get hx
    refine ⟨_, .pointer (some ⟨b, off + (i ()).toNat * E.sz, none⟩), hk, ⟨_, _, _, _, _, hb, rfl, fun j l hj => ?_⟩, fun w' => ?_⟩
    rotate_left
    · simp only [Instr.indexAt, asIntOf, Sem.run_bind, Sem.run_pure, Result.andThen_ok, run_und w' hU]
      rw [if_pos (show 0 ≤ i () ∧ i () < ((xs ()).length : Int) by omega)]
      simp only [run_szOf w' hin, hsz, Result.andThen_ok, Sem.run_bind, Sem.run_pure, addr_add]
    · simp only [Nat.zero_add] at hj
      have hj' := lt_of_get hj
      rw [cellsT_len] at hj'
      have h2 : (i ()).toNat * E.sz + E.sz ≤ (xs ()).length * E.sz := by
        have := Nat.mul_le_mul_right E.sz (show (i ()).toNat + 1 ≤ (xs ()).length by omega)
        rw [Nat.add_mul] at this
        omega
      exact ⟨by omega, hc _ _ hx j l hj⟩
theorem ixE_ok {T : TypeId} {x y : V} {p q : Value} {K : V → Prop} (h : ixE tab σ.blk T K x y) (hp : RV H ρ (dom σ.blk) x p) (hq : RV H ρ (dom σ.blk) y q) :
    ∃ v z, K v ∧ RV H ρ (dom σ.blk) v z ∧ ∀ w' : World, (Instr.indexAt T p q).run P w' = .ok z w' := by
  unfold ixE at h
  split at h
  · rename_i E xs k i
    obtain ⟨rfl, hi⟩ := RL.of_int hq
    split at h
    · rename_i E' elem bytes hti
      split at h
      · rename_i hE
        subst hE
        exact ixL_ok (σ := σ) (ρ := ρ) hT hti h hp
      · cases h
    · cases h
  · rename_i k k' i
    obtain ⟨rfl, hi⟩ := RL.of_int hq
    split at h
    · rename_i E' elem bytes E xs lent hti hB
      split at h
      · rename_i hE
        subst hE
        obtain ⟨hU, ii, z, hin, hsz, _⟩ := ti_sl (tget_ok hT hti)
        obtain ⟨⟨h0, h1⟩, hk⟩ := h
        obtain ⟨hd, rfl⟩ := hp
        have hown := own_of r hB
        generalize hl : Lf.list E xs = l at hown
        generalize hv : (ρ k).1 = v at hown
        generalize hS : (ρ k).2 = S0 at hown
        cases hown with
        | int => cases hl
        | bool => cases hl
        | str => cases hl
        | nil hn => cases hl; rw [hn] at h1; simp at h1; omega
        | @list _ _ b off c cs e fz S hb hf hl' hm ho hc =>
          cases hl
          refine ⟨_, .pointer (some ⟨b, off + (i ()).toNat * E.sz + 0, none⟩), hk, ⟨hd, _, _, _, _, hv, (show (i ()).toNat < (xs ()).length by omega), rfl⟩, fun w' => ?_⟩
          simp only [Instr.indexAt, asIntOf, Sem.run_bind, Sem.run_pure, Result.andThen_ok, run_und w' hU]
          rw [if_pos (show 0 ≤ i () ∧ i () < ((xs ()).length : Int) by omega)]
          simp only [run_szOf w' hin, hsz, Result.andThen_ok, Sem.run_bind, Sem.run_pure, addr_add, Nat.add_zero]
      · cases h
    · rename_i E' elem bytes E xs _ _ hti hB
      split at h
      · rename_i hE
        subst hE
        obtain ⟨hU, ii, z, hin, hsz, _⟩ := ti_sl (tget_ok hT hti)
        obtain ⟨⟨h0, h1⟩, hk⟩ := h
        obtain ⟨hd, rfl⟩ := hp
        obtain ⟨b, off, c, cs, e, fz, S, hv, _⟩ := r.b.blk k _ (getB_mem hB)
        refine ⟨_, .pointer (some ⟨b, off + (i ()).toNat * E.sz + 0, none⟩), hk, ⟨hd, _, _, _, _, hv, (show (i ()).toNat < (xs ()).length by omega), rfl⟩, fun w' => ?_⟩
        rw [hv]
        simp only [Instr.indexAt, asIntOf, Sem.run_bind, Sem.run_pure, Result.andThen_ok, run_und w' hU]
        rw [if_pos (show 0 ≤ i () ∧ i () < ((xs ()).length : Int) by omega)]
        simp only [run_szOf w' hin, hsz, Result.andThen_ok, Sem.run_bind, Sem.run_pure, addr_add, Nat.add_zero]
      · cases h
    · rename_i E' elem bytes E xs hti hB
      split at h
      · rename_i hE
        subst hE
        obtain ⟨hd, rfl⟩ := hp
        exact ixL_ok (σ := σ) (ρ := ρ) hT hti h (r.b.blk k _ (getB_mem hB)).1
      · cases h
    · cases h
  · cases h
omit hT r in
theorem boundV_ok {D : Nat → Prop} {x : Option Operand} {d t : Unit → Int} (h : boundV (x.map σ.ev) d = some t) (hev : ∀ x, RV H ρ D (σ.ev x) (a.eval x)) :
    (x.map a.eval = none ∧ t = d) ∨ ∃ k, x.map a.eval = some (.int k (t ())) := by
  cases x with
  | none => simp only [Option.map_none, boundV, Option.some.injEq] at h; exact .inl ⟨rfl, h.symm⟩
  | some x =>
    have := hev x
    simp only [Option.map_some] at h ⊢
    generalize σ.ev x = v at h this
    unfold boundV at h
    split at h
    · cases ‹some v = none›
    · rename_i heq
      cases heq
      cases h
      obtain ⟨h1, _⟩ := RL.of_int this
      exact .inr ⟨_, by rw [h1]⟩
    · cases h
omit hT r in
theorem run_bounds {lo hi : Option Value} {l h len cap : Nat} (isS : Bool) (w' : World) (hl : (lo = none ∧ l = 0) ∨ ∃ k, lo = some (.int k (l : Int))) (hh : (hi = none ∧ h = len) ∨ ∃ k, hi = some (.int k (h : Int)))
    (h1 : l ≤ h) (h2 : h ≤ cap) : (Instr.sliceBounds isS len cap lo hi none).run P w' = .ok (l, h, cap) w' := by
  rcases hh with ⟨rfl, rfl⟩ | ⟨k, rfl⟩ <;> rcases hl with ⟨rfl, rfl⟩ | ⟨k', rfl⟩ <;>
    simp [Instr.sliceBounds, Instr.sliceBound, asIntOf, h1, h2]
omit hT in
theorem byNm_ok {v : V} {p : Value} (h : RV H ρ (dom σ.blk) v p) : RV H ρ (dom σ.blk) (byNm σ.blk v) p := by
  unfold byNm
  split
  · split
    · rename_i hB
      obtain ⟨_, rfl⟩ := h
      exact (r.b.blk _ _ (getB_mem hB)).1
    · exact h
  · exact h
theorem slE_ok {T : TypeId} {x : Operand} {lo hi mx : Option Operand} {K : V → Prop} (h : slE tab T K (byNm σ.blk (σ.ev x)) (lo.map σ.ev) (hi.map σ.ev) (mx.map σ.ev)) :
    ∃ v z, K v ∧ RV H ρ (dom σ.blk) v z ∧ ∀ w' : World, (Instr.sliceAt T (a.eval x) (lo.map a.eval) (hi.map a.eval) (mx.map a.eval)).run P w' = .ok z w' := by
  have hev := ev_ok r.e
  have hx := byNm_ok r (hev x)
  unfold slE at h
  generalize hv : byNm σ.blk (σ.ev x) = v at h hx
  split at h
  · rename_i E xs hmx
    have hmx' : mx = none := by cases mx <;> simp at hmx ⊢
    subst hmx'
    split at h
    · rename_i E' elem bytes l hh hti hl hhi
      split at h
      · rename_i hE
        subst hE
        obtain ⟨hU, ii, z, hin, hsz, _⟩ := ti_sl (tget_ok hT hti)
        obtain ⟨⟨o1, o2, o3⟩, hk⟩ := h
        obtain ⟨b, c, hp, hm⟩ := RL.slice hx
        obtain ⟨L, hL⟩ := Int.eq_ofNat_of_zero_le o1
        obtain ⟨U, hU'⟩ := Int.eq_ofNat_of_zero_le (show 0 ≤ hh () by omega)
        have e1 : (lo.map a.eval = none ∧ L = 0) ∨ ∃ k, lo.map a.eval = some (.int k (L : Int)) := by
          rcases boundV_ok hl hev with ⟨h1, h2⟩ | ⟨k, h1⟩
          · refine .inl ⟨h1, ?_⟩; rw [h2] at hL; simp at hL; omega
          · exact .inr ⟨k, by rw [h1, hL]⟩
        have e2 : (hi.map a.eval = none ∧ U = (xs ()).length) ∨ ∃ k, hi.map a.eval = some (.int k (U : Int)) := by
          rcases boundV_ok hhi hev with ⟨h1, h2⟩ | ⟨k, h1⟩
          · refine .inl ⟨h1, ?_⟩; rw [h2] at hU'; simp at hU'; omega
          · exact .inr ⟨k, by rw [h1, hU']⟩
        have hLU : L ≤ U := by omega
        have hUn : U ≤ (xs ()).length := by omega
        have hlen : (((xs ()).take U).drop L).length = U - L := by simp; omega
        have hrun : ∀ (bb : Option Addr) (cc : Nat), (xs ()).length ≤ cc → ∀ w' : World, (Instr.sliceAt T (.slice bb (xs ()).length cc) (lo.map a.eval) (hi.map a.eval) (Option.map a.eval none)).run P w' =
            .ok (.slice (if cc = L then bb else bb.map (·.add (L * E.sz))) (U - L) (cc - L)) w' := fun bb cc hcc w' => by
          simp only [Instr.sliceAt, Sem.run_bind, run_und w' hU, Result.andThen_ok, Instr.slice, Option.map_none]
          rw [run_bounds true w' e1 e2 hLU (by omega)]
          simp only [Result.andThen_ok, run_szOf w' hin, hsz, Sem.run_pure]
        have eL : (l ()).toNat = L := by omega
        have eU : (hh ()).toNat = U := by omega
        have hx' : RL H (.list E xs) (a.eval x) := hx
        generalize hq : Lf.list E xs = lf at hx'
        generalize hpp : a.eval x = p at hx'
        cases hx' with
        | int => cases hq
        | bool => cases hq
        | str => cases hq
        | @nil _ _ aa cc hn =>
          cases hq
          have h0 : (xs ()).length = 0 := by rw [hn]; rfl
          have hU0 : U = 0 := by omega
          have hL0 : L = 0 := by omega
          refine ⟨_, .slice (if cc = L then aa else aa.map (·.add (L * E.sz))) (U - L) (cc - L), hk, ?_, fun w' => ?_⟩
          rotate_left
          · have := hrun aa cc (by omega) w'
            rw [h0] at this
            exact this
          · show RL H _ _
            rw [hU0, Nat.zero_sub]
            exact RL.nil (by simp [hn])
        | @list _ _ bb off cc cs e fz hb hl' hm' ho hc =>
          cases hq
          refine ⟨_, _, hk, ?_, fun w' => hrun _ _ hl' w'⟩
          show RL H _ _
          by_cases hlt : L < U
          · rw [if_neg (by omega)]
            simp only [Option.map_some, addr_add]
            have := RL.list (H := H) (E := E) (t := fun _ => ((xs ()).take (hh ()).toNat).drop (l ()).toNat) (b := bb) (off := off + L * E.sz) (c := cc - L) hb (by rw [eL, eU, hlen]; omega) (by rw [eL, eU, hlen]; omega)
              (by rw [eL, eU, hlen]; have := Nat.mul_le_mul_right E.sz (show L + (U - L) ≤ (xs ()).length by omega); rw [Nat.add_mul] at this; omega)
              (fun i x hi j l' hj => by
                simp only [eL, eU, List.getElem?_drop, List.getElem?_take] at hi
                split at hi
                · have := hc _ _ hi j l' hj
                  rw [Nat.add_mul] at this
                  rw [show off + L * E.sz + i * E.sz + j = off + (L * E.sz + i * E.sz) + j by omega]
                  exact this
                · cases hi)
            rw [eL, eU, hlen] at this
            rw [eL, eU]
            exact this
          · have : U - L = 0 := by omega
            rw [this]
            exact RL.nil (List.length_eq_zero_iff.1 (by rw [eL, eU, hlen]; exact this))
      · cases h
    · cases h
  · rename_i s hmx
    have hmx' : mx = none := by cases mx <;> simp at hmx ⊢
    subst hmx'
    split at h
    · rename_i l hh hti hl hhi
      have hU := (ti_ss (tget_ok hT hti)).1
      obtain ⟨⟨o1, o2, o3⟩, hk⟩ := h
      obtain ⟨hp, hm⟩ := RL.of_str hx
      obtain ⟨L, hL⟩ := Int.eq_ofNat_of_zero_le o1
      obtain ⟨U, hU'⟩ := Int.eq_ofNat_of_zero_le (show 0 ≤ hh () by omega)
      have e1 : (lo.map a.eval = none ∧ L = 0) ∨ ∃ k, lo.map a.eval = some (.int k (L : Int)) := by
        rcases boundV_ok hl hev with ⟨h1, h2⟩ | ⟨k, h1⟩
        · refine .inl ⟨h1, ?_⟩; rw [h2] at hL; simp at hL; omega
        · exact .inr ⟨k, by rw [h1, hL]⟩
      have e2 : (hi.map a.eval = none ∧ U = (s ()).length) ∨ ∃ k, hi.map a.eval = some (.int k (U : Int)) := by
        rcases boundV_ok hhi hev with ⟨h1, h2⟩ | ⟨k, h1⟩
        · refine .inl ⟨h1, ?_⟩; rw [h2] at hU'; simp at hU'; omega
        · exact .inr ⟨k, by rw [h1, hU']⟩
      have eL : (l ()).toNat = L := by omega
      have eU : (hh ()).toNat = U := by omega
      refine ⟨_, _, hk, RL.str (t := fun _ => ((s ()).take (hh ()).toNat).drop (l ()).toNat) ?_, fun w' => ?_⟩
      · simp; omega
      · have hsize : (ByteArray.mk (s ()).toArray).size = (s ()).length := rfl
        rw [hp]
        simp only [Instr.sliceAt, Sem.run_bind, run_und w' hU, Result.andThen_ok, Instr.slice, Option.map_none, Option.isSome_none, Bool.false_eq_true, if_false, hsize, Sem.run_pure]
        rw [run_bounds false w' e1 e2 (by omega) (by omega)]
        simp only [Result.andThen_ok, eL, eU]
        congr 2
        apply ByteArray.ext
        simp [ByteArray.data_extract, List.drop_take]
    · cases h
  · cases h
omit r in
theorem stE'_ok {T : TypeId} {x y : V} {p q : Value} {K : V → Prop} (h : stE' tab T K x y) (hp : RV H ρ (dom σ.blk) x p) (hq : RV H ρ (dom σ.blk) y q) :
    ∃ v z, K v ∧ RV H ρ (dom σ.blk) v z ∧ ∀ w' : World, (Instr.index T p q).run P w' = .ok z w' := by
  unfold stE' at h
  split at h
  · rename_i s k i
    split at h
    · rename_i hti
      obtain ⟨hi, hk⟩ := h
      obtain ⟨rfl, hm⟩ := RL.of_str hp
      obtain ⟨rfl, _⟩ := RL.of_int hq
      have hU := (ti_ss (tget_ok hT hti)).1
      have hlt : (i ()).toNat < (s ()).length := by omega
      refine ⟨_, .int .u8 (((s ()).getD (i ()).toNat 0).toNat : Int), hk, RL.int (t := fun _ => (((s ()).getD (i ()).toNat 0).toNat : Int)) (has_u8.2 ⟨by omega, by have := ((s ()).getD (i ()).toNat 0).toNat_lt; omega⟩), fun w' => ?_⟩
      have hget : (if 0 ≤ i () then (⟨(s ()).toArray⟩ : ByteArray)[(i ()).toNat]? else none) = some ((s ()).getD (i ()).toNat 0) := by
        rw [if_pos hi.1]
        have h1 : (i ()).toNat < (⟨(s ()).toArray⟩ : ByteArray).size := by
          show (i ()).toNat < (s ()).toArray.size
          simpa using hlt
        rw [getElem?_pos (⟨(s ()).toArray⟩ : ByteArray) (i ()).toNat h1]
        congr 1
        rw [List.getD_eq_getElem?_getD, List.getElem?_eq_getElem hlt]
        rfl
      simp only [Instr.index, asIntOf, Sem.run_bind, Sem.run_pure, Result.andThen_ok, run_und w' hU, hget]
    · cases h
  · cases h
theorem vcDet_ok {o : Oper} {K : V → Prop} (h : vcDet tab o σ K) :
    ∃ v y, K v ∧ RV H ρ (dom σ.blk) v y ∧ ∀ w', Keeps H ρ (rdN o σ) w w' → (execOp a.eval o).run P w' = .ok (.value y) w' := by
  have ev := ev_ok r.e
  unfold vcDet at h
  split at h
  · rename_i v hv
    obtain ⟨y, h1, h2⟩ := ex_ok hT r hv
    exact ⟨v, y, h, h1, h2⟩
  · split at h
    · rename_i c x y hop
      have hc := ev c
      split at h
      · rename_i t hcv
        rw [hcv] at hc
        have hc' := RL.of_bool hc
        obtain ⟨hk⟩ := h
        cases ht : t () with
        | true =>
          rw [ht] at hk hc'
          exact ⟨_, _, hk, ev x, fun w' _ => by simp [execOp, hop, hc', asBool]⟩
        | false =>
          rw [ht] at hk hc'
          exact ⟨_, _, hk, ev y, fun w' _ => by simp [execOp, hop, hc', asBool]⟩
      · cases h
    · rename_i op T x y yT hop
      obtain ⟨v, z, hk, h1, h2⟩ := binE_ok (P := P) (T := T) (X := x) (Y := y) h (ev x) (ev y)
      refine ⟨v, z, hk, h1, fun w' _ => ?_⟩
      simp only [execOp, hop]
      rw [Sem.run_bind, h2 w']
      rfl
    · rename_i T x hop
      obtain ⟨v, z, hk, h1, h2⟩ := negE_ok (P := P) h (ev x)
      exact ⟨v, z, hk, h1, fun w' _ => by simp [execOp, hop, h2 w']⟩
    · rename_i T x i hop
      obtain ⟨v, z, hk, h1, h2⟩ := ixE_ok hT r h (ev x) (ev i)
      exact ⟨v, z, hk, h1, fun w' _ => by simp [execOp, hop, h2 w']⟩
    · rename_i T x lo hi mx hop
      obtain ⟨v, z, hk, h1, h2⟩ := slE_ok hT r h
      exact ⟨v, z, hk, h1, fun w' _ => by simp [execOp, hop, h2 w']⟩
    · rename_i T x i hop
      obtain ⟨v, z, hk, h1, h2⟩ := stE'_ok hT h (ev x) (ev i)
      exact ⟨v, z, hk, h1, fun w' _ => by simp [execOp, hop, h2 w']⟩
    · cases h
end
end Go.Proofs.Ytlochjpjlhkjaaa
namespace Go.Proofs.Ytlochjpjlhkjaaa
open Go
def upd (ρ : Rho) (k : Nat) (p : Value × (Nat → Nat)) : Rho := fun j => if j = k then p else ρ j
theorem upd_same (ρ : Rho) (k : Nat) (p : Value × (Nat → Nat)) : upd ρ k p k = p := by simp [upd]
theorem upd_other {ρ : Rho} {k j : Nat} {p : Value × (Nat → Nat)} (h : j ≠ k) : upd ρ k p j = ρ j := by simp [upd, h]
theorem lt_of_aget {α : Type} {l : Array α} {i : Nat} {x : α} (h : l[i]? = some x) : i < l.size := by
  rcases Nat.lt_or_ge i l.size with h' | h'
  · exact h'
  · rw [Array.getElem?_eq_none h'] at h; cases h
theorem BlkR.there {h : Array Obj} {H : Hp} {ρ : Rho} {D : Nat → Prop} {B : Blk} {p : Value × (Nat → Nat)} (hr : BlkR h H ρ D B p) : ∀ x, 0 < p.2 x → x < h.size := by
  intro x hx
  cases B with
  | dead => simp only [BlkR] at hr; rw [hr] at hx; simp at hx
  | box cs =>
    obtain ⟨b, vs, e, fz, _, h2, h3, _⟩ := hr
    rw [h2] at hx
    simp only [one] at hx
    split at hx
    · rename_i hb; subst hb; exact lt_of_aget h3
    · simp at hx
  | own E xs l => obtain ⟨cs, e, fz, h1⟩ := OwnL.there (h := h) hr x hx; exact lt_of_aget h1
  | mp m =>
    obtain ⟨b, es, c, _, h2, h3, _⟩ := hr
    rw [h2] at hx
    simp only [one] at hx
    split at hx
    · rename_i hb; subst hb; exact lt_of_aget h3
    · simp at hx
  | view E xs => rw [hr.2] at hx; simp at hx
  | hol E xs i fs =>
    obtain ⟨b, o, c, cs, e, fz, S, h1, h2, h3, h4, h5, h6, h7, h8, h9⟩ := hr
    rw [h2] at hx
    rcases cnt_cases hx with rfl | ⟨q, j, hq, hj, h10⟩
    · exact lt_of_aget h3
    · obtain ⟨y, hy⟩ : ∃ y, (xs ())[q]? = some y := ⟨_, List.getElem?_eq_getElem hq⟩
      obtain ⟨l, hl⟩ : ∃ l, (cellsT E fun _ => y)[j]? = some l := ⟨_, List.getElem?_eq_getElem (by rw [cellsT_len]; exact hj)⟩
      have h11 := h9 q y hy j l hl
      split at h11
      · rw [h11.2.2] at h10; simp at h10
      · obtain ⟨cs, e, fz, h12⟩ := h11.there x h10
        exact lt_of_aget h12
theorem tot_pos {ρ : Rho} {bs : List (Nat × Blk)} {x : Nat} (h : 0 < tot ρ bs x) : ∃ j A, (j, A) ∈ bs ∧ 0 < (ρ j).2 x := by
  induction bs with
  | nil => simp [tot] at h
  | cons q bs ih =>
    simp only [tot] at h
    by_cases h0 : 0 < (ρ q.1).2 x
    · exact ⟨q.1, q.2, List.mem_cons_self, h0⟩
    · obtain ⟨j, A, h2, h3⟩ := ih (by omega); exact ⟨j, A, List.mem_cons_of_mem _ h2, h3⟩
theorem RelH.new' {Γ : Ctx} {H : Hp} {ρ : Rho} {σ : SS} {a : Act} {w w' : World} (r : RelH Γ H ρ σ a w) {k : Nat} {B : Blk} {p : Value × (Nat → Nat)} (hk : getB σ.blk k = none)
    (holdH : ∀ b o, H b = some o → w'.heap[b]? = w.heap[b]?) (hold : ∀ b, 0 < tot ρ σ.blk b → w'.heap[b]? = w.heap[b]?) (hsz : Ext w w') (hone : p.1.oneCell' = true)
    (hnew : ∀ x, 0 < p.2 x → H x = none ∧ tot ρ σ.blk x = 0) (hle : ∀ x, p.2 x ≤ 1)
    (hB : BlkR w'.heap H (upd ρ k p) (dom (insB σ.blk k B)) B p) (hdead : B ≠ .dead) :
    RelH Γ H (upd ρ k p) { σ with blk := insB σ.blk k B } a w' := by
  have hkd := getB_none hk
  have hne : ∀ j, dom σ.blk j → j ≠ k := fun j hj he => hkd (he ▸ hj)
  have g : Grow H H ρ (upd ρ k p) (dom σ.blk) (dom (insB σ.blk k B)) := ⟨fun _ _ h => h, fun j hj => ⟨dom_insB.2 (.inr hj), by rw [upd_other (hne j hj)]⟩⟩
  have hmem : ∀ j A, (j, A) ∈ σ.blk → dom σ.blk j := fun j A h => List.mem_map.2 ⟨_, h, rfl⟩
  refine ⟨⟨?_, nodup_insB r.b.nd hkd, r.b.h0, ?_, ?_, ?_, ?_, ?_⟩, r.e.grow g, r.d, r.n.trans hsz, ?_, ?_⟩
  · intro j hj
    rcases dom_insB.1 hj with rfl | hj
    · rw [upd_same]; exact hone
    · rw [upd_other (hne j hj)]; exact r.b.oc j hj
  · intro b o hb
    rw [holdH b o hb]; exact r.b.hh b o hb
  · intro j A hj
    rcases mem_insB.1 hj with h1 | h1
    · cases h1; rw [upd_same]; exact hB
    · rw [upd_other (hne j (hmem j A h1))]
      exact (r.b.blk j A h1).mono g fun b hb => hold b (Nat.lt_of_lt_of_le hb (tot_le h1 b))
  · intro x
    rw [tot_insB, upd_same, tot_congr (ρ := ρ) (ρ' := upd ρ k p) (fun j hj => upd_other (hne j hj))]
    by_cases hx : 0 < p.2 x
    · have h2 := (hnew x hx).2
      have := hle x
      omega
    · have := r.b.sum x; omega
  · intro j A hj x hx
    rcases mem_insB.1 hj with h1 | h1
    · cases h1
      rw [upd_same] at hx
      have := (hnew x hx).1
      cases h0 : Γ.H0 x with
      | none => rfl
      | some o => rw [r.b.h0 x o h0] at this; cases this
    · rw [upd_other (hne j (hmem j A h1))] at hx
      exact r.b.fresh j A h1 x hx
  · intro j A hj x hx
    rcases mem_insB.1 hj with h1 | h1
    · cases h1
      rw [upd_same] at hx
      refine (hnew x ?_).1
      cases B with
      | dead => exact (hdead rfl).elim
      | box cs => exact hx
      | view E xs => exact hx.elim
      | hol E xs i fs => exact hx
      | mp m => exact hx
      | own E xs l =>
        cases l with
        | false => exact hx
        | true =>
          obtain ⟨o, n, c, h2⟩ := hx
          have : OwnL w'.heap (.list E xs) p.1 p.2 := hB
          rw [h2] at this
          generalize hv : Value.slice (some ⟨x, o, none⟩) n c = v at this
          generalize hS : p.2 = S at this
          cases this with
          | nil => cases hv
          | list S' hb hf hl hm ho hc => cases hv; exact cnt_top _ _ _ _
    · rw [upd_other (hne j (hmem j A h1))] at hx
      exact r.b.tops j A h1 x hx
  · intro q hq
    obtain ⟨h1, h2⟩ := r.hd q hq
    exact ⟨dom_insB.2 (.inr h1), by rw [upd_other (hne _ h1)]; exact h2⟩
  · intro q hq
    obtain ⟨h1, h2⟩ := r.hm q hq
    exact ⟨dom_insB.2 (.inr h1), by rw [upd_other (hne _ h1)]; exact h2⟩
theorem RelH.none_above {Γ : Ctx} {H : Hp} {ρ : Rho} {σ : SS} {a : Act} {w : World} (r : RelH Γ H ρ σ a w) {x : Nat} (hx : w.heap.size ≤ x) : H x = none ∧ tot ρ σ.blk x = 0 := by
  constructor
  · cases hH : H x with
    | none => rfl
    | some o => have := lt_of_aget (r.b.hh x o hH); omega
  · rcases Nat.eq_zero_or_pos (tot ρ σ.blk x) with h | h
    · exact h
    · obtain ⟨j, A, h3, h4⟩ := tot_pos h
      have := (r.b.blk j A h3).there x h4
      omega
theorem RelH.lt {Γ : Ctx} {H : Hp} {ρ : Rho} {σ : SS} {a : Act} {w : World} (r : RelH Γ H ρ σ a w) {x : Nat} (h : 0 < tot ρ σ.blk x) : x < w.heap.size := by
  rcases Nat.lt_or_ge x w.heap.size with h' | h'
  · exact h'
  · have := (r.none_above h').2; omega
theorem RelH.new {Γ : Ctx} {H : Hp} {ρ : Rho} {σ : SS} {a : Act} {w w' : World} (r : RelH Γ H ρ σ a w) {k : Nat} {B : Blk} {p : Value × (Nat → Nat)} (hk : getB σ.blk k = none)
    (hold : ∀ b, b < w.heap.size → w'.heap[b]? = w.heap[b]?) (hsz : Ext w w') (hone : p.1.oneCell' = true) (hnew : ∀ x, 0 < p.2 x → w.heap.size ≤ x) (hle : ∀ x, p.2 x ≤ 1)
    (hB : BlkR w'.heap H (upd ρ k p) (dom (insB σ.blk k B)) B p) (hdead : B ≠ .dead) :
    RelH Γ H (upd ρ k p) { σ with blk := insB σ.blk k B } a w' :=
  r.new' hk (fun b o hb => hold b (lt_of_aget (r.b.hh b o hb))) (fun b hb => hold b (r.lt hb)) hsz hone (fun x hx => r.none_above (hnew x hx)) hle hB hdead
theorem alloc_old (w : World) (o : Obj) : ∀ b, b < w.heap.size → (w.alloc o).heap[b]? = w.heap[b]? := fun b hb => by
  show (w.heap.push o)[b]? = w.heap[b]?
  rw [Array.getElem?_push, if_neg (Nat.ne_of_lt hb)]
theorem alloc_new (w : World) (o : Obj) : (w.alloc o).heap[w.heap.size]? = some o := by
  show (w.heap.push o)[w.heap.size]? = some o
  simp
theorem alloc_ext (w : World) (cs : Array Value) (e : TypeId) : Ext w (w.alloc (.cells cs e)) := by
  refine Ext.of (by simp) rfl rfl fun a => ?_
  unfold World.frozen?
  rcases Nat.lt_trichotomy a.block w.heap.size with h | h | h
  · rw [alloc_old w _ _ h]
  · rw [h, alloc_new, Array.getElem?_eq_none (Nat.le_refl _)]
    simp
  · rw [Array.getElem?_eq_none (show w.heap.size ≤ a.block by omega), Array.getElem?_eq_none (by simp; omega)]
theorem frozen_map {w w' : World} (h : ∀ b : Nat, w'.heap[b]? = w.heap[b]? ∨ ∃ es c, w'.heap[b]? = some (.map es c) ∧ (w.heap[b]? = none ∨ ∃ es0 c0, w.heap[b]? = some (.map es0 c0))) (a : Addr) : w'.frozen? a = w.frozen? a := by
  unfold World.frozen?
  rcases h a.block with h1 | ⟨es, c, h1, h2⟩
  · rw [h1]
  · rw [h1]
    rcases h2 with h2 | ⟨es0, c0, h2⟩ <;> rw [h2]
theorem alloc_ext_map (w : World) (es : Array MapEntry) (c : Nat) : Ext w (w.alloc (.map es c)) := by
  refine Ext.of (by simp) rfl rfl (frozen_map fun b => ?_)
  rcases Nat.lt_trichotomy b w.heap.size with h | h | h
  · exact .inl (alloc_old w _ _ h)
  · subst h; exact .inr ⟨es, c, alloc_new w _, .inl (Array.getElem?_eq_none (Nat.le_refl _))⟩
  · refine .inl ?_
    rw [Array.getElem?_eq_none (show w.heap.size ≤ b by omega), Array.getElem?_eq_none (by simp; omega)]
theorem one_le (b x : Nat) : one b x ≤ 1 := by simp only [one]; split <;> omega
theorem one_pos {b x : Nat} (h : 0 < one b x) : x = b := by simp only [one] at h; split at h <;> first | assumption | omega
theorem NF_zero (vs : Array Value) : NF vs (0, 0) := .inl (Nat.le_refl _)
theorem RelH.newBox {Γ : Ctx} {H : Hp} {ρ : Rho} {σ : SS} {a : Act} {w : World} (r : RelH Γ H ρ σ a w) {k : Nat} (hk : getB σ.blk k = none) {cs : List C} {vs : Array Value} (e : TypeId)
    (hc : RCs H ρ (dom σ.blk) cs vs) :
    ∃ ρ', RelH Γ H ρ' { σ with blk := insB σ.blk k (.box cs) } a (w.alloc (.cells vs e)) ∧ (ρ' k).1 = .pointer (some ⟨w.heap.size, 0, none⟩) ∧ ∀ j, dom σ.blk j → ρ' j = ρ j := by
  have hkd := getB_none hk
  have hne : ∀ j, dom σ.blk j → j ≠ k := fun j hj he => hkd (he ▸ hj)
  refine ⟨upd ρ k (.pointer (some ⟨w.heap.size, 0, none⟩), one w.heap.size), ?_, by rw [upd_same], fun j hj => upd_other (hne j hj)⟩
  refine r.new hk (alloc_old w _) (alloc_ext w _ _) rfl (fun x hx => by rw [one_pos hx]; exact Nat.le_refl _) (one_le _) ?_ (by simp)
  exact ⟨w.heap.size, vs, e, (0, 0), rfl, rfl, alloc_new w _, NF_zero _, hc.grow ⟨fun _ _ h => h, fun j hj => ⟨dom_insB.2 (.inr hj), by rw [upd_other (hne j hj)]⟩⟩⟩
theorem RelH.newMap {Γ : Ctx} {H : Hp} {ρ : Rho} {σ : SS} {a : Act} {w : World} (r : RelH Γ H ρ σ a w) {k : Nat} (hk : getB σ.blk k = none) :
    ∃ ρ', RelH Γ H ρ' { σ with blk := insB σ.blk k (.mp fun _ => []) } a (w.alloc (.map #[] 0)) ∧ (ρ' k).1 = .map (some w.heap.size) := by
  refine ⟨upd ρ k (.map (some w.heap.size), one w.heap.size), ?_, by rw [upd_same]⟩
  refine r.new hk (alloc_old w _) (alloc_ext_map w _ _) rfl (fun x hx => by rw [one_pos hx]; exact Nat.le_refl _) (one_le _) ?_ (by simp)
  exact ⟨w.heap.size, #[], 0, rfl, rfl, alloc_new w _, ⟨rfl, Nat.zero_le _, fun p hp => by cases hp⟩⟩
end Go.Proofs.Ytlochjpjlhkjaaa
namespace Go.Proofs.Ytlochjpjlhkjaaa
open Go
def Cp.ren (m : Nat → Nat) : Cp → Cp
  | .ptr k off => .ptr (m k) off
  | .el E x off => .el E x off
  | .pcs ls off => .pcs ls off
def C.ren (m : Nat → Nat) : C → C
  | .own k => .own (m k)
  | .ptr k off => .ptr (m k) off
  | .oel k E i off => .oel (m k) E i off
  | .fn f l => .fn f (l.map (Cp.ren m))
  | c => c
def renL (m : Nat → Nat) : List C → List C
  | [] => []
  | c :: cs => c.ren m :: renL m cs
def renT (m : Nat → Nat) : List (Bool × List C) → List (Bool × List C)
  | [] => []
  | p :: ps => (p.1, renL m p.2) :: renT m ps
def V.ren (m : Nat → Nat) : V → V
  | .c x => .c (x.ren m)
  | .agg cs => .agg (renL m cs)
  | .tup ps => .tup (renT m ps)
theorem renL_get {m : Nat → Nat} : ∀ {cs : List C} {j : Nat} {c : C}, (renL m cs)[j]? = some c → ∃ c0, cs[j]? = some c0 ∧ c = c0.ren m
  | [], j, c, h => by simp [renL] at h
  | c0 :: cs, 0, c, h => by simp [renL] at h; exact ⟨c0, rfl, h.symm⟩
  | c0 :: cs, j + 1, c, h => by simp only [renL, List.getElem?_cons_succ] at h ⊢; exact renL_get h
theorem renL_len {m : Nat → Nat} : ∀ {cs : List C}, (renL m cs).length = cs.length
  | [] => rfl
  | c :: cs => by simp [renL, renL_len (cs := cs)]
theorem renT_get {m : Nat → Nat} : ∀ {cs : List (Bool × List C)} {j : Nat} {p : Bool × List C}, (renT m cs)[j]? = some p → ∃ p0, cs[j]? = some p0 ∧ p = (p0.1, renL m p0.2)
  | [], j, p, h => by simp [renT] at h
  | p0 :: cs, 0, p, h => by simp [renT] at h; exact ⟨p0, rfl, h.symm⟩
  | p0 :: cs, j + 1, p, h => by simp only [renT, List.getElem?_cons_succ] at h ⊢; exact renT_get h
theorem renT_len {m : Nat → Nat} : ∀ {cs : List (Bool × List C)}, (renT m cs).length = cs.length
  | [] => rfl
  | c :: cs => by simp [renT, renT_len (cs := cs)]
section
variable {H : Hp} {ρ ρ' : Rho} {D D' : Nat → Prop} {m : Nat → Nat} (hm : ∀ k, D k → D' (m k) ∧ (ρ' (m k)).1 = (ρ k).1)
include hm
theorem RCp.ren {c : Cp} {v : Value} (h : RCp H ρ D c v) : RCp H ρ' D' (c.ren m) v := by
  cases c with
  | ptr k off => obtain ⟨hk, b, h1, h2⟩ := h; exact ⟨(hm k hk).1, b, by rw [(hm k hk).2]; exact h1, h2⟩
  | el E x off => exact h
  | pcs ls off => exact h
theorem RC.ren {c : C} {v : Value} (h : RC H ρ D c v) : RC H ρ' D' (c.ren m) v := by
  cases c with
  | lf l => exact h
  | bl b => exact h
  | nil => exact h
  | own k => obtain ⟨hk, h1⟩ := h; exact ⟨(hm k hk).1, by rw [(hm k hk).2]; exact h1⟩
  | ptr k off => exact RCp.ren (H := H) hm (c := .ptr k off) h
  | el E x off => exact RCp.ren (H := H) hm (c := .el E x off) h
  | pcs ls off => exact RCp.ren (H := H) hm (c := .pcs ls off) h
  | oel k E i off => obtain ⟨hk, b, o, n, c, h1, h2⟩ := h; exact ⟨(hm k hk).1, b, o, n, c, by rw [(hm k hk).2]; exact h1, h2⟩
  | fn f caps =>
    obtain ⟨vs, h1, h2, h3⟩ := h
    refine ⟨vs, h1, by simpa using h2, fun j c hj => ?_⟩
    rw [List.getElem?_map, Option.map_eq_some_iff] at hj
    obtain ⟨c0, hj, rfl⟩ := hj
    exact (h3 j c0 hj).ren hm
  | undef => trivial
theorem RCs.ren {cs : List C} {vs : Array Value} (h : RCs H ρ D cs vs) : RCs H ρ' D' (renL m cs) vs := by
  refine ⟨by rw [renL_len]; exact h.1, fun j c hj => ?_⟩
  obtain ⟨c0, h1, rfl⟩ := renL_get hj
  exact (h.2 j c0 h1).ren hm
theorem RV.ren {c : V} {v : Value} (h : RV H ρ D c v) : RV H ρ' D' (c.ren m) v := by
  cases c with
  | c x => exact RC.ren hm h
  | agg cs => obtain ⟨vs, h1, h2⟩ := h; exact ⟨vs, h1, h2.ren hm⟩
  | tup cs =>
    obtain ⟨vs, h1, h2, h3⟩ := h
    refine ⟨vs, h1, by rw [renT_len]; exact h2, fun j p hj => ?_⟩
    obtain ⟨p0, h4, rfl⟩ := renT_get hj
    have := h3 j p0 h4
    obtain ⟨b, l⟩ := p0
    cases b with
    | true => obtain ⟨us, h5, h6⟩ := this; exact ⟨us, h5, h6.ren hm⟩
    | false => obtain ⟨c, h5, h6⟩ := this; simp only at h5; subst h5; exact ⟨_, rfl, h6.ren hm⟩
end
def C.cl : C → Bool
  | .lf (.list _ _) => false
  | .el _ _ _ => false
  | .pcs _ _ => false
  | .fn _ _ => false
  | .oel _ _ _ _ => false
  | _ => true
def V.cl : V → Bool
  | .c x => x.cl
  | .agg cs => cs.all C.cl
  | .tup ps => ps.all fun p => p.2.all C.cl
theorem RC.cl {H H' : Hp} {ρ : Rho} {D : Nat → Prop} {c : C} {v : Value} (h : RC H ρ D c v) (hc : c.cl = true) : RC H' ρ D c v := by
  cases c with
  | lf l =>
    cases l with
    | list E t => simp [C.cl] at hc
    | int k t => obtain ⟨rfl, h1⟩ := RL.of_int h; exact RL.int h1
    | bool t => have := RL.of_bool h; subst this; exact RL.bool
    | str t => obtain ⟨rfl, h1⟩ := RL.of_str h; exact RL.str h1
  | bl b => exact h
  | nil => exact h
  | own k => exact h
  | undef => trivial
  | ptr k off => exact h
  | el E x off => simp [C.cl] at hc
  | pcs ls off => simp [C.cl] at hc
  | oel k E i off => simp [C.cl] at hc
  | fn f l => simp [C.cl] at hc
theorem RCs.cl {H H' : Hp} {ρ : Rho} {D : Nat → Prop} {cs : List C} {vs : Array Value} (h : RCs H ρ D cs vs) (hc : cs.all C.cl = true) : RCs H' ρ D cs vs :=
  ⟨h.1, fun j c hj => (h.2 j c hj).cl (List.all_eq_true.1 hc c (List.mem_of_getElem? hj))⟩
theorem RV.cl {H H' : Hp} {ρ : Rho} {D : Nat → Prop} {c : V} {v : Value} (h : RV H ρ D c v) (hc : c.cl = true) : RV H' ρ D c v := by
  cases c with
  | c x => exact RC.cl h hc
  | agg cs => obtain ⟨vs, h1, h2⟩ := h; exact ⟨vs, h1, h2.cl hc⟩
  | tup cs =>
    obtain ⟨vs, h1, h2, h3⟩ := h
    refine ⟨vs, h1, h2, fun j p hj => ?_⟩
    have h4 := h3 j p hj
    have h5 := List.all_eq_true.1 hc p (List.mem_of_getElem? hj)
    obtain ⟨b, l⟩ := p
    cases b with
    | true => obtain ⟨us, h6, h7⟩ := h4; exact ⟨us, h6, h7.cl h5⟩
    | false => obtain ⟨c, h6, h7⟩ := h4; simp only at h6; subst h6; exact ⟨c, rfl, h7.cl (by simpa using h5)⟩
def ownB : Blk → Bool
  | .own _ _ _ => true
  | _ => false
def noH : Hp := fun _ => none
def args (H : Hp) (ρ : Rho) (D : Nat → Prop) (cs : List V) (vs : Array Value) : Prop :=
  vs.size = cs.length ∧ ∀ j c, cs[j]? = some c → RV H ρ D c (vs.getD j Go.undef)
def num : Nat → List Blk → List (Nat × Blk)
  | _, [] => []
  | j, B :: Bs => (j, B) :: num (j + 1) Bs
def callable (P : Program) (f : FuncId) : Prop := ∃ fn, P.funcs[f]? = some fn ∧ (fn.name == "runtime.NumGoroutine") = false ∧ fn.body.isNone = false
def Spec (P : Program) (f : FuncId) (as : List V) (post : V → List Blk → Prop) : Prop :=
  callable P f ∧ ∀ (w : World) (vs : Array Value), args (fun b => w.heap[b]?) (fun _ => default) (fun _ => False) as vs →
    Calls P f vs w fun e w' => ∃ v r nb H' ρ', e = .returned v ∧ post r nb ∧ nb.all ownB = true ∧ RelB w'.heap (fun b => w.heap[b]?) H' ρ' (num 0 nb) ∧ RV noH ρ' (dom (num 0 nb)) r v ∧ Ext w w'
def hpOf (w : World) (S : Nat → Nat) : Hp := fun b => if S b = 0 then w.heap[b]? else none
def SpecM (P : Program) (f : FuncId) (as : List V) (bs : List (Nat × Blk)) (post : V → List (Nat × Blk) → Prop) : Prop :=
  callable P f ∧ ∀ (w : World) (vs : Array Value) (ρ : Rho), RelB w.heap (hpOf w (tot ρ bs)) (hpOf w (tot ρ bs)) ρ bs → args (hpOf w (tot ρ bs)) ρ (dom bs) as vs →
    Calls P f vs w fun e w' => ∃ v r bs' H' ρ', e = .returned v ∧ post r bs' ∧ RelB w'.heap (hpOf w (tot ρ bs)) H' ρ' bs' ∧ RV noH ρ' (dom bs') r v ∧ Ext w w' ∧ ∀ k, dom bs' k → dom bs k → (ρ' k).1 = (ρ k).1
def namesC : C → List Nat
  | .own k => [k]
  | .ptr k _ => [k]
  | _ => []
def namesL : List C → List Nat
  | [] => []
  | c :: cs => namesC c ++ namesL cs
def namesT : List (Bool × List C) → List Nat
  | [] => []
  | p :: ps => namesL p.2 ++ namesT ps
def namesV : V → List Nat
  | .c x => namesC x
  | .agg cs => namesL cs
  | .tup ps => namesT ps
def place : List Nat → Nat → Nat
  | [], _ => 0
  | x :: xs, k => if x = k then 0 else place xs k + 1
def nodupB : List Nat → Bool
  | [] => true
  | x :: xs => !xs.contains x && nodupB xs
def getsB (bs : List (Nat × Blk)) : List Nat → Option (List Blk)
  | [] => some []
  | k :: ks => match getB bs k, getsB bs ks with
    | some (.own E xs _), some r => some (.own E xs false :: r)
    | _, _ => none
def unlent (bs : List (Nat × Blk)) : List Nat → Bool
  | [] => true
  | k :: ks => (match getB bs k with | some (.own _ _ false) => true | _ => false) && unlent bs ks
def resV (tab : Tab) (σ : SS) : ResultVar → Option V
  | .tmp t => some (σ.env.getD t (.c .undef))
  | .cell t ty => exLoad tab σ.blk ty (σ.env.getD t (.c .undef))
def compV : V → Option (Bool × List C)
  | .c x => some (false, [x])
  | .agg cs => some (true, cs)
  | .tup _ => none
def resL (tab : Tab) (σ : SS) : List ResultVar → Option (List (Bool × List C))
  | [] => some []
  | x :: xs => match resV tab σ x, resL tab σ xs with
    | some v, some r => (match compV v with | some p => some (p :: r) | none => none)
    | _, _ => none
def resultV (tab : Tab) (σ : SS) : List ResultVar → Option V
  | [x] => resV tab σ x
  | xs => match resL tab σ xs with | some l => some (.tup l) | none => none
def fin (tab : Tab) (rs : List ResultVar) (post : V → List Blk → Prop) (σ : SS) : Prop :=
  match resultV tab σ rs with
  | some r =>
    match getsB σ.blk (namesV r) with
    | some nb => if nodupB (namesV r) = true ∧ unlent σ.blk (namesV r) = true ∧ r.cl = true then post (r.ren (place (namesV r))) nb else False
    | none => False
  | none => False
def delB : List (Nat × Blk) → Nat → List (Nat × Blk)
  | [], _ => []
  | p :: r, k => if p.1 = k then r else p :: delB r k
theorem tot_delB {ρ : Rho} {bs : List (Nat × Blk)} {k : Nat} (hk : dom bs k) (x : Nat) : tot ρ bs x = (ρ k).2 x + tot ρ (delB bs k) x := by
  induction bs with
  | nil => simp [dom] at hk
  | cons p r ih =>
    simp only [delB, tot]
    split
    · rename_i h; subst h; rfl
    · rename_i h
      have hk' : dom r k := by
        simp only [dom, List.map_cons, List.mem_cons] at hk
        rcases hk with hk | hk
        · exact absurd hk.symm h
        · exact hk
      rw [ih hk']; simp only [tot]; omega
theorem dom_delB {bs : List (Nat × Blk)} {k j : Nat} (hj : dom bs j) (hne : j ≠ k) : dom (delB bs k) j := by
  induction bs with
  | nil => simp [dom] at hj
  | cons p r ih =>
    simp only [dom, List.map_cons, List.mem_cons] at hj
    simp only [delB]
    split
    · rename_i h
      rcases hj with hj | hj
      · exact absurd (hj.trans h) hne
      · exact hj
    · rcases hj with hj | hj
      · simp only [dom, List.map_cons, List.mem_cons]; exact .inl hj
      · simp only [dom, List.map_cons, List.mem_cons]; exact .inr (ih hj)
def sumK (ρ : Rho) : List Nat → Nat → Nat
  | [], _ => 0
  | k :: ks, x => (ρ k).2 x + sumK ρ ks x
theorem nodupB_cons {k : Nat} {ks : List Nat} (h : nodupB (k :: ks) = true) : k ∉ ks ∧ nodupB ks = true := by
  simpa [nodupB] using h
theorem sumK_le {ρ : Rho} : ∀ (ks : List Nat) {bs : List (Nat × Blk)}, nodupB ks = true → (∀ k ∈ ks, dom bs k) → ∀ x, sumK ρ ks x ≤ tot ρ bs x
  | [], _, _, _, _ => Nat.zero_le _
  | k :: ks, bs, hn, hd, x => by
    obtain ⟨h1, h2⟩ := nodupB_cons hn
    have := sumK_le (ρ := ρ) ks (bs := delB bs k) h2 (fun j hj => dom_delB (hd j (List.mem_cons_of_mem _ hj)) fun he => h1 (he ▸ hj)) x
    rw [tot_delB (hd k List.mem_cons_self)]
    simp only [sumK]; omega
theorem mem_num {j k : Nat} {B : Blk} {nb : List Blk} : (k, B) ∈ num j nb ↔ j ≤ k ∧ nb[k - j]? = some B := by
  induction nb generalizing j with
  | nil => simp [num]
  | cons A nb ih =>
    simp only [num, List.mem_cons, ih, Prod.mk.injEq]
    constructor
    · rintro (⟨rfl, rfl⟩ | ⟨h1, h2⟩)
      · simp
      · refine ⟨by omega, ?_⟩
        rw [show k - j = (k - (j + 1)) + 1 by omega]
        simpa using h2
    · rintro ⟨h1, h2⟩
      rcases Nat.eq_or_lt_of_le h1 with rfl | h
      · simp at h2; exact .inl ⟨rfl, h2.symm⟩
      · refine .inr ⟨by omega, ?_⟩
        rw [show k - j = (k - (j + 1)) + 1 by omega] at h2
        simpa using h2
theorem dom_num {j k : Nat} {nb : List Blk} : dom (num j nb) k ↔ j ≤ k ∧ k < j + nb.length := by
  simp only [dom, List.mem_map]
  constructor
  · rintro ⟨⟨k', B⟩, h, rfl⟩
    obtain ⟨h1, h2⟩ := mem_num.1 h
    have := lt_of_get h2
    exact ⟨h1, by simp only; omega⟩
  · rintro ⟨h1, h2⟩
    exact ⟨(k, nb[k - j]'(by omega)), mem_num.2 ⟨h1, List.getElem?_eq_getElem (by omega)⟩, rfl⟩
theorem nodup_num {j : Nat} {nb : List Blk} : ((num j nb).map (·.1)).Nodup := by
  induction nb generalizing j with
  | nil => simp [num]
  | cons B nb ih =>
    simp only [num, List.map_cons, List.nodup_cons]
    refine ⟨fun h => ?_, ih⟩
    have : dom (num (j + 1) nb) j := h
    have := dom_num.1 this
    omega
theorem getsB_get : ∀ {ks : List Nat} {bs : List (Nat × Blk)} {nb : List Blk}, getsB bs ks = some nb → nb.length = ks.length ∧ ∀ (j : Nat) B, nb[j]? = some B → ∃ k E xs l, ks[j]? = some k ∧ B = .own E xs false ∧ getB bs k = some (.own E xs l)
  | [], bs, nb, h => by simp only [getsB, Option.some.injEq] at h; subst h; exact ⟨rfl, fun j B hj => by simp at hj⟩
  | k :: ks, bs, nb, h => by
    simp only [getsB] at h
    split at h
    · rename_i E xs l r hk hr
      cases h
      obtain ⟨h1, h2⟩ := getsB_get hr
      refine ⟨by simp [h1], fun j B hj => ?_⟩
      cases j with
      | zero => simp at hj; exact ⟨k, E, xs, l, rfl, hj.symm, hk⟩
      | succ j => exact h2 j B (by simpa using hj)
    · cases h
theorem tot_num {ρ ρ' : Rho} {x : Nat} : ∀ {ks : List Nat} {nb : List Blk} {j : Nat}, nb.length = ks.length → (∀ (i k : Nat), ks[i]? = some k → ρ' (j + i) = ρ k) → tot ρ' (num j nb) x = sumK ρ ks x
  | [], nb, j, h, _ => by
    have : nb = [] := by simpa using h
    subst this; rfl
  | k :: ks, nb, j, h, hk => by
    cases nb with
    | nil => simp at h
    | cons B nb =>
      simp only [num, tot, sumK]
      rw [show ρ' j = ρ k from hk 0 k rfl]
      rw [tot_num (ρ := ρ) (ks := ks) (by simpa using h) fun i k' hi => by
        have := hk (i + 1) k' (by simpa using hi)
        rw [← this]; congr 1; omega]
theorem place_get : ∀ {ks : List Nat} {k : Nat}, k ∈ ks → ks[place ks k]? = some k
  | x :: xs, k, h => by
    simp only [place]
    split
    · rename_i hx; subst hx; rfl
    · rename_i hx
      cases h with
      | head => exact (hx rfl).elim
      | tail _ h => simpa using place_get h
theorem namesT_mem {ps : List (Bool × List C)} {p : Bool × List C} {k : Nat} (h : p ∈ ps) (hk : k ∈ namesL p.2) : k ∈ namesT ps := by
  induction ps with
  | nil => cases h
  | cons q ps ih =>
    simp only [namesT, List.mem_append]
    cases h with
    | head => exact .inl hk
    | tail _ h => exact .inr (ih h)
section
variable {H H' : Hp} {ρ ρ' : Rho} {D D' : Nat → Prop} {m : Nat → Nat}
theorem RC.renN {c : C} {v : Value} (h : RC H ρ D c v) (hc : c.cl = true) (hm : ∀ k ∈ namesC c, D' (m k) ∧ (ρ' (m k)).1 = (ρ k).1) : RC H' ρ' D' (c.ren m) v := by
  cases c with
  | own k =>
    obtain ⟨_, h1⟩ := h
    have := hm k (by simp [namesC])
    exact ⟨this.1, by rw [this.2]; exact h1⟩
  | lf l => exact RC.cl (D := D') (ρ := ρ') (c := .lf l) h hc
  | bl b => exact h
  | nil => exact h
  | undef => trivial
  | ptr k off =>
    obtain ⟨_, b, h1, h2⟩ := h
    have := hm k (by simp [namesC])
    exact ⟨this.1, b, by rw [this.2]; exact h1, h2⟩
  | el E x off => simp [C.cl] at hc
  | pcs ls off => simp [C.cl] at hc
  | oel k E i off => simp [C.cl] at hc
  | fn f l => simp [C.cl] at hc
theorem namesC_sub {cs : List C} {c : C} (h : c ∈ cs) : ∀ k ∈ namesC c, k ∈ namesL cs := by
  intro k hk
  induction cs with
  | nil => cases h
  | cons d cs ih =>
    simp only [namesL, List.mem_append]
    cases h with
    | head => exact .inl hk
    | tail _ h => exact .inr (ih h)
theorem RCs.renN {cs : List C} {vs : Array Value} (h : RCs H ρ D cs vs) (hc : cs.all C.cl = true) (hm : ∀ k ∈ namesL cs, D' (m k) ∧ (ρ' (m k)).1 = (ρ k).1) : RCs H' ρ' D' (renL m cs) vs := by
  refine ⟨by rw [renL_len]; exact h.1, fun j c hj => ?_⟩
  obtain ⟨c0, h1, rfl⟩ := renL_get hj
  have hmem := List.mem_of_getElem? h1
  exact (h.2 j c0 h1).renN (List.all_eq_true.1 hc _ hmem) fun k hk => hm k (namesC_sub hmem k hk)
theorem RV.renN {c : V} {v : Value} (h : RV H ρ D c v) (hc : c.cl = true) (hm : ∀ k ∈ namesV c, D' (m k) ∧ (ρ' (m k)).1 = (ρ k).1) : RV H' ρ' D' (c.ren m) v := by
  cases c with
  | c x => exact RC.renN h hc hm
  | agg cs => obtain ⟨vs, h1, h2⟩ := h; exact ⟨vs, h1, h2.renN hc hm⟩
  | tup cs =>
    obtain ⟨vs, h1, h2, h3⟩ := h
    refine ⟨vs, h1, by rw [renT_len]; exact h2, fun j p hj => ?_⟩
    obtain ⟨p0, h4, rfl⟩ := renT_get hj
    have hmem := List.mem_of_getElem? h4
    have := h3 j p0 h4
    have hcl := List.all_eq_true.1 hc p0 hmem
    have hm' : ∀ k ∈ namesL p0.2, D' (m k) ∧ (ρ' (m k)).1 = (ρ k).1 := fun k hk => hm k (namesT_mem hmem hk)
    obtain ⟨b, l⟩ := p0
    cases b with
    | true => obtain ⟨us, h5, h6⟩ := this; exact ⟨us, h5, h6.renN hcl hm'⟩
    | false =>
      obtain ⟨c, h5, h6⟩ := this
      simp only at h5; subst h5
      exact ⟨_, rfl, h6.renN (by simpa using hcl) fun k hk => hm' k (by simpa [namesL] using hk)⟩
end
def resS (tmps : Array Value) : ResultVar → Sem Value
  | .tmp t => pure (tmps.getD t Go.undef)
  | .cell t ty => do loadVar ty (← asAddr (tmps.getD t Go.undef))
section
variable {P : Program} {tab : Tab} (hT : tabB P tab = true) {Γ : Ctx} {H : Hp} {ρ : Rho} {σ : SS} {a : Act} {w : World} (r : RelH Γ H ρ σ a w)
include hT r
omit hT in
theorem env_ok (t : Nat) : RV H ρ (dom σ.blk) (σ.env.getD t (.c .undef)) (a.tmps.getD t Go.undef) := by
  have := ev_ok r.e (.tmp t)
  exact this
theorem run_resV {x : ResultVar} {v : V} (h : resV tab σ x = some v) : ∃ y, RV H ρ (dom σ.blk) v y ∧ (resS a.tmps x).run P w = .ok y w := by
  cases x with
  | tmp t => simp only [resV, Option.some.injEq] at h; subst h; exact ⟨_, env_ok r t, rfl⟩
  | cell t ty =>
    simp only [resV] at h
    obtain ⟨y, h1, h2⟩ := exLoad_ok hT r h (env_ok r t)
    refine ⟨y, h1, ?_⟩
    have h3 := h2 w (Keeps.refl r _)
    have hp := env_ok r t
    simp only [Instr.loadAt, Sem.run_bind] at h3
    simp only [resS, Sem.run_bind]
    generalize hq : a.tmps.getD t Go.undef = q at *
    have : ∃ ad, q = .pointer (some ad) := by
      generalize σ.env.getD t (.c .undef) = c at h hp
      unfold exLoad at h
      split at h
      · obtain ⟨_, b, _, rfl⟩ := hp; exact ⟨_, rfl⟩
      · obtain ⟨b, o, cs, e, fz, _, rfl, _⟩ := hp; exact ⟨_, rfl⟩
      · obtain ⟨b, o, cs, e, fz, _, rfl, _⟩ := hp; exact ⟨_, rfl⟩
      · obtain ⟨_, b, o, n, c, _, _, rfl⟩ := hp; exact ⟨_, rfl⟩
      · cases h
    obtain ⟨ad, rfl⟩ := this
    exact h3
omit hT r in
theorem compV_ok {v : V} {y : Value} {p : Bool × List C} (h : compV v = some p) (hv : RV H ρ (dom σ.blk) v y) : RT H ρ (dom σ.blk) p y := by
  cases v with
  | c x => simp only [compV, Option.some.injEq] at h; subst h; exact ⟨x, rfl, hv⟩
  | agg cs => simp only [compV, Option.some.injEq] at h; subst h; exact hv
  | tup cs => simp [compV] at h
theorem run_resL : ∀ {rs : List ResultVar} {l : List (Bool × List C)}, resL tab σ rs = some l → ∃ vs : List Value,
      (rs.mapM (resS a.tmps)).run P w = .ok vs w ∧ vs.length = l.length ∧ ∀ (j : Nat) p, l[j]? = some p → RT H ρ (dom σ.blk) p (vs.toArray.getD j Go.undef)
  | [], l, h => by
    simp only [resL, Option.some.injEq] at h; subst h
    exact ⟨[], by simp, rfl, fun j p hj => by simp at hj⟩
  | x :: rs, l, h => by
    simp only [resL] at h
    split at h
    · rename_i v l' hv hl
      split at h
      · rename_i p hp
        cases h
        obtain ⟨y, h1, h2⟩ := run_resV hT r hv
        obtain ⟨vs, h3, h4, h5⟩ := run_resL hl
        refine ⟨y :: vs, by rw [List.mapM_cons, Sem.run_bind, h2, Result.andThen_ok, Sem.run_bind, h3]; rfl, by simp [h4], fun j q hj => ?_⟩
        cases j with
        | zero => simp at hj; subst hj; simpa using compV_ok hp h1
        | succ j => simpa using h5 j q (by simpa using hj)
      · cases h
    · cases h
omit hT r in
theorem results_eq (fn : Func) (tmps : Array Value) : (results fn tmps).run P w = ((fn.results.toList.mapM (resS tmps)).run P w).andThen fun vs w' => .ok (if h : vs.length = 1 then vs[0] else .tuple vs.toArray) w' := by
  have e : results fn tmps = (do let vs ← fn.results.mapM (resS tmps); pure (if h : vs.size = 1 then vs[0] else .tuple vs)) := rfl
  rw [e, Sem.run_bind, Array.mapM_eq_mapM_toList, Sem.run_map]
  cases (fn.results.toList.mapM (resS tmps)).run P w with
  | ok vs w' => simp
  | halt h w' => rfl
theorem run_result {fn : Func} {v : V} (h : resultV tab σ fn.results.toList = some v) : ∃ y, RV H ρ (dom σ.blk) v y ∧ (results fn a.tmps).run P w = .ok y w := by
  unfold resultV at h
  split at h
  · rename_i x hx
    obtain ⟨y, h1, h2⟩ := run_resV hT r h
    refine ⟨y, h1, ?_⟩
    rw [results_eq, hx, List.mapM_cons, Sem.run_bind, h2]
    simp
  · rename_i hne
    split at h
    · rename_i l hl
      cases h
      obtain ⟨vs, h1, h2, h3⟩ := run_resL hT r hl
      refine ⟨.tuple vs.toArray, ⟨vs.toArray, rfl, by simpa using h2, h3⟩, ?_⟩
      rw [results_eq, h1]
      have : vs.length ≠ 1 := by
        intro h4
        have h5 : fn.results.toList.length = 1 := by
          have : ∀ (rs : List ResultVar) l, resL tab σ rs = some l → l.length = rs.length := by
            intro rs
            induction rs with
            | nil => intro l h; simp only [resL, Option.some.injEq] at h; subst h; rfl
            | cons x rs ih =>
              intro l h
              simp only [resL] at h
              split at h
              · split at h
                · cases h; simp [ih _ ‹_›]
                · cases h
              · cases h
          rw [← this _ _ hl, ← h2, h4]
        obtain ⟨x, hx⟩ := List.length_eq_one_iff.1 h5
        exact hne x hx
      simp [this]
    · cases h
theorem fin_ok {fn : Func} {post : V → List Blk → Prop} (h : fin tab fn.results.toList post σ) :
    ∃ v, (results fn a.tmps).run P w = .ok v w ∧ ∃ rv nb H' ρ', post rv nb ∧ nb.all ownB = true ∧ RelB w.heap Γ.H0 H' ρ' (num 0 nb) ∧ RV noH ρ' (dom (num 0 nb)) rv v := by
  unfold fin at h
  split at h
  · rename_i rv hrv
    split at h
    · rename_i nb hnb
      split at h
      · rename_i hc
        obtain ⟨hnd, hul, hcl⟩ := hc
        obtain ⟨v, h1, h2⟩ := run_result hT r hrv
        obtain ⟨hlen, hget⟩ := getsB_get hnb
        have hget' : ∀ (j : Nat) B, nb[j]? = some B → ∃ k, (namesV rv)[j]? = some k ∧ (k, B) ∈ σ.blk ∧ ∃ E xs, B = .own E xs false := by
          intro j B hj
          obtain ⟨k, E, xs, l, h3, rfl, h4⟩ := hget j B hj
          have : l = false := by
            have : ∀ ks, unlent σ.blk ks = true → ∀ k ∈ ks, ∀ E xs l, getB σ.blk k = some (.own E xs l) → l = false := by
              intro ks
              induction ks with
              | nil => intro _ k hk; cases hk
              | cons x ks ih =>
                intro hu k hk E xs l hg
                simp only [unlent, Bool.and_eq_true] at hu
                cases hk with
                | head => rw [hg] at hu; cases l <;> simp at hu ⊢
                | tail _ hk => exact ih hu.2 k hk E xs l hg
            exact this _ hul k (List.mem_of_getElem? h3) E xs l h4
          subst this
          exact ⟨k, h3, getB_mem h4, E, xs, rfl⟩
        have hdom : ∀ k ∈ namesV rv, dom σ.blk k := by
          intro k hk
          obtain ⟨j, hj, hjk⟩ := List.getElem_of_mem hk
          obtain ⟨B, hB⟩ : ∃ B, nb[j]? = some B := ⟨_, List.getElem?_eq_getElem (by omega)⟩
          obtain ⟨k', h3, h4, _⟩ := hget' j B hB
          rw [List.getElem?_eq_getElem hj, hjk] at h3
          cases h3
          exact List.mem_map.2 ⟨_, h4, rfl⟩
        let ρ' : Rho := fun j => ρ ((namesV rv).getD j 0)
        have hρ : ∀ (i k : Nat), (namesV rv)[i]? = some k → ρ' i = ρ k := fun i k hi => by
          simp only [ρ', List.getD_eq_getElem?_getD, hi, Option.getD_some]
        have hmem : ∀ j B, (j, B) ∈ num 0 nb → ∃ k, (namesV rv)[j]? = some k ∧ (k, B) ∈ σ.blk ∧ ρ' j = ρ k ∧ ∃ E xs, B = .own E xs false := fun j B hj => by
          obtain ⟨_, h3⟩ := mem_num.1 hj
          obtain ⟨k, h4, h5, h6⟩ := hget' j B (by simpa using h3)
          exact ⟨k, h4, h5, hρ j k h4, h6⟩
        refine ⟨v, h2, _, nb, Γ.H0, ρ', h, List.all_eq_true.2 fun B hB => ?_, ⟨?_, nodup_num, fun b o h => h, fun b o h => r.b.hh b o (r.b.h0 b o h), ?_, ?_, ?_, ?_⟩, ?_⟩
        · obtain ⟨j, hj, hjB⟩ := List.getElem_of_mem hB
          obtain ⟨_, _, _, E, xs, rfl⟩ := hget' j B (by rw [List.getElem?_eq_getElem hj, hjB])
          rfl
        · intro k hk
          obtain ⟨_, h4⟩ := dom_num.1 hk
          obtain ⟨B, hB⟩ : ∃ B, nb[k]? = some B := ⟨_, List.getElem?_eq_getElem (by omega)⟩
          obtain ⟨k', h3, h5, _⟩ := hget' k B hB
          rw [hρ k k' h3]
          exact r.b.oc k' (List.mem_map.2 ⟨_, h5, rfl⟩)
        · intro k B hk
          obtain ⟨k', h3, h4, h5, E, xs, rfl⟩ := hmem k B hk
          rw [h5]
          exact r.b.blk k' _ h4
        · intro x
          rw [tot_num (ρ := ρ) hlen (fun i k hi => by rw [Nat.zero_add]; exact hρ i k hi)]
          exact Nat.le_trans (sumK_le _ hnd hdom x) (r.b.sum x)
        · intro k B hk x hx
          obtain ⟨k', h3, h4, h5, _⟩ := hmem k B hk
          rw [h5] at hx
          exact r.b.fresh k' B h4 x hx
        · intro k B hk x hx
          obtain ⟨k', h3, h4, h5, E, xs, rfl⟩ := hmem k B hk
          rw [h5] at hx
          exact r.b.fresh k' _ h4 x hx
        · refine h1.renN hcl fun k hk => ?_
          have hp := place_get hk
          refine ⟨dom_num.2 ⟨Nat.zero_le _, ?_⟩, by rw [hρ _ k hp]⟩
          rw [Nat.zero_add, hlen]
          exact lt_of_get hp
      · cases h
    · cases h
  · cases h
end
end Go.Proofs.Ytlochjpjlhkjaaa
namespace Go.Proofs.Ytlochjpjlhkjaaa
open Go
theorem nc (n : Nat) : @NatCast.natCast Int instNatCastInt n = (n : Int) := rfl
def insL {α : Type} (lt : α → α → Bool) (y : α) : List α → List α
  | [] => [y]
  | a :: s => if lt a y = true then a :: insL lt y s else y :: a :: s
def insR {α : Type} (lt : α → α → Bool) (x : α) : List α → List α
  | [] => [x]
  | a :: s => if lt x a = true then x :: a :: s else a :: insR lt x s
structure SWO {α : Type} (lt : α → α → Bool) : Prop where
  tr : ∀ a b c, lt a b = true → lt b c = true → lt a c = true
  ng : ∀ a b c, lt a b = false → lt b c = false → lt a c = false
  as : ∀ a b, lt a b = true → lt b a = false
section
variable {α : Type} {lt : α → α → Bool}
theorem ins_comm (h : SWO lt) (x y : α) : ∀ s : List α, insL lt y (insR lt x s) = insR lt x (insL lt y s)
  | [] => by simp only [insL, insR]
  | a :: s => by
    have ih := ins_comm h x y s
    cases h1 : lt x a <;> cases h2 : lt a y <;> cases h3 : lt x y <;> simp [insL, insR, h1, h2, h3, ih]
    · have := h.ng _ _ _ h1 h2; rw [h3] at this; cases this
    · have := h.tr _ _ _ h1 h2; rw [h3] at this; cases this
def sortR (lt : α → α → Bool) (l : List α) : List α := l.foldl (fun s x => insR lt x s) []
def sortL (lt : α → α → Bool) (l : List α) : List α := l.foldr (fun x s => insL lt x s) []
theorem sortR_snoc (l : List α) (x : α) : sortR lt (l ++ [x]) = insR lt x (sortR lt l) := by
  simp [sortR]
theorem sortL_snoc (h : SWO lt) (x : α) : ∀ l : List α, sortL lt (l ++ [x]) = insR lt x (sortL lt l)
  | [] => by simp [sortL, insL, insR]
  | y :: l => by
    have ih := sortL_snoc h x l
    simp only [List.cons_append, sortL, List.foldr_cons] at ih ⊢
    rw [ih]; exact ins_comm h x y _
theorem sortL_eq (h : SWO lt) (l : List α) : sortL lt l = sortR lt l := by
  obtain ⟨n, hn⟩ : ∃ n, l.length = n := ⟨_, rfl⟩
  induction n generalizing l with
  | zero =>
    have : l = [] := List.length_eq_zero_iff.1 hn
    subst this; rfl
  | succ n ih =>
    rcases List.eq_nil_or_concat l with rfl | ⟨l', x, rfl⟩
    · rfl
    · rw [List.concat_eq_append, sortL_snoc h, sortR_snoc, ih l' (by simpa using hn)]
def Srt (lt : α → α → Bool) (l : List α) : Prop := l.Pairwise fun a b => lt b a = false
theorem insR_mem {x b : α} : ∀ {s : List α}, b ∈ insR lt x s ↔ b = x ∨ b ∈ s
  | [] => by simp [insR]
  | a :: s => by
    simp only [insR]
    split
    · simp
    · simp only [List.mem_cons, insR_mem (s := s)]
      constructor
      · rintro (h | h | h)
        · exact .inr (.inl h)
        · exact .inl h
        · exact .inr (.inr h)
      · rintro (h | h | h)
        · exact .inr (.inl h)
        · exact .inl h
        · exact .inr (.inr h)
theorem insR_len {x : α} : ∀ {s : List α}, (insR lt x s).length = s.length + 1
  | [] => rfl
  | a :: s => by simp only [insR]; split <;> simp [insR_len (s := s)]
theorem insL_len {x : α} : ∀ {s : List α}, (insL lt x s).length = s.length + 1
  | [] => rfl
  | a :: s => by simp only [insL]; split <;> simp [insL_len (s := s)]
theorem sortR_len (l : List α) : (sortR lt l).length = l.length := by
  obtain ⟨n, hn⟩ : ∃ n, l.length = n := ⟨_, rfl⟩
  induction n generalizing l with
  | zero =>
    have : l = [] := List.length_eq_zero_iff.1 hn
    subst this; rfl
  | succ n ih =>
    rcases List.eq_nil_or_concat l with rfl | ⟨l', x, rfl⟩
    · rfl
    · rw [List.concat_eq_append, sortR_snoc, insR_len, ih l' (by simpa using hn)]; simp
theorem insR_srt (h : SWO lt) {x : α} : ∀ {s : List α}, Srt lt s → Srt lt (insR lt x s)
  | [], _ => by simp [insR, Srt]
  | a :: s, hs => by
    obtain ⟨h1, h2⟩ := List.pairwise_cons.1 hs
    simp only [insR]
    split
    · rename_i hx
      refine List.pairwise_cons.2 ⟨fun b hb => ?_, hs⟩
      cases hb with
      | head => exact h.as _ _ hx
      | tail _ hb =>
        have h3 := h1 b hb
        cases h4 : lt b x with
        | false => rfl
        | true => have := h.tr _ _ _ h4 hx; rw [h3] at this; cases this
    · rename_i hx
      refine List.pairwise_cons.2 ⟨fun b hb => ?_, insR_srt h h2⟩
      rcases insR_mem.1 hb with rfl | hb
      · simpa using hx
      · exact h1 b hb
theorem sortR_srt (h : SWO lt) (l : List α) : Srt lt (sortR lt l) := by
  obtain ⟨n, hn⟩ : ∃ n, l.length = n := ⟨_, rfl⟩
  induction n generalizing l with
  | zero =>
    have : l = [] := List.length_eq_zero_iff.1 hn
    subst this; exact List.Pairwise.nil
  | succ n ih =>
    rcases List.eq_nil_or_concat l with rfl | ⟨l', x, rfl⟩
    · exact List.Pairwise.nil
    · rw [List.concat_eq_append, sortR_snoc]
      exact insR_srt h (ih l' (by simpa using hn))
theorem insL_split (x : α) : ∀ {p q : List α}, (∀ b ∈ p, lt b x = true) → (∀ b, q.head? = some b → lt b x = false) → insL lt x (p ++ q) = p ++ x :: q
  | [], [], _, _ => rfl
  | [], b :: q, _, hq => by simp [insL, hq b rfl]
  | a :: p, q, hp, hq => by
    simp only [List.cons_append, insL]
    rw [if_pos (hp a List.mem_cons_self), insL_split x (fun b hb => hp b (List.mem_cons_of_mem _ hb)) hq]
theorem insL_at {x : α} {l : List α} {k : Nat} (hp : ∀ j b, j < k → l[j]? = some b → lt b x = true) (hq : ∀ b, l[k]? = some b → lt b x = false) :
    insL lt x l = l.take k ++ x :: l.drop k := by
  have := insL_split (lt := lt) x (p := l.take k) (q := l.drop k) (fun b hb => by
    obtain ⟨j, hj⟩ := List.mem_iff_getElem?.1 hb
    rw [List.getElem?_take] at hj
    split at hj
    · exact hp j b (by assumption) hj
    · cases hj) (fun b hb => hq b (by rw [List.head?_drop] at hb; exact hb))
  rwa [List.take_append_drop] at this
theorem insL_eq_insR (h : SWO lt) (ha : ∀ a b, lt a b = false → lt b a = false → a = b) {x : α} : ∀ {s : List α}, Srt lt s → insL lt x s = insR lt x s
  | [], _ => rfl
  | a :: s, hs => by
    obtain ⟨h1, h2⟩ := List.pairwise_cons.1 hs
    have ih := insL_eq_insR h ha (x := x) h2
    simp only [insL, insR]
    cases h3 : lt a x with
    | true => rw [if_pos rfl, if_neg (by rw [h.as _ _ h3]; simp), ih]
    | false =>
      rw [if_neg (by simp)]
      cases h4 : lt x a with
      | true => rw [if_pos rfl]
      | false =>
        obtain rfl := ha _ _ h3 h4
        rw [if_neg (by simp), ← ih]
        cases s with
        | nil => rfl
        | cons b s =>
          simp only [insL]
          rw [if_neg (by rw [h1 b List.mem_cons_self]; simp)]
def sortF (lt : α → α → Bool) (l : List α) : List α := l.foldl (fun s x => insL lt x s) []
theorem sortF_snoc (l : List α) (x : α) : sortF lt (l ++ [x]) = insL lt x (sortF lt l) := by simp [sortF]
theorem sortF_eq (h : SWO lt) (ha : ∀ a b, lt a b = false → lt b a = false → a = b) (l : List α) : sortF lt l = sortR lt l := by
  obtain ⟨n, hn⟩ : ∃ n, l.length = n := ⟨_, rfl⟩
  induction n generalizing l with
  | zero =>
    have : l = [] := List.length_eq_zero_iff.1 hn
    subst this; rfl
  | succ n ih =>
    rcases List.eq_nil_or_concat l with rfl | ⟨l', x, rfl⟩
    · rfl
    · rw [List.concat_eq_append, sortF_snoc, sortR_snoc, ih l' (by simpa using hn), insL_eq_insR h ha (sortR_srt h l')]
end
section
variable {α : Type} {p rest : List α} {x d : α} {j : Nat}
end
def entLt (a b : Entry) : Bool := decide (a.lvl < b.lvl) || (a.lvl == b.lvl && decide (a.turn < b.turn))
def pinLt (a b : Pin) : Bool := decide (a.tm < b.tm) || (a.tm == b.tm && decide (a.pid < b.pid))
theorem entSWO : SWO entLt where
  tr a b c h1 h2 := by simp only [entLt, Bool.or_eq_true, Bool.and_eq_true, decide_eq_true_eq, beq_iff_eq] at *; omega
  ng a b c h1 h2 := by
    simp only [entLt, Bool.or_eq_false_iff, Bool.and_eq_false_iff, decide_eq_false_iff_not, beq_eq_false_iff_ne] at *; omega
  as a b h1 := by
    simp only [entLt, Bool.or_eq_false_iff, Bool.and_eq_false_iff, decide_eq_false_iff_not, beq_eq_false_iff_ne, Bool.or_eq_true, Bool.and_eq_true, decide_eq_true_eq, beq_iff_eq] at *; omega
theorem pinSWO : SWO pinLt where
  tr a b c h1 h2 := by simp only [pinLt, Bool.or_eq_true, Bool.and_eq_true, decide_eq_true_eq, beq_iff_eq] at *; omega
  ng a b c h1 h2 := by
    simp only [pinLt, Bool.or_eq_false_iff, Bool.and_eq_false_iff, decide_eq_false_iff_not, beq_eq_false_iff_ne] at *; omega
  as a b h1 := by
    simp only [pinLt, Bool.or_eq_false_iff, Bool.and_eq_false_iff, decide_eq_false_iff_not, beq_eq_false_iff_ne, Bool.or_eq_true, Bool.and_eq_true, decide_eq_true_eq, beq_iff_eq] at *; omega
theorem pin_anti (a b : Pin) (h1 : pinLt a b = false) (h2 : pinLt b a = false) : a = b := by
  simp only [pinLt, Bool.or_eq_false_iff, Bool.and_eq_false_iff, decide_eq_false_iff_not, beq_eq_false_iff_ne] at *
  have h3 : a.tm = b.tm := by omega
  have h4 : a.pid = b.pid := by omega
  cases a; cases b; cases h3; cases h4; rfl
end Go.Proofs.Ytlochjpjlhkjaaa

