/- Parts of a proof. No conditions. -/

import Derived.WalkKit
import Derived.OrdersHeld
set_option linter.unusedSimpArgs false
set_option linter.unusedVariables false
namespace Go.Proofs.YtehpbaiclfilaaaGreat
open Go
structure aA where
 tm : Int
 pid : Int
deriving DecidableEq, Inhabited
structure Entry where
 lvl : Int
 aw : Int
 bg : Int
 siz : Int
deriving DecidableEq, Inhabited
structure au where
 id : Int
 cf : Int
 al : Int
 siz : Int
 aK : Int
 since : Int
 aw : Int
 st : Int
 bW : Int
 asked : Int
deriving DecidableEq, Inhabited
structure bA where
 total : Int
 free : Int
 held : Int
 aU : Int
 tied : Int
deriving DecidableEq, Inhabited
structure a_ where
 ah : bA
 row : List Entry
 spoke : List (List aA)
deriving DecidableEq, Inhabited
structure bp where
 ah : List Int
 cm : Int
 room : Int
 size : Int
 period : Int
 ck : Int
 rest : Int
 tries : Int
 bP : Int
deriving DecidableEq, Inhabited
structure ai where
 rules : bp
 now : Int
 aw : Int
 ae : List au
 cabins : List a_
 todo : List Int
 aN : List Int
deriving DecidableEq, Inhabited
structure dL where
 kind : Int
 id : Int
 cf : Int
 al : Int
 siz : Int
 aK : Int
deriving DecidableEq, Inhabited
structure Ff where
 code : Int
 ids : List Int
deriving DecidableEq, Inhabited
inductive an where
 | int | byte | str | aF | aD | az | cF | cf | h_ | rep
deriving DecidableEq, Inhabited
@[reducible] def an.α : an → Type
 | .int => Int
 | .byte => UInt8
 | .str => List UInt8
 | .aF => aA
 | .aD => Entry
 | .az => au
 | .cF => List aA
 | .cf => a_
 | .h_ => dL
 | .rep => Ff
def an.lx : (E : an) → E.α
 | .int => (0 : Int)
 | .byte => (0 : UInt8)
 | .str => ([] : List UInt8)
 | .aF => (default : aA)
 | .aD => (default : Entry)
 | .az => (default : au)
 | .cF => ([] : List aA)
 | .cf => (default : a_)
 | .h_ => (default : dL)
 | .rep => (default : Ff)
def an.sz : an → Nat
 | .int => 1
 | .byte => 1
 | .str => 1
 | .aF => 2
 | .aD => 4
 | .az => 10
 | .cF => 1
 | .cf => 7
 | .h_ => 6
 | .rep => 2
inductive Lf where
 | int (k : IntKind) (t : Unit → Int)
 | bool (t : Unit → Bool)
 | str (t : Unit → List UInt8)
 | list (E : an) (t : Unit → List E.α)
def bQ : (E : an) → (Unit → E.α) → List Lf
 | .int, x => [.int .i64 x]
 | .byte, x => [.int .u8 fun _ => ((x ()).toNat : Int)]
 | .str, x => [.str x]
 | .aF, x => [.int .i64 fun _ => (x ()).tm, .int .i64 fun _ => (x ()).pid]
 | .aD, x => [.int .i64 fun _ => (x ()).lvl, .int .i64 fun _ => (x ()).aw, .int .i64 fun _ => (x ()).bg, .int .i64 fun _ => (x ()).siz]
 | .az, x => [.int .i64 fun _ => (x ()).id, .int .i64 fun _ => (x ()).cf, .int .i64 fun _ => (x ()).al, .int .i64 fun _ => (x ()).siz, .int .i64 fun _ => (x ()).aK,
  .int .i64 fun _ => (x ()).since, .int .i64 fun _ => (x ()).aw, .int .i64 fun _ => (x ()).st, .int .i64 fun _ => (x ()).bW, .int .i64 fun _ => (x ()).asked]
 | .cF, x => [.list .aF x]
 | .cf, x => [.int .i64 fun _ => (x ()).ah.total, .int .i64 fun _ => (x ()).ah.free, .int .i64 fun _ => (x ()).ah.held, .int .i64 fun _ => (x ()).ah.aU, .int .i64 fun _ => (x ()).ah.tied,
  .list .aD fun _ => (x ()).row, .list .cF fun _ => (x ()).spoke]
 | .h_, x => [.int .i64 fun _ => (x ()).kind, .int .i64 fun _ => (x ()).id, .int .i64 fun _ => (x ()).cf, .int .i64 fun _ => (x ()).al, .int .i64 fun _ => (x ()).siz, .int .i64 fun _ => (x ()).aK]
 | .rep, x => [.int .i64 fun _ => (x ()).code, .list .int fun _ => (x ()).ids]
theorem iu (E : an) (x : Unit → E.α) : (bQ E x).length = E.sz := by cases E <;> rfl
theorem vW (E : an) : 0 < E.sz := by cases E <;> decide
def cG : Nat := 9223372036854775807
inductive RL (H : Nat → Option Obj) : Lf → Value → Prop where
 | int {k : IntKind} {t : Unit → Int} (h : k.has (t ())) : RL H (.int k t) (.int k (t ()))
 | bool {t : Unit → Bool} : RL H (.bool t) (.bool (t ()))
 | str {t : Unit → List UInt8} (hm : (t ()).length ≤ cG) : RL H (.str t) (.string ⟨(t ()).toArray⟩)
 | nil {E : an} {t : Unit → List E.α} {a : Option Addr} {c : Nat} (h : t () = []) : RL H (.list E t) (.slice a 0 c)
 | list {E : an} {t : Unit → List E.α} {b off c : Nat} {cs : Array Value} {e : TypeId} {fz : Nat × Nat} (hb : H b = some (.cells cs e fz))
  (hl : (t ()).length ≤ c) (hm : (t ()).length ≤ cG) (ho : off + (t ()).length * E.sz ≤ cs.size)
  (hc : ∀ i x, (t ())[i]? = some x → ∀ j l, (bQ E fun _ => x)[j]? = some l → RL H l (cs.getD (off + i * E.sz + j) undef)) :
  RL H (.list E t) (.slice (some ⟨b, off, none⟩) (t ()).length c)
def bY : Nat → (Nat → Nat) → Nat
 | 0, _ => 0
 | n + 1, f => bY n f + f n
theorem yp {n : Nat} {f : Nat → Nat} {i : Nat} (hi : i < n) : f i ≤ bY n f := by
 induction n with
 | zero => omega
 | succ n ih =>
   simp only [bY]
   by_cases h : i = n
   · subst h; omega
   · have := ih (by omega); omega
theorem l3 {n : Nat} {f : Nat → Nat} (h : ∀ i, i < n → f i = 0) : bY n f = 0 := by
 induction n with
 | zero => rfl
 | succ n ih => simp only [bY]; rw [ih fun i hi => h i (by omega), h n (by omega)]
theorem Fg {n : Nat} {f : Nat → Nat} (h : 0 < bY n f) : ∃ i, i < n ∧ 0 < f i := by
 induction n with
 | zero => simp [bY] at h
 | succ n ih =>
   simp only [bY] at h
   by_cases h0 : 0 < f n
   · exact ⟨n, by omega, h0⟩
   · obtain ⟨i, hi, hf⟩ := ih (by omega); exact ⟨i, by omega, hf⟩
theorem vX {n : Nat} {f g : Nat → Nat} (h : ∀ i, i < n → f i = g i) : bY n f = bY n g := by
 induction n with
 | zero => rfl
 | succ n ih => simp only [bY]; rw [ih fun i hi => h i (by omega), h n (by omega)]
theorem L7 {n : Nat} {f g : Nat → Nat} (h : ∀ i, i < n → f i ≤ g i) : bY n f ≤ bY n g := by
 induction n with
 | zero => exact Nat.le_refl _
 | succ n ih => simp only [bY]; have := ih fun i hi => h i (by omega); have := h n (by omega); omega
theorem A4 {n : Nat} {f g : Nat → Nat} {i : Nat} (hi : i < n) (h : ∀ j, j ≠ i → f j = g j) : bY n f + g i = bY n g + f i := by
 induction n with
 | zero => omega
 | succ n ih =>
   simp only [bY]
   by_cases h0 : i = n
   · subst h0;rw [vX (f := f) (g := g) fun j hj => h j (by omega)];omega
   · have := ih (by omega);rw [h n (by omega)];omega
def NF (cs : Array Value) (fz : Nat × Nat) : Prop := fz.2 ≤ fz.1 ∨ (fz.2 ≤ fz.1 ∧ cs.size ≤ fz.1)
def bT (b n sz : Nat) (S : Nat → Nat → Nat → Nat) : Nat → Nat := fun x => (if x = b then 1 else 0) + bY n fun i => bY sz fun j => S i j x
inductive bn (h : Array Obj) : Lf → Value → (Nat → Nat) → Prop where
 | int {k : IntKind} {t : Unit → Int} (hr : k.has (t ())) : bn h (.int k t) (.int k (t ())) fun _ => 0
 | bool {t : Unit → Bool} : bn h (.bool t) (.bool (t ())) fun _ => 0
 | str {t : Unit → List UInt8} (hm : (t ()).length ≤ cG) : bn h (.str t) (.string ⟨(t ()).toArray⟩) fun _ => 0
 | nil {E : an} {t : Unit → List E.α} (h0 : t () = []) : bn h (.list E t) (.slice none 0 0) fun _ => 0
 | list {E : an} {t : Unit → List E.α} {b off c : Nat} {cs : Array Value} {e : TypeId} {fz : Nat × Nat} (S : Nat → Nat → Nat → Nat) (hb : h[b]? = some (.cells cs e fz)) (hf : NF cs fz)
  (hl : (t ()).length ≤ c) (hm : (t ()).length ≤ cG) (ho : off + c * E.sz ≤ cs.size)
  (hc : ∀ i x, (t ())[i]? = some x → ∀ j l, (bQ E fun _ => x)[j]? = some l → bn h l (cs.getD (off + i * E.sz + j) undef) (S i j)) :
  bn h (.list E t) (.slice (some ⟨b, off, none⟩) (t ()).length c) (bT b (t ()).length E.sz S)
theorem km (b n sz : Nat) (S : Nat → Nat → Nat → Nat) : 0 < bT b n sz S b := by simp [bT]; omega
theorem A5 {b n sz : Nat} {S : Nat → Nat → Nat → Nat} {i j x : Nat} (hi : i < n) (hj : j < sz) : S i j x ≤ bT b n sz S x := by
 have h1 := yp (f := fun j => S i j x) hj;have h2 := yp (f := fun i => bY sz fun j => S i j x) hi;simp only [bT];exact Nat.le_trans h1 (Nat.le_trans h2 (Nat.le_add_left _ _))
theorem Fh {b n sz : Nat} {S : Nat → Nat → Nat → Nat} {x : Nat} (h : 0 < bT b n sz S x) : x = b ∨ ∃ i j, i < n ∧ j < sz ∧ 0 < S i j x := by
 simp only [bT] at h
 by_cases hx : x = b
 · exact .inl hx
 · simp only [hx, if_false] at h;obtain ⟨i, hi, h1⟩ := Fg (n := n) (by omega : 0 < bY n fun i => bY sz fun j => S i j x);obtain ⟨j, hj, h2⟩ := Fg h1;exact .inr ⟨i, j, hi, hj, h2⟩
theorem bq {α : Type} {l : List α} {i : Nat} {x : α} (h : l[i]? = some x) : i < l.length := by
 rcases Nat.lt_or_ge i l.length with h' | h'
 · exact h'
 · rw [List.getElem?_eq_none h'] at h; cases h
theorem bn.mono {h h' : Array Obj} {l : Lf} {v : Value} {S : Nat → Nat} (ho : bn h l v S) : (∀ b, 0 < S b → h'[b]? = h[b]?) → bn h' l v S := by
 induction ho with
 | int hr => exact fun _ => .int hr
 | bool => exact fun _ => .bool
 | str hm => exact fun _ => .str hm
 | nil h0 => exact fun _ => .nil h0
 | list S hb hf hl hm ho hc ih =>
   intro hk;refine .list S (by rw [hk _ (km _ _ _ _)]; exact hb) hf hl hm ho fun i x hx j l hj => ih i x hx j l hj fun b h0 => hk b ?_;exact Nat.lt_of_lt_of_le h0 (A5 (bq hx) (by have := bq hj; rwa [iu] at this))
theorem bn.rl {h : Array Obj} {H : Nat → Option Obj} {l : Lf} {v : Value} {S : Nat → Nat} (ho : bn h l v S) : (∀ b, 0 < S b → H b = h[b]?) → RL H l v := by
 induction ho with
 | int hr => exact fun _ => .int hr
 | bool => exact fun _ => .bool
 | str hm => exact fun _ => .str hm
 | nil h0 => exact fun _ => .nil h0
 | list S hb hf hl hm ho hc ih =>
   intro hk;refine .list (by rw [hk _ (km _ _ _ _)]; exact hb) hl hm (Nat.le_trans ?_ ho) fun i x hx j l hj => ih i x hx j l hj fun b h0 => hk b ?_
   · exact Nat.add_le_add_left (Nat.mul_le_mul_right _ hl) _
   · exact Nat.lt_of_lt_of_le h0 (A5 (bq hx) (by have := bq hj; rwa [iu] at this))
theorem RL.mono {H H' : Nat → Option Obj} {l : Lf} {v : Value} (hr : RL H l v) (hk : ∀ b o, H b = some o → H' b = some o) : RL H' l v := by
 induction hr with
 | int hr => exact .int hr
 | bool => exact .bool
 | str hm => exact .str hm
 | nil h0 => exact .nil h0
 | list hb hl hm ho hc ih => exact .list (hk _ _ hb) hl hm ho ih
theorem bn.there {h : Array Obj} {l : Lf} {v : Value} {S : Nat → Nat} (ho : bn h l v S) : ∀ b, 0 < S b → ∃ cs e fz, h[b]? = some (.cells cs e fz) := by
 induction ho with
 | int hr => intro b h0; simp at h0
 | bool => intro b h0; simp at h0
 | str hm => intro b h0; simp at h0
 | nil _ => intro b h0; simp at h0
 | list S hb hf hl hm ho hc ih =>
   intro x h0;rcases Fh h0 with rfl | ⟨i, j, hi, hj, h1⟩
   · exact ⟨_, _, _, hb⟩
   · obtain ⟨y, hy⟩ : ∃ y, (_ : List _)[i]? = some y := ⟨_, List.getElem?_eq_getElem hi⟩;obtain ⟨l, hl⟩ : ∃ l, (bQ _ fun _ => y)[j]? = some l := ⟨_, List.getElem?_eq_getElem (by rw [iu]; exact hj)⟩;exact ih i y hy j l hl x h1
def iN : List (Int × Int) → Int → Option Nat
 | [], _ => none
 | p :: r, k => if k = p.1 then some 0 else (iN r k).map (· + 1)
def eX : List (Int × Int) → Int → Int
 | [], _ => 0
 | p :: r, k => if k = p.1 then p.2 else eX r k
def ju : List (Int × Int) → Int → Int → List (Int × Int)
 | [], k, v => [(k, v)]
 | p :: r, k, v => if k = p.1 then (p.1, v) :: r else p :: ju r k v
def nL (m : List (Int × Int)) : List (Value × Value) := m.map fun p => (.int .i64 p.1, .int .i64 p.2)
def nM (es : List MapEntry) : List (Value × Value) := es.map fun e => (e.key, e.val)
theorem Fi {kk : IntKind} (k : Int) : ∀ (m : List (Int × Int)) (es : List MapEntry) (i : Nat), nM es = nL m →
   Instr.findNow (.int kk) (.int .i64 k) es i = some (match iN m k with | some j => some (i + j, .int .i64 (eX m k)) | none => none)
 | [], es, i, h => by
   have : es = [] := by simpa [nM, nL] using h
   subst this; rfl
 | p :: m, es, i, h => by
   cases es with
   | nil => simp [nM, nL] at h
   | cons e es =>
     simp only [nM, nL, List.map_cons, List.cons.injEq, Prod.mk.injEq] at h;obtain ⟨⟨h1, h2⟩, h3⟩ := h;have ih := Fi (kk := kk) k m es (i + 1) h3;simp only [Instr.findNow, Instr.sameNow, h1, h2, if_true]
     by_cases hk : k = p.1
     · subst hk; simp [iN, eX]
     · simp only [iN, eX, if_neg hk, show (k == p.1) = false by simpa using hk];rw [ih];cases iN m k with
       | none => rfl
       | some j => simp; omega
theorem vY : ∀ {m : List (Int × Int)} {k v : Int}, iN m k = none → ju m k v = m ++ [(k, v)] ∧ eX m k = 0
 | [], _, _, _ => ⟨rfl, rfl⟩
 | p :: m, k, v, h => by
   simp only [iN] at h
   split at h
   · cases h
   · rename_i hk;have := vY (m := m) (k := k) (v := v) (by simpa using h);simp [ju, eX, if_neg hk, this]
theorem vZ : ∀ {m : List (Int × Int)} {k v : Int} {j : Nat}, iN m k = some j → m[j]? = some (k, eX m k) ∧ ju m k v = m.set j (k, v)
 | [], _, _, _, h => by simp [iN] at h
 | p :: m, k, v, j, h => by
   simp only [iN] at h
   split at h
   · rename_i hk;cases h; subst hk;simp [eX, ju]
   · rename_i hk;simp only [Option.map_eq_some_iff] at h;obtain ⟨i, hi, rfl⟩ := h;have := vZ (m := m) (k := k) (v := v) hi;simp [ju, eX, if_neg hk, this]
structure pA (m : List (Int × Int)) (es : Array MapEntry) : Prop where
 kv : nM es.toList = nL m
 le : m.length ≤ 9223372036854775807
 has : ∀ p ∈ m, IntKind.i64.has p.2
theorem pA.size {m : List (Int × Int)} {es : Array MapEntry} (h : pA m es) : es.size = m.length := by
 have := congrArg List.length h.kv;simpa [nM, nL] using this
theorem pA.get {m : List (Int × Int)} {es : Array MapEntry} (h : pA m es) (k : Int) : IntKind.i64.has (eX m k) := by
 cases hi : iN m k with
 | none => rw [(vY (v := 0) hi).2]; simp [IntKind.has, IntKind.min, IntKind.max, IntKind.signed, IntKind.bits]
 | some j => exact h.has _ (List.mem_of_getElem? (vZ (v := 0) hi).1)
section
variable {P : Program} {T kt et : TypeId} {kk : IntKind}
theorem run_checkKey (hk : P.underlying kt = some (.int kk)) (e : Bool) (w : World) (n : Nat) (k : Int) : (Instr.checkKey e (n + 1) kt (.int .i64 k)).run P w = .ok () w := by
 unfold Instr.checkKey;simp only [Sem.run_bind, run_underlying hk, Result.andThen_ok, Sem.run_pure]
theorem run_findKey (hk : P.underlying kt = some (.int kk)) (w : World) {es : Array MapEntry} {m : List (Int × Int)} (hm : pA m es) (k : Int) :
  (Instr.findKey kt (.int .i64 k) es.toList).run P w = .ok (match iN m k with | some j => some (j, .int .i64 (eX m k)) | none => none) w := by
 have hf := Fi (kk := kk) k m es.toList 0 hm.kv;simp only [Instr.findKey, Sem.run_bind, run_underlying hk, Result.andThen_ok, hf];cases iN m k <;> simp
theorem L8 {w : World} {b : Nat} {es : Array MapEntry} {c : Nat} {m : List (Int × Int)} (hT : P.underlying T = some (.map kt et)) (hk : P.underlying kt = some (.int kk)) {ei : TypeInfo} (he : P.info? et = some ei)
  (hz : ei.zero = some (.int .i64 0)) (hb : w.heap[b]? = some (.map es c)) (hm : pA m es) (k : Int) :
  (Instr.lookup T (.map (some b)) (.int .i64 k) false).run P w = .ok (.int .i64 (eX m k)) w := by
 have hg : (getObj b).run P w = .ok (.map es c) w := by simp [getObj, Sem.run, hb]
 have h0 : (zeroValue et).run P w = .ok (.int .i64 0) w := by simp [zeroValue, typeInfo, he, hz]
 unfold Instr.lookup;have hc := run_checkKey hk es.isEmpty w 9999 k;simp only [Nat.reduceAdd] at hc;simp only [Sem.run_bind, run_underlying hT, Result.andThen_ok, hg, Sem.run_pure, hc, run_findKey hk w hm];cases hi : iN m k with
 | none => simp [(vY (v := 0) hi).2, h0]
 | some j => simp
theorem L9 {w : World} {b : Nat} {es : Array MapEntry} {c : Nat} {m : List (Int × Int)} (hT : P.underlying T = some (.map kt et)) (hk : P.underlying kt = some (.int kk))
   (hb : w.heap[b]? = some (.map es c)) (hm : pA m es) (k v : Int) (hv : IntKind.i64.has v) (hl : m.length < 9223372036854775807) :
   ∃ pB c', (Instr.mapUpdate T (.map (some b)) (.int .i64 k) (.int .i64 v)).run P w = .ok () { w with heap := w.heap.setIfInBounds b (.map pB c') } ∧ pA (ju m k v) pB := by
 have hg : (getObj b).run P w = .ok (.map es c) w := by simp [getObj, Sem.run, hb]
 have hs : ∀ o, (setObj b o).run P w = .ok () { w with heap := w.heap.setIfInBounds b o } := fun o => by simp [setObj, Sem.run, hb]
 have hc := run_checkKey hk false w 9999 k;simp only [Nat.reduceAdd] at hc;have hf := run_findKey hk w hm k;cases hi : iN m k with
 | none =>
   refine ⟨es.push { key := .int .i64 k, val := .int .i64 v, born := c }, c + 1, ?_, ?_⟩
   · simp only [hi] at hf;unfold Instr.mapUpdate;simp only [Sem.run_bind, run_underlying hT, Result.andThen_ok, hg, hc, hf, hs]
   · have h1 := (vY (v := v) hi).1;refine ⟨?_, by rw [h1]; simp; omega, fun p hp => ?_⟩
     · have := hm.kv;rw [h1];simp only [nM, nL, Array.toList_push, List.map_append, List.map_cons, List.map_nil] at this ⊢;rw [this]
     · rw [h1] at hp;rcases List.mem_append.1 hp with hp | hp
       · exact hm.has p hp
       · cases List.mem_singleton.1 hp; exact hv
 | some j =>
   obtain ⟨h1, h2⟩ := vZ (v := v) hi
   have hj : es[j]? = some (es[j]?.getD default) ∧ (es[j]?.getD default).key = .int .i64 k := by
     have h3 := congrArg (fun l => l[j]?) hm.kv;simp only [nM, nL, List.getElem?_map, h1, Option.map_some] at h3;rw [Array.getElem?_toList] at h3;cases h4 : es[j]? with
     | none => rw [h4] at h3; simp at h3
     | some e => rw [h4] at h3; simp at h3; simp [h3]
   refine ⟨es.modify j fun e => { e with key := .int .i64 k, val := .int .i64 v }, c, ?_, ?_⟩
   · simp only [hi] at hf;have sP : ((es[j]?).map (·.key)).getD (.int .i64 k) = .int .i64 k := by rw [hj.1]; simp [hj.2]
     have iO : (Instr.keyThatStays (.int .i64 k) (.int .i64 k)).run P w = .ok (.int .i64 k) w := by
       simp [Instr.keyThatStays, Instr.sameBits]
     unfold Instr.mapUpdate;simp only [Sem.run_bind, run_underlying hT, Result.andThen_ok, hg, hc, hf, sP, iO, hs]
   · refine ⟨?_, by rw [h2]; simpa using hm.le, fun p hp => ?_⟩
     · have := hm.kv;rw [h2];apply List.ext_getElem?;intro i;have h5 := congrArg (fun l => l[i]?) this;simp only [nM, nL, List.getElem?_map, Array.getElem?_toList] at h5;simp only [nM, nL, List.getElem?_map, Array.getElem?_toList, Array.getElem?_modify, List.getElem?_set]
       by_cases pC : j = i
       · subst pC
         have aL : j < m.length := by
          rcases Nat.lt_or_ge j m.length with h | h
          · exact h
          · rw [List.getElem?_eq_none h] at h1; cases h1
         rw [if_pos rfl, if_pos rfl, if_pos aL, hj.1];simp
       · rw [if_neg pC, if_neg pC]; exact h5
     · rw [h2] at hp;rcases List.mem_or_eq_of_mem_set hp with hp | rfl
       · exact hm.has p hp
       · exact hv
end
inductive Cp where
 | ptr (k off : Nat)
 | el (E : an) (x : Unit → E.α) (off : Nat)
 | bZ (ls : List Lf) (off : Nat)
inductive C where
 | lf (l : Lf)
 | bl (b : Bool)
 | nil
 | own (k : Nat)
 | ptr (k off : Nat)
 | el (E : an) (x : Unit → E.α) (off : Nat)
 | bZ (ls : List Lf) (off : Nat)
 | fq (k : Nat) (E : an) (i : Unit → Nat) (off : Nat)
 | fn (f : FuncId) (ly : List Cp)
 | undef
inductive V where
 | c (x : C)
 | agg (cs : List C)
 | bc (cs : List (Bool × List C))
inductive ak where
 | dead
 | box (cs : List C)
 | own (E : an) (xs : Unit → List E.α) (sQ : Bool)
 | view (E : an) (xs : Unit → List E.α)
 | b0 (E : an) (xs : Unit → List E.α) (i : Unit → Nat) (fs : List (Option Nat))
 | mp (m : Unit → List (Int × Int))
structure SS where
 env : List V
 af : List (Nat × ak)
abbrev Hp := Nat → Option Obj
abbrev aG := Nat → Value × (Nat → Nat)
def dX (H : Hp) (ρ : aG) (D : Nat → Prop) : Cp → Value → Prop
 | .ptr k off, v => D k ∧ ∃ b, (ρ k).1 = .pointer (some ⟨b, 0, none⟩) ∧ v = .pointer (some ⟨b, off, none⟩)
 | .el E x off, v => ∃ b o cs e fz, H b = some (.cells cs e fz) ∧ v = .pointer (some ⟨b, o, none⟩) ∧
  ∀ j l, (bQ E x)[off + j]? = some l → o + j < cs.size ∧ RL H l (cs.getD (o + j) Go.undef)
 | .bZ ls off, v => ∃ b o cs e fz, H b = some (.cells cs e fz) ∧ v = .pointer (some ⟨b, o, none⟩) ∧
  ∀ j l, ls[off + j]? = some l → o + j < cs.size ∧ RL H l (cs.getD (o + j) Go.undef)
def RC (H : Hp) (ρ : aG) (D : Nat → Prop) : C → Value → Prop
 | .lf l, v => RL H l v
 | .bl b, v => v = .bool b
 | .nil, v => v = .slice none 0 0
 | .own k, v => D k ∧ v = (ρ k).1
 | .ptr k off, v => dX H ρ D (.ptr k off) v
 | .el E x off, v => dX H ρ D (.el E x off) v
 | .bZ ls off, v => dX H ρ D (.bZ ls off) v
 | .fq k E i off, v => D k ∧ ∃ b o n c, (ρ k).1 = .slice (some ⟨b, o, none⟩) n c ∧ i () < n ∧ v = .pointer (some ⟨b, o + i () * E.sz + off, none⟩)
 | .fn f ly, v => ∃ vs : Array Value, v = .func (.func f) #[] vs ∧ vs.size = ly.length ∧ ∀ j c, ly[j]? = some c → dX H ρ D c (vs.getD j Go.undef)
 | .undef, _ => True
def cW (H : Hp) (ρ : aG) (D : Nat → Prop) (cs : List C) (vs : Array Value) : Prop :=
 vs.size = cs.length ∧ ∀ j c, cs[j]? = some c → RC H ρ D c (vs.getD j Go.undef)
def RT (H : Hp) (ρ : aG) (D : Nat → Prop) (p : Bool × List C) (v : Value) : Prop :=
 match p.1 with
 | true => ∃ vs, v = .agg vs ∧ cW H ρ D p.2 vs
 | false => ∃ c, p.2 = [c] ∧ RC H ρ D c v
def RV (H : Hp) (ρ : aG) (D : Nat → Prop) : V → Value → Prop
 | .c x, v => RC H ρ D x v
 | .agg cs, v => ∃ vs, v = .agg vs ∧ cW H ρ D cs vs
 | .bc cs, v => ∃ vs : Array Value, v = .tuple vs ∧ vs.size = cs.length ∧ ∀ j p, cs[j]? = some p → RT H ρ D p (vs.getD j Go.undef)
def one (b : Nat) : Nat → Nat := fun x => if x = b then 1 else 0
def filled (fs : List (Option Nat)) (i q j : Nat) : Option Nat := if q = i then (match fs[j]? with | some (some k) => some k | _ => none) else none
def yq (h : Array Obj) (ρ : aG) (D : Nat → Prop) (E : an) (xs : List E.α) (i : Nat) (fs : List (Option Nat)) (cs : Nat → Value) (S : Nat → Nat → Nat → Nat) : Prop :=
 ∀ q x, xs[q]? = some x → ∀ j l, (bQ E fun _ => x)[j]? = some l → match filled fs i q j with
  | some k => D k ∧ cs (q * E.sz + j) = (ρ k).1 ∧ S q j = fun _ => 0
  | none => bn h l (cs (q * E.sz + j)) (S q j)
def cK (h : Array Obj) (H : Hp) (ρ : aG) (D : Nat → Prop) (B : ak) (p : Value × (Nat → Nat)) : Prop :=
 match B with
 | .dead => p.2 = fun _ => 0
 | .box cs => ∃ b vs e fz, p.1 = .pointer (some ⟨b, 0, none⟩) ∧ p.2 = one b ∧ h[b]? = some (.cells vs e fz) ∧ NF vs fz ∧ cW H ρ D cs vs
 | .own E xs _ => bn h (.list E xs) p.1 p.2
 | .view E xs => RL H (.list E xs) p.1 ∧ p.2 = fun _ => 0
 | .b0 E xs i fs => ∃ b o c cs e fz S, p.1 = .slice (some ⟨b, o, none⟩) (xs ()).length c ∧ p.2 = bT b (xs ()).length E.sz S ∧ h[b]? = some (.cells cs e fz) ∧ NF cs fz ∧ (xs ()).length ≤ c ∧
  (xs ()).length ≤ cG ∧ o + c * E.sz ≤ cs.size ∧ i () < (xs ()).length ∧ yq h ρ D E (xs ()) (i ()) fs (fun q => cs.getD (o + q) Go.undef) S
 | .mp m => ∃ b es c, p.1 = .map (some b) ∧ p.2 = one b ∧ h[b]? = some (.map es c) ∧ pA (m ()) es
def fV (B : ak) (p : Value × (Nat → Nat)) (x : Nat) : Prop :=
 match B with
 | .dead => False
 | .box _ => 0 < p.2 x
 | .own _ _ false => 0 < p.2 x
 | .own _ _ true => ∃ o n c, p.1 = .slice (some ⟨x, o, none⟩) n c
 | .view _ _ => False
 | .b0 _ _ _ _ => 0 < p.2 x
 | .mp _ => 0 < p.2 x
def av (bs : List (Nat × ak)) (k : Nat) : Prop := k ∈ bs.map (·.1)
def aS (ρ : aG) : List (Nat × ak) → Nat → Nat
 | [], _ => 0
 | p :: r, x => (ρ p.1).2 x + aS ρ r x
structure gf (h : Array Obj) (H0 H : Hp) (ρ : aG) (bs : List (Nat × ak)) : Prop where
 oc : ∀ k, av bs k → (ρ k).1.oneCell' = true
 nd : (bs.map (·.1)).Nodup
 h0 : ∀ b o, H0 b = some o → H b = some o
 hh : ∀ b o, H b = some o → h[b]? = some o
 af : ∀ k B, (k, B) ∈ bs → cK h H ρ (av bs) B (ρ k)
 sum : ∀ x, aS ρ bs x ≤ 1
 fresh : ∀ k B, (k, B) ∈ bs → ∀ x, 0 < (ρ k).2 x → H0 x = none
 ia : ∀ k B, (k, B) ∈ bs → ∀ x, fV B (ρ k) x → H x = none
structure Ext (w w' : World) : Prop where
 sz : w.heap.size ≤ w'.heap.size
 os : w'.os = w.os
 out : w'.output = w.output
 fz : ∀ a : Addr, a.block < w.heap.size → w'.frozen? a = w.frozen? a
theorem Ext.of {w w' : World} (sz : w.heap.size ≤ w'.heap.size) (os : w'.os = w.os) (out : w'.output = w.output) (fz : ∀ a, w'.frozen? a = w.frozen? a) : Ext w w' := ⟨sz, os, out, fun a _ => fz a⟩
theorem Ext.refl (w : World) : Ext w w := ⟨Nat.le_refl _, rfl, rfl, fun _ _ => rfl⟩
theorem Ext.trans {w w' sR : World} (h : Ext w w') (g : Ext w' sR) : Ext w sR := ⟨Nat.le_trans h.sz g.sz, g.os.trans h.os, g.out.trans h.out, fun a q => (g.fz a (Nat.lt_of_lt_of_le q h.sz)).trans (h.fz a q)⟩
structure Ctx where
 H0 : Hp
 hd : List (Nat × (Value × (Nat → Nat)))
 w0 : World
 hm : List (Nat × Value)
structure nN (H : Hp) (ρ : aG) (D : Nat → Prop) (env : List V) (tmps : Array Value) : Prop where
 size : tmps.size = env.length
 get : ∀ (j : Nat) c, env[j]? = some c → RV H ρ D c (tmps.getD j Go.undef)
structure aI (Γ : Ctx) (H : Hp) (ρ : aG) (σ : SS) (a : Act) (w : World) : Prop where
 b : gf w.heap Γ.H0 H ρ σ.af
 e : nN H ρ (av σ.af) σ.env a.tmps
 d : a.defers = []
 n : Ext Γ.w0 w
 hd : ∀ p ∈ Γ.hd, av σ.af p.1 ∧ (ρ p.1).1 = p.2.1 ∧ ∀ x, (ρ p.1).2 x ≤ p.2.2 x
 hm : ∀ p ∈ Γ.hm, av σ.af p.1 ∧ (ρ p.1).1 = p.2
def Rel (Γ : Ctx) (σ : SS) (a : Act) (w : World) : Prop := ∃ H ρ, aI Γ H ρ σ a w
structure jO (H H' : Hp) (ρ ρ' : aG) (D D' : Nat → Prop) : Prop where
 h : ∀ b o, H b = some o → H' b = some o
 d : ∀ k, D k → D' k ∧ (ρ' k).1 = (ρ k).1
theorem jO.refl (H : Hp) (ρ : aG) (D : Nat → Prop) : jO H H ρ ρ D D := ⟨fun _ _ h => h, fun _ h => ⟨h, rfl⟩⟩
section
variable {H H' : Hp} {ρ ρ' : aG} {D D' : Nat → Prop}
theorem dX.grow (g : jO H H' ρ ρ' D D') {c : Cp} {v : Value} (h : dX H ρ D c v) : dX H' ρ' D' c v := by
 cases c with
 | ptr k off => obtain ⟨hk, b, h1, h2⟩ := h; exact ⟨(g.d k hk).1, b, by rw [(g.d k hk).2]; exact h1, h2⟩
 | el E x off =>
   obtain ⟨b, o, cs, e, fz, h1, h2, h3⟩ := h;exact ⟨b, o, cs, e, fz, g.h _ _ h1, h2, fun j l hj => ⟨(h3 j l hj).1, (h3 j l hj).2.mono g.h⟩⟩
 | bZ ls off =>
   obtain ⟨b, o, cs, e, fz, h1, h2, h3⟩ := h;exact ⟨b, o, cs, e, fz, g.h _ _ h1, h2, fun j l hj => ⟨(h3 j l hj).1, (h3 j l hj).2.mono g.h⟩⟩
theorem RC.grow (g : jO H H' ρ ρ' D D') {c : C} {v : Value} (h : RC H ρ D c v) : RC H' ρ' D' c v := by
 cases c with
 | lf l => exact RL.mono h g.h
 | bl b => exact h
 | nil => exact h
 | own k => obtain ⟨hk, h1⟩ := h; exact ⟨(g.d k hk).1, by rw [(g.d k hk).2]; exact h1⟩
 | ptr k off => exact dX.grow g (c := .ptr k off) h
 | el E x off => exact dX.grow g (c := .el E x off) h
 | bZ ls off => exact dX.grow g (c := .bZ ls off) h
 | fq k E i off => obtain ⟨hk, b, o, n, c, h1, h2⟩ := h; exact ⟨(g.d k hk).1, b, o, n, c, by rw [(g.d k hk).2]; exact h1, h2⟩
 | fn f ly => obtain ⟨vs, h1, h2, h3⟩ := h; exact ⟨vs, h1, h2, fun j c hj => (h3 j c hj).grow g⟩
 | undef => trivial
theorem cW.grow (g : jO H H' ρ ρ' D D') {cs : List C} {vs : Array Value} (h : cW H ρ D cs vs) : cW H' ρ' D' cs vs :=
 ⟨h.1, fun j c hj => (h.2 j c hj).grow g⟩
theorem RT.grow (g : jO H H' ρ ρ' D D') {p : Bool × List C} {v : Value} (h : RT H ρ D p v) : RT H' ρ' D' p v := by
 obtain ⟨b, cs⟩ := p;cases b with
 | true => obtain ⟨vs, h1, h2⟩ := h; exact ⟨vs, h1, h2.grow g⟩
 | false => obtain ⟨c, h1, h2⟩ := h; exact ⟨c, h1, h2.grow g⟩
theorem RV.grow (g : jO H H' ρ ρ' D D') {c : V} {v : Value} (h : RV H ρ D c v) : RV H' ρ' D' c v := by
 cases c with
 | c x => exact RC.grow g h
 | agg cs => obtain ⟨vs, h1, h2⟩ := h; exact ⟨vs, h1, h2.grow g⟩
 | bc cs => obtain ⟨vs, h1, h2, h3⟩ := h; exact ⟨vs, h1, h2, fun j p hj => (h3 j p hj).grow g⟩
theorem nN.grow (g : jO H H' ρ ρ' D D') {env : List V} {tmps : Array Value} (h : nN H ρ D env tmps) : nN H' ρ' D' env tmps :=
 ⟨h.size, fun j c hj => (h.get j c hj).grow g⟩
end
theorem cK.mono {h h' : Array Obj} {H H' : Hp} {ρ ρ' : aG} {D D' : Nat → Prop} {B : ak} {p : Value × (Nat → Nat)} (g : jO H H' ρ ρ' D D')
   (hr : cK h H ρ D B p) (hk : ∀ b, 0 < p.2 b → h'[b]? = h[b]?) : cK h' H' ρ' D' B p := by
 cases B with
 | dead => exact hr
 | box cs =>
   obtain ⟨b, vs, e, fz, h1, h2, h3, h4, h5⟩ := hr;exact ⟨b, vs, e, fz, h1, h2, by rw [hk b (by simp [h2, one])]; exact h3, h4, h5.grow g⟩
 | own E xs sQ => exact bn.mono hr hk
 | mp m =>
   obtain ⟨b, es, c, h1, h2, h3, h4⟩ := hr;exact ⟨b, es, c, h1, h2, by rw [hk b (by simp [h2, one])]; exact h3, h4⟩
 | view E xs => exact ⟨hr.1.mono g.h, hr.2⟩
 | b0 E xs i fs =>
   obtain ⟨b, o, c, cs, e, fz, S, h1, h2, h3, h4, h5, h6, h7, h8, h9⟩ := hr;refine ⟨b, o, c, cs, e, fz, S, h1, h2, by rw [hk b (by rw [h2]; exact km _ _ _ _)]; exact h3, h4, h5, h6, h7, h8, fun q x hx j l hj => ?_⟩;have bw := h9 q x hx j l hj
   split at bw
   · obtain ⟨g1, g2, g3⟩ := bw;exact ⟨(g.d _ g1).1, by rw [(g.d _ g1).2]; exact g2, g3⟩
   · refine bw.mono fun y hy => hk y ?_;rw [h2];exact Nat.lt_of_lt_of_le hy (A5 (bq hx) (by have := bq hj; rwa [iu] at this))
theorem mO {ρ : aG} {bs : List (Nat × ak)} {k : Nat} {B : ak} (h : (k, B) ∈ bs) (x : Nat) : (ρ k).2 x ≤ aS ρ bs x := by
 induction bs with
 | nil => cases h
 | cons p r ih =>
   simp only [aS];cases h with
   | head => simp only; omega
   | tail _ h => have := ih h; omega
def aM : List (Nat × ak) → Nat → Option ak
 | [], _ => none
 | p :: r, k => if p.1 = k then some p.2 else aM r k
theorem de {bs : List (Nat × ak)} {k : Nat} {B : ak} (h : aM bs k = some B) : (k, B) ∈ bs := by
 induction bs with
 | nil => simp [aM] at h
 | cons p r ih =>
   simp only [aM] at h
   split at h
   · rename_i hk; cases h; subst hk; exact List.mem_cons_self
   · exact List.mem_cons_of_mem _ (ih h)
theorem fB {bs : List (Nat × ak)} {k : Nat} {B : ak} (h : aM bs k = some B) : av bs k := List.mem_map.2 ⟨_, de h, rfl⟩
theorem jw {bs : List (Nat × ak)} {k : Nat} (h : aM bs k = none) : ¬ av bs k := by
 induction bs with
 | nil => simp [av]
 | cons p r ih =>
   simp only [aM] at h
   split at h
   · cases h
   · rename_i hk;intro hd;simp only [av, List.map_cons, List.mem_cons] at hd;rcases hd with hd | hd
     · exact hk hd.symm
     · exact ih h hd
def dx : List (Nat × ak) → Nat → ak → List (Nat × ak)
 | [], k, B => [(k, B)]
 | p :: r, k, B => if k < p.1 then (k, B) :: p :: r else p :: dx r k B
theorem v5 {bs : List (Nat × ak)} {k : Nat} {B : ak} {q : Nat × ak} : q ∈ dx bs k B ↔ q = (k, B) ∨ q ∈ bs := by
 induction bs with
 | nil => simp [dx]
 | cons p r ih =>
   simp only [dx]
   split
   · simp
   · simp only [List.mem_cons, ih]
     constructor
     · rintro (h | h | h)
       · exact .inr (.inl h)
       · exact .inl h
       · exact .inr (.inr h)
     · rintro (h | h | h)
       · exact .inr (.inl h)
       · exact .inl h
       · exact .inr (.inr h)
theorem gh {bs : List (Nat × ak)} {k : Nat} {B : ak} {j : Nat} : av (dx bs k B) j ↔ j = k ∨ av bs j := by
 simp only [av, List.mem_map, v5]
 constructor
 · rintro ⟨q, h | h, rfl⟩
   · exact .inl (by rw [h])
   · exact .inr ⟨q, h, rfl⟩
 · rintro (rfl | ⟨q, h, rfl⟩)
   · exact ⟨_, .inl rfl, rfl⟩
   · exact ⟨q, .inr h, rfl⟩
theorem L_ {bs : List (Nat × ak)} {k : Nat} {B : ak} (h : (bs.map (·.1)).Nodup) (hk : ¬ av bs k) : ((dx bs k B).map (·.1)).Nodup := by
 induction bs with
 | nil => simp [dx]
 | cons p r ih =>
   simp only [dx]
   split
   · simp only [List.map_cons] at h hk ⊢;exact List.nodup_cons.2 ⟨hk, h⟩
   · simp only [List.map_cons, List.nodup_cons] at h ⊢;have bD : ¬ av r k := fun h' => hk (by simp only [av, List.map_cons, List.mem_cons]; exact .inr h');refine ⟨fun h' => ?_, ih h.2 bD⟩;have := gh.1 h';rcases this with h1 | h1
     · exact hk (by simp only [av, List.map_cons, List.mem_cons]; exact .inl h1.symm)
     · exact h.1 h1
theorem yr {ρ : aG} {bs : List (Nat × ak)} {k : Nat} {B : ak} (x : Nat) : aS ρ (dx bs k B) x = (ρ k).2 x + aS ρ bs x := by
 induction bs with
 | nil => simp [dx, aS]
 | cons p r ih =>
   simp only [dx]
   split
   · simp [aS]
   · simp only [aS, ih]; omega
theorem v7 {ρ ρ' : aG} {bs : List (Nat × ak)} (h : ∀ k, av bs k → ρ' k = ρ k) (x : Nat) : aS ρ' bs x = aS ρ bs x := by
 induction bs with
 | nil => rfl
 | cons p r ih =>
   simp only [aS];rw [h p.1 (by simp [av]), ih fun k hk => h k (by simp only [av, List.map_cons, List.mem_cons]; exact .inr hk)]
def bO : List (Nat × ak) → Nat → ak → List (Nat × ak)
 | [], _, _ => []
 | p :: r, k, B => if p.1 = k then (k, B) :: r else p :: bO r k B
theorem sS {bs : List (Nat × ak)} {k : Nat} {B : ak} : (bO bs k B).map (·.1) = bs.map (·.1) := by
 induction bs with
 | nil => rfl
 | cons p r ih =>
   simp only [bO]
   split
   · rename_i h; simp [h]
   · simp [ih]
theorem fc {bs : List (Nat × ak)} {k : Nat} {B : ak} {j : Nat} : av (bO bs k B) j ↔ av bs j := by simp only [av, sS]
theorem ko {bs : List (Nat × ak)} (hn : (bs.map (·.1)).Nodup) {k : Nat} {B : ak} {j : Nat} {A : ak} (h : (j, A) ∈ bO bs k B) :
   (j = k ∧ A = B) ∨ (j ≠ k ∧ (j, A) ∈ bs) := by
 induction bs with
 | nil => simp [bO] at h
 | cons p r ih =>
   simp only [List.map_cons, List.nodup_cons] at hn;simp only [bO] at h
   split at h
   · rename_i hk;cases h with
     | head => exact .inl ⟨rfl, rfl⟩
     | tail _ h =>
       refine .inr ⟨fun hj => hn.1 ?_, List.mem_cons_of_mem _ h⟩;rw [hk, ← hj];exact List.mem_map.2 ⟨_, h, rfl⟩
   · rename_i hk;cases h with
     | head => exact .inr ⟨hk, List.mem_cons_self⟩
     | tail _ h =>
       rcases ih hn.2 h with h' | h'
       · exact .inl h'
       · exact .inr ⟨h'.1, List.mem_cons_of_mem _ h'.2⟩
theorem sU {ρ ρ' : aG} {bs : List (Nat × ak)} (hn : (bs.map (·.1)).Nodup) {k : Nat} {B : ak} (hk : av bs k) (h : ∀ j, j ≠ k → ρ' j = ρ j) (x : Nat) :
   aS ρ' (bO bs k B) x + (ρ k).2 x = aS ρ bs x + (ρ' k).2 x := by
 induction bs with
 | nil => simp [av] at hk
 | cons p r ih =>
   simp only [List.map_cons, List.nodup_cons] at hn;simp only [bO]
   split
   · rename_i hp;simp only [aS];rw [v7 (ρ := ρ) (ρ' := ρ') (bs := r) fun j hj => h j fun he => hn.1 (by rw [hp, ← he]; exact hj)];rw [hp]; omega
   · rename_i hp;simp only [aS]
     have bD : av r k := by
      simp only [av, List.map_cons, List.mem_cons] at hk;rcases hk with hk | hk
      · exact absurd hk.symm hp
      · exact hk
     have := ih hn.2 bD;rw [h p.1 hp];omega
inductive Z where
 | i (k : IntKind)
 | bo
 | st
 | nl (E : an)
 | un
deriving DecidableEq
def Z.c : Z → C
 | .i k => .lf (.int k fun _ => 0)
 | .bo => .bl false
 | .st => .lf (.str fun _ => [])
 | .nl _ => .nil
 | .un => .undef
def Z.ok : Z → Value → Bool
 | .i k, .int k' m => decide (k = k') && decide (m = 0)
 | .bo, .bool b => !b
 | .st, .string s => decide (s = ByteArray.empty)
 | .nl _, .slice none 0 0 => true
 | .un, _ => true
 | _, _ => false
def Z.gV : List Z → List Value → Bool
 | [], [] => true
 | z :: zs, v :: vs => z.ok v && Z.gV zs vs
 | _, _ => false
theorem IntKind.yt (k : IntKind) : k.has 0 := by cases k <;> simp [IntKind.has, IntKind.min, IntKind.max, IntKind.signed, IntKind.bits]
theorem Z.Ma {H : Hp} {ρ : aG} {D : Nat → Prop} {z : Z} {v : Value} (h : z.ok v = true) : RC H ρ D z.c v := by
 cases z with
 | i k =>
   cases v <;> simp [Z.ok] at h
   obtain ⟨rfl, rfl⟩ := h;exact RL.int (t := fun _ => 0) (IntKind.yt _)
 | bo => cases v <;> simp [Z.ok] at h; subst h; rfl
 | st =>
   cases v <;> simp [Z.ok] at h
   subst h;exact RL.str (t := fun _ => []) (by simp [cG])
 | nl E =>
   cases v with
   | slice a n c =>
     cases a with
     | none => cases n <;> cases c <;> first | rfl | simp [Z.ok] at h
     | some a => simp [Z.ok] at h
   | _ => simp [Z.ok] at h
 | un => trivial
theorem Z.Fj {H : Hp} {ρ : aG} {D : Nat → Prop} {zs : List Z} {vs : List Value} (h : Z.gV zs vs = true) : cW H ρ D (zs.map Z.c) vs.toArray := by
 induction zs generalizing vs with
 | nil =>
   cases vs with
   | nil => exact ⟨rfl, fun j c hj => by simp at hj⟩
   | cons v vs => simp [Z.gV] at h
 | cons z zs ih =>
   cases vs with
   | nil => simp [Z.gV] at h
   | cons v vs =>
     simp only [Z.gV, Bool.and_eq_true] at h;have := ih h.2;refine ⟨by simpa using this.1, fun j c hj => ?_⟩;cases j with
     | zero => simp at hj; subst hj; simpa using Z.Ma h.1
     | succ j => simpa using this.2 j c (by simpa using hj)
def nO : an → List Z
 | .int => [.i .i64]
 | .byte => [.i .u8]
 | .str => [.st]
 | .aF => List.replicate 2 (.i .i64)
 | .aD => List.replicate 4 (.i .i64)
 | .az => List.replicate 10 (.i .i64)
 | .cF => [.nl .aF]
 | .cf => List.replicate 5 (.i .i64) ++ [.nl .aD, .nl .cF]
 | .h_ => List.replicate 6 (.i .i64)
 | .rep => [.i .i64, .nl .int]
inductive TI where
 | sl (E : an) (elem bytes : Nat)
 | st (n : Nat) (fs : List (Nat × Nat × Bool)) (z : List Z) (q : Bool)
 | sc (z : Z)
 | it (k : IntKind)
 | bt
 | ss
 | mp (kt et : Nat)
def jP : TypeDesc → Bool
 | .struct _ | .array _ _ => true
 | _ => false
def kq (P : Program) : List (Nat × Nat × Bool) → List Field → Bool
 | [], [] => true
 | p :: ps, f :: fs =>
   decide (f.offset = p.1) && (match P.info? f.type with | some i => decide (i.size = p.2.1) | none => false) && decide (p.2.1 ≠ 0) &&
    (match P.underlying f.type with | some d => jP d == p.2.2 | none => false) && decide (f.name ≠ "_") && kq P ps fs
 | _, _ => false
def yu (P : Program) : Nat → List Field → Bool
 | _, [] => true
 | j, f :: fs => decide (f.offset = j) && decide (f.name ≠ "_") && (match P.underlying f.type with | some (.int _) => true | _ => false) && yu P (j + 1) fs
def A6 (P : Program) (t : TypeId) (fields : Array Field) : Bool := !P.stoodInHeld t && !P.eqGuardType P.depth t && yu P 0 fields.toList
def eJ (P : Program) (t : TypeId) : TI → Bool
 | .sl E elem bytes =>
   (match P.underlying t with | some (.slice e) => decide (e = elem) | _ => false) &&
    (match P.info? elem with
     | some i => decide (i.size = E.sz) && decide (i.bytes = bytes) && (match i.zero with | some z => Z.gV (nO E) z.cells.toList | none => false)
     | none => false) &&
    (match P.info? t with
     | some i => decide (i.size = 1) && (match i.zero with | some v => v.oneCell' && (Z.nl E).ok v | none => false)
     | none => false)
 | .st n fs z q =>
   (match P.underlying t with | some (.struct fields) => kq P fs fields.toList && (!q || A6 P t fields) | _ => false) &&
    (match P.info? t with
     | some i => decide (i.size = n) && (match i.zero with | some (.agg cs) => Z.gV z cs.toList | _ => false)
     | none => false)
 | .sc z =>
   (match P.underlying t with | some d => !jP d | none => false) &&
    (match P.info? t with
     | some i => decide (i.size = 1) && (match i.zero with | some v => v.oneCell' && z.ok v | none => false)
     | none => false)
 | .it k =>
   (match P.underlying t with | some (.int k') => decide (k' = k) | _ => false) &&
    (match P.info? t with
     | some i => decide (i.size = 1) && (match i.zero with | some v => v.oneCell' && (Z.i k).ok v | none => false)
     | none => false)
 | .bt =>
   (match P.underlying t with | some .bool => true | _ => false) &&
    (match P.info? t with
     | some i => decide (i.size = 1) && (match i.zero with | some v => v.oneCell' && Z.bo.ok v | none => false)
     | none => false)
 | .ss =>
   (match P.underlying t with | some .string => true | _ => false) &&
    (match P.info? t with
     | some i => decide (i.size = 1) && (match i.zero with | some v => v.oneCell' && Z.st.ok v | none => false)
     | none => false)
 | .mp kt et =>
   (match P.underlying t with | some (.map a b) => decide (a = kt) && decide (b = et) | _ => false) && (match P.underlying kt with | some (.int k) => decide (k = .i64) | _ => false) &&
    (match P.info? et with | some i => (match i.zero with | some (.int k n) => decide (k = .i64) && decide (n = 0) | _ => false) | none => false) &&
    (match P.info? t with
     | some i => decide (i.size = 1) && (match i.zero with | some v => v.oneCell' && Z.un.ok v | none => false)
     | none => false)
structure bf where
 ts : List (Nat × TI)
 mu : List (Nat × List Bool)
 fz : List (Nat × Nat × an)
 ct : List (Nat × Nat)
def Fk (P : Program) (tab : bf) : Bool := tab.ts.all fun p => eJ P p.1 p.2
def fw (P : Program) (tab : bf) : Bool := P.follows .mixedOrders && Fk P tab
def qw : List (Nat × TI) → Nat → Option TI
 | [], _ => none
 | p :: r, n => if p.1 = n then some p.2 else qw r n
def cS (tab : bf) (n : Nat) : Option TI := qw tab.ts n
def Fl : List (Nat × List Bool) → Nat → Option (List Bool)
 | [], _ => none
 | p :: r, n => if p.1 = n then some p.2 else Fl r n
def v8 (tab : bf) (f : Nat) : Option (List Bool) := Fl tab.mu f
theorem Mb {P : Program} {ts : List (Nat × TI)} (h : (ts.all fun p => eJ P p.1 p.2) = true) {n : Nat} {ti : TI} (hg : qw ts n = some ti) : eJ P n ti = true := by
 induction ts with
 | nil => simp [qw] at hg
 | cons p r ih =>
   simp only [List.all_cons, Bool.and_eq_true] at h;simp only [qw] at hg
   split at hg
   · rename_i hn; cases hg; subst hn; exact h.1
   · exact ih h.2 hg
theorem Mc {P : Program} {tab : bf} (h : Fk P tab = true) {n : Nat} {ti : TI} (hg : cS tab n = some ti) : eJ P n ti = true := Mb h hg
theorem cD {P : Program} {tab : bf} (h : fw P tab = true) {n : Nat} {ti : TI} (hg : cS tab n = some ti) : eJ P n ti = true := by
 simp only [fw, Bool.and_eq_true] at h;exact Mc h.2 hg
theorem Fm {P : Program} {tab : bf} (h : fw P tab = true) : P.follows .mixedOrders = true := by
 simp only [fw, Bool.and_eq_true] at h;exact h.1
section
variable {P : Program} {t : TypeId}
theorem mP {E : an} {elem bytes : Nat} (h : eJ P t (.sl E elem bytes) = true) :
   P.underlying t = some (.slice elem) ∧ ∃ i z, P.info? elem = some i ∧ i.size = E.sz ∧ i.bytes = bytes ∧ i.zero = some z ∧ Z.gV (nO E) z.cells.toList = true := by
 simp only [eJ, Bool.and_eq_true] at h;obtain ⟨⟨h1, h2⟩, _⟩ := h
 split at h1
 · rename_i e he;simp only [decide_eq_true_eq] at h1;subst h1;refine ⟨he, ?_⟩
   split at h2
   · rename_i i hi;simp only [Bool.and_eq_true, decide_eq_true_eq] at h2
     split at h2
     · rename_i z hz; exact ⟨i, z, hi, h2.1.1, h2.1.2, hz, h2.2⟩
     · simp at h2
   · cases h2
 · cases h1
theorem yv {E : an} {elem bytes : Nat} (h : eJ P t (.sl E elem bytes) = true) : eJ P t (.sc (.nl E)) = true := by
 have hU := (mP h).1;simp only [eJ, Bool.and_eq_true] at h ⊢;exact ⟨by rw [hU]; rfl, h.2⟩
theorem pD {n : Nat} {fs : List (Nat × Nat × Bool)} {z : List Z} {q : Bool} (h : eJ P t (.st n fs z q) = true) :
   ∃ fields, P.underlying t = some (.struct fields) ∧ (kq P fs fields.toList = true ∧ (q = true → A6 P t fields = true)) ∧ ∃ i cs, P.info? t = some i ∧ i.size = n ∧ i.zero = some (.agg cs) ∧ Z.gV z cs.toList = true := by
 simp only [eJ, Bool.and_eq_true] at h;obtain ⟨h1, h2⟩ := h
 split at h1
 · rename_i fields hf;simp only [Bool.and_eq_true] at h1;refine ⟨fields, hf, ⟨h1.1, fun hq => by simpa [hq] using h1.2⟩, ?_⟩
   split at h2
   · rename_i i hi;simp only [Bool.and_eq_true, decide_eq_true_eq] at h2
     split at h2
     · rename_i cs hz; exact ⟨i, cs, hi, h2.1, hz, h2.2⟩
     · simp at h2
   · cases h2
 · cases h1
theorem pE {z : Z} (h : eJ P t (.sc z) = true) :
   (∃ d, P.underlying t = some d ∧ jP d = false) ∧ ∃ i v, P.info? t = some i ∧ i.size = 1 ∧ i.zero = some v ∧ v.oneCell' = true ∧ z.ok v = true := by
 simp only [eJ, Bool.and_eq_true] at h;obtain ⟨h1, h2⟩ := h
 split at h1
 · rename_i d hd;refine ⟨⟨d, hd, by simpa using h1⟩, ?_⟩
   split at h2
   · rename_i i hi;simp only [Bool.and_eq_true, decide_eq_true_eq] at h2
     split at h2
     · rename_i v hv;simp only [Bool.and_eq_true] at h2;exact ⟨i, v, hi, h2.1, hv, h2.2.1, h2.2.2⟩
     · simp at h2
   · cases h2
 · cases h1
theorem pF {k : IntKind} (h : eJ P t (.it k) = true) : P.underlying t = some (.int k) ∧ eJ P t (.sc (.i k)) = true := by
 simp only [eJ, Bool.and_eq_true] at h ⊢;obtain ⟨h1, h2⟩ := h
 split at h1
 · rename_i k' hd;simp only [decide_eq_true_eq] at h1;subst h1;exact ⟨hd, by rw [hd]; rfl, h2⟩
 · cases h1
theorem sV (h : eJ P t .bt = true) : P.underlying t = some .bool ∧ eJ P t (.sc .bo) = true := by
 simp only [eJ, Bool.and_eq_true] at h ⊢;obtain ⟨h1, h2⟩ := h
 split at h1
 · rename_i hd; exact ⟨hd, by rw [hd]; rfl, h2⟩
 · cases h1
theorem mQ (h : eJ P t .ss = true) : P.underlying t = some .string ∧ eJ P t (.sc .st) = true := by
 simp only [eJ, Bool.and_eq_true] at h ⊢;obtain ⟨h1, h2⟩ := h
 split at h1
 · rename_i hd; exact ⟨hd, by rw [hd]; rfl, h2⟩
 · cases h1
theorem qx {kt et : Nat} (h : eJ P t (.mp kt et) = true) : P.underlying t = some (.map kt et) ∧ P.underlying kt = some (.int .i64) ∧ (∃ i, P.info? et = some i ∧ i.zero = some (.int .i64 0)) ∧ eJ P t (.sc .un) = true := by
 simp only [eJ, Bool.and_eq_true] at h ⊢;obtain ⟨⟨⟨h1, h2⟩, h3⟩, h4⟩ := h
 split at h1
 · rename_i a b hd;simp only [Bool.and_eq_true, decide_eq_true_eq] at h1;obtain ⟨rfl, rfl⟩ := h1;refine ⟨hd, ?_, ?_, by rw [hd]; rfl, h4⟩
   · split at h2
     · rename_i k hk; simp only [decide_eq_true_eq] at h2; subst h2; exact hk
     · cases h2
   · split at h3
     · rename_i i hi
       split at h3
       · rename_i k n hz;simp only [Bool.and_eq_true, decide_eq_true_eq] at h3;obtain ⟨rfl, rfl⟩ := h3;exact ⟨i, hi, hz⟩
       · cases h3
     · cases h3
 · cases h1
theorem yw {fs : List (Nat × Nat × Bool)} {l : List Field} (h : kq P fs l = true) {i : Nat} {p : Nat × Nat × Bool} (hp : fs[i]? = some p) :
   ∃ f, l[i]? = some f ∧ f.offset = p.1 ∧ (∃ fi, P.info? f.type = some fi ∧ fi.size = p.2.1) ∧ p.2.1 ≠ 0 ∧ (∃ d, P.underlying f.type = some d ∧ jP d = p.2.2) ∧ f.name ≠ "_" := by
 induction fs generalizing l i with
 | nil => simp at hp
 | cons q qs ih =>
   cases l with
   | nil => simp [kq] at h
   | cons f l =>
     simp only [kq, Bool.and_eq_true] at h;obtain ⟨⟨⟨⟨⟨h1, h2⟩, h3⟩, h4⟩, h6⟩, h5⟩ := h;cases i with
     | zero =>
       simp at hp; subst hp;refine ⟨f, rfl, by simpa using h1, ?_, by simpa using h3, ?_, by simpa using h6⟩
       · split at h2
         · rename_i fi mR; exact ⟨fi, mR, by simpa using h2⟩
         · cases h2
       · split at h4
         · rename_i d hd; exact ⟨d, hd, by simpa using h4⟩
         · cases h4
     | succ i => simpa using ih h5 (by simpa using hp)
theorem Md {fs : List (Nat × Nat × Bool)} {l : List Field} (h : kq P fs l = true) : fs.length = l.length := by
 induction fs generalizing l with
 | nil => cases l <;> simp [kq] at h ⊢
 | cons q qs ih =>
   cases l with
   | nil => simp [kq] at h
   | cons f l => simp only [kq, Bool.and_eq_true] at h; simp [ih h.2]
variable (w : World)
theorem iP {d : TypeDesc} (h : P.underlying t = some d) : (underlying t).run P w = .ok d w := run_underlying h w
theorem uh {d : TypeDesc} (h : P.underlying t = some d) : (isAgg t).run P w = .ok (jP d) w := by
 simp only [isAgg, Sem.run_bind, run_underlying h, Result.andThen_ok];cases d <;> rfl
theorem l4 {i : TypeInfo} (h : P.info? t = some i) : (sizeOf t).run P w = .ok i.size w := by
 simp [sizeOf, typeInfo, h]
theorem Fo {i : TypeInfo} {z : Value} (h : P.info? t = some i) (hz : i.zero = some z) : (zeroValue t).run P w = .ok z w := by
 simp [zeroValue, typeInfo, h, hz]
end
def A7 (k : IntKind) (n : Int) : Bool :=
 match k with
 | .i64 => decide (-9223372036854775808 ≤ n) && decide (n ≤ 9223372036854775807)
 | .u8 => decide (0 ≤ n) && decide (n ≤ 255)
 | .u64 => decide (0 ≤ n) && decide (n ≤ 18446744073709551615)
 | _ => false
theorem sW {n : Int} : IntKind.i64.has n ↔ -9223372036854775808 ≤ n ∧ n ≤ 9223372036854775807 := by
 simp [IntKind.has, IntKind.min, IntKind.max, IntKind.signed, IntKind.bits]
theorem v_ {n : Int} : IntKind.u8.has n ↔ 0 ≤ n ∧ n ≤ 255 := by
 simp [IntKind.has, IntKind.min, IntKind.max, IntKind.signed, IntKind.bits]
theorem Fp {n : Int} : IntKind.u64.has n ↔ 0 ≤ n ∧ n ≤ 18446744073709551615 := by
 simp [IntKind.has, IntKind.min, IntKind.max, IntKind.signed, IntKind.bits]
theorem Me {k : IntKind} {n : Int} (h : A7 k n = true) : k.has n := by
 cases k <;> simp [A7] at h
 · exact sW.2 h
 · exact v_.2 h
 · exact Fp.2 h
def A8 : Value → V
 | .int k n => if A7 k n then .c (.lf (.int k fun _ => n)) else .c .undef
 | .bool b => .c (.bl b)
 | .string s => if s.data.toList.length ≤ cG then .c (.lf (.str fun _ => s.data.toList)) else .c .undef
 | .slice none 0 0 => .c .nil
 | _ => .c .undef
def SS.ev (σ : SS) : Operand → V
 | .tmp t => σ.env.getD t (.c .undef)
 | .const v => A8 v
 | .func f => .c (.fn f [])
 | .global _ => .c .undef
section
variable {H : Hp} {ρ : aG} {D : Nat → Prop}
theorem Mf (v : Value) : RV H ρ D (A8 v) v := by
 unfold A8
 split
 · split
   · rename_i h; exact RL.int (Me h)
   · trivial
 · rfl
 · split
   · rename_i s h;have := RL.str (H := H) (t := fun _ => s.data.toList) h;simpa [RV, RC] using this
   · trivial
 · rfl
 · trivial
theorem jQ {σ : SS} {a : Act} (h : nN H ρ D σ.env a.tmps) (x : Operand) : RV H ρ D (σ.ev x) (a.eval x) := by
 cases x with
 | tmp t =>
   simp only [SS.ev, Act.eval];cases ht : σ.env[t]? with
   | none => simp [List.getD_eq_getElem?_getD, ht, RV, RC]
   | some c => simpa [List.getD_eq_getElem?_getD, ht] using h.get t c ht
 | const v => exact Mf v
 | global g => trivial
 | func f => exact ⟨#[], rfl, rfl, fun j c hj => by simp at hj⟩
theorem RL.one {l : Lf} {v : Value} (h : RL H l v) : v.oneCell' = true := by cases h <;> rfl
def C.yx : C → Bool
 | .undef => false
 | _ => true
theorem bn.one {h : Array Obj} {l : Lf} {v : Value} {S : Nat → Nat} (ho : bn h l v S) : v.oneCell' = true := by cases ho <;> rfl
end
def SS.put (σ : SS) (d : Option Nat) (v : V) : SS :=
 match d with
 | some d => { σ with env := σ.env.set d v }
 | none => σ
theorem SS.yy (σ : SS) (d : Option Nat) (v : V) : (σ.put d v).af = σ.af := by cases d <;> rfl
theorem nN.put {H : Hp} {ρ : aG} {D : Nat → Prop} {σ : SS} {a : Act} {v : V} {x : Value} (h : nN H ρ D σ.env a.tmps) (hv : RV H ρ D v x) (d : Option Nat) :
   nN H ρ D (σ.put d v).env (a.put d x).tmps := by
 cases d with
 | none => exact h
 | some d =>
   refine ⟨by simpa [SS.put, Act.put] using h.size, fun j c hj => ?_⟩;simp only [SS.put, Act.put] at hj ⊢;rw [List.getElem?_set] at hj;rw [Array.getD_eq_getD_getElem?, Array.getElem?_setIfInBounds]
   split at hj
   · rename_i hd
     split at hj
     · rename_i aL;simp only [Option.some.injEq] at hj;subst hj;rw [if_pos hd, if_pos (by rw [h.size]; omega)];exact hv
     · cases hj
   · rename_i hd;rw [if_neg hd];simpa [Array.getD_eq_getD_getElem?] using h.get j c hj
theorem aI.put {Γ : Ctx} {H : Hp} {ρ : aG} {σ : SS} {a : Act} {w : World} (r : aI Γ H ρ σ a w) {v : V} {x : Value} (hv : RV H ρ (av σ.af) v x) (d : Option Nat) :
  aI Γ H ρ (σ.put d v) (a.put d x) w := by
 refine ⟨by rw [SS.yy]; exact r.b, by rw [SS.yy]; exact r.e.put hv d, ?_, r.n, by rw [SS.yy]; exact r.hd, by rw [SS.yy]; exact r.hm⟩;cases d <;> exact r.d
section
variable {P : Program} {w : World} {T : TypeId}
theorem cell_of {b o : Nat} {vs : Array Value} {e : TypeId} {fz : Nat × Nat} {v : Value} (hb : w.heap[b]? = some (.cells vs e fz)) (hv : vs[o]? = some v) :
 w.cell? ⟨b, o, none⟩ = some v := by simp [World.cell?, hb, hv]
theorem wa {d : TypeDesc} {b o : Nat} {vs : Array Value} {e : TypeId} {fz : Nat × Nat} {v : Value} (hU : P.underlying T = some d) (hd : jP d = false)
  (hb : w.heap[b]? = some (.cells vs e fz)) (hv : vs[o]? = some v) : (Instr.loadAt T (.pointer (some ⟨b, o, none⟩))).run P w = .ok v w := by
 simp [Instr.loadAt, Instr.sureAddr, loadVar, uh w hU, hd, cell_of hb hv]
theorem fe (b o j : Nat) : (⟨b, o, none⟩ : Addr).add j = ⟨b, o + j, none⟩ := by
 unfold Addr.add; split
 · rename_i h; subst h; rfl
 · rfl
theorem wb {d : TypeDesc} {i : TypeInfo} {b o : Nat} {vs : Array Value} {e : TypeId} {fz : Nat × Nat} (hU : P.underlying T = some d) (hd : jP d = true) (hi : P.info? T = some i)
  (hb : w.heap[b]? = some (.cells vs e fz)) (hs : o + i.size ≤ vs.size) :
  (Instr.loadAt T (.pointer (some ⟨b, o, none⟩))).run P w = .ok (.agg ((List.range i.size).map fun j => vs.getD (o + j) Go.undef).toArray) w := by
 have h := run_loadCells (P := P) w ⟨b, o, none⟩ i.size (fun j => vs.getD (o + j) Go.undef) (fun j hj => by
  rw [fe];refine cell_of hb ?_;rw [Array.getD_eq_getD_getElem?, Array.getElem?_eq_getElem (by omega)];rfl)
 simp [Instr.loadAt, Instr.sureAddr, loadVar, uh w hU, hd, l4 w hi, h]
end
def cut (cs : List C) (o n : Nat) : List C := (cs.drop o).take n
theorem yz {cs : List C} {o n j : Nat} {c : C} (h : (cut cs o n)[j]? = some c) : j < n ∧ cs[o + j]? = some c := by
 simp only [cut, List.getElem?_take, List.getElem?_drop] at h
 split at h
 · rename_i hj; exact ⟨hj, h⟩
 · cases h
theorem yA {cs : List C} {o n : Nat} (h : o + n ≤ cs.length) : (cut cs o n).length = n := by simp [cut]; omega
theorem cW.cut {H : Hp} {ρ : aG} {D : Nat → Prop} {cs : List C} {vs : Array Value} (h : cW H ρ D cs vs) {o n : Nat} (hn : o + n ≤ cs.length) :
  cW H ρ D (cut cs o n) ((List.range n).map fun j => vs.getD (o + j) Go.undef).toArray := by
 refine ⟨by simp [yA hn], fun j c hj => ?_⟩;obtain ⟨h1, h2⟩ := yz hj;have := h.2 _ _ h2;rw [Array.getD_eq_getD_getElem?];simp only [List.getElem?_toArray, List.getElem?_map, List.getElem?_range h1, Option.map_some, Option.getD_some];exact this
def ku (ls : List Lf) : List C := ls.map .lf
def Lf.sc : Lf → Bool
 | .list _ _ => false
 | _ => true
def aO (E : an) (xs : Unit → List E.α) (i : Unit → Nat) : Unit → E.α := fun _ => (xs ()).getD (i ()) E.lx
def ui (tab : bf) (bs : List (Nat × ak)) (T : TypeId) : V → Option V
 | .c (.ptr k off) =>
   match aM bs k, cS tab T with
   | some (.box cs), some (.st n _ _ _) => if off + n ≤ cs.length then some (.agg (cut cs off n)) else none
   | some (.box cs), some _ => (cs[off]?).map .c
   | _, _ => none
 | .c (.el E x off) =>
   match cS tab T with
   | some (.st n _ _ _) => if off + n ≤ E.sz ∧ 0 < n then some (.agg (cut (ku (bQ E x)) off n)) else none
   | some _ => ((ku (bQ E x))[off]?).map .c
   | none => none
 | .c (.bZ ls off) =>
   match cS tab T with
   | some (.st n _ _ _) => if off + n ≤ ls.length ∧ 0 < n then some (.agg (cut (ku ls) off n)) else none
   | some _ => ((ku ls)[off]?).map .c
   | none => none
 | .c (.fq k E i off) =>
   match aM bs k, cS tab T with
   | some (.own E' xs _), some (.st n _ _ _) => if E = E' ∧ (((bQ E' (aO E' xs i)).drop off).take n).all Lf.sc = true ∧ off + n ≤ E'.sz then some (.agg (cut (ku (bQ E' (aO E' xs i))) off n)) else none
   | some (.own E' xs _), some _ => if E = E' then (match (bQ E' (aO E' xs i))[off]? with | some l => if l.sc then some (.c (.lf l)) else none | none => none) else none
   | _, _ => none
 | _ => none
def nP (H : Hp) (ρ : aG) (rd : List Nat) (w w' : World) : Prop :=
 (∀ b o, H b = some o → w'.heap[b]? = some o) ∧ ∀ k ∈ rd, ∀ x, 0 < (ρ k).2 x → w'.heap[x]? = w.heap[x]?
theorem nP.refl {Γ : Ctx} {H : Hp} {ρ : aG} {σ : SS} {a : Act} {w : World} (r : aI Γ H ρ σ a w) (rd : List Nat) : nP H ρ rd w w :=
 ⟨r.b.hh, fun _ _ _ _ => rfl⟩
def uj : V → List Nat
 | .c (.ptr k _) => [k]
 | .c (.fq k _ _ _) => [k]
 | _ => []
theorem nQ {P : Program} {T : TypeId} {ti : TI} (h : eJ P T ti = true) :
  ∃ d i, P.underlying T = some d ∧ (match ti with | .st n _ _ _ => jP d = true ∧ P.info? T = some i ∧ i.size = n | _ => jP d = false) := by
 cases ti with
 | sl E elem bytes => obtain ⟨h1, i, z, h2⟩ := mP h; exact ⟨_, i, h1, rfl⟩
 | st n fs z q => obtain ⟨fields, h1, _, i, cs, h2, h3, _⟩ := pD h; exact ⟨_, i, h1, rfl, h2, h3⟩
 | sc z => obtain ⟨⟨d, h1, h2⟩, i, v, h3⟩ := pE h; exact ⟨d, i, h1, h2⟩
 | it k => obtain ⟨_, i, v, _⟩ := pE (pF h).2; exact ⟨_, i, (pF h).1, rfl⟩
 | bt => obtain ⟨_, i, v, _⟩ := pE (sV h).2; exact ⟨_, i, (sV h).1, rfl⟩
 | ss => obtain ⟨_, i, v, _⟩ := pE (mQ h).2; exact ⟨_, i, (mQ h).1, rfl⟩
 | mp kt et => obtain ⟨_, i, v, _⟩ := pE (qx h).2.2.2; exact ⟨_, i, (qx h).1, rfl⟩
theorem getD_some {vs : Array Value} {o : Nat} (h : o < vs.size) : vs[o]? = some (vs.getD o Go.undef) := by
 rw [Array.getD_eq_getD_getElem?, Array.getElem?_eq_getElem h]; rfl
theorem bn.A9 {h : Array Obj} {H : Hp} {l : Lf} {v : Value} {S : Nat → Nat} (ho : bn h l v S) (hs : l.sc = true) : RL H l v := by
 cases ho with
 | int hr => exact .int hr
 | bool => exact .bool
 | str hm => exact .str hm
 | nil h0 => simp [Lf.sc] at hs
 | list _ _ _ _ _ _ _ => simp [Lf.sc] at hs
theorem Fq {h : Array Obj} {E : an} {xs : Unit → List E.α} {b o n c : Nat} {S : Nat → Nat} (ho : bn h (.list E xs) (.slice (some ⟨b, o, none⟩) n c) S) {i : Nat} (hi : i < n) :
   ∃ cs e fz, h[b]? = some (.cells cs e fz) ∧ NF cs fz ∧ 0 < S b ∧ o + (i + 1) * E.sz ≤ cs.size ∧ n = (xs ()).length ∧
    ∀ j l, (bQ E fun _ => (xs ()).getD i E.lx)[j]? = some l → ∃ S', bn h l (cs.getD (o + i * E.sz + j) Go.undef) S' := by
 generalize hv : Value.slice (some ⟨b, o, none⟩) n c = v at ho;generalize hl : Lf.list E xs = l at ho;cases ho with
 | int hr => cases hv
 | bool => cases hl
 | str hm => cases hv
 | nil h0 => simp at hv
 | list S hb hf jR hm ho hc =>
   simp only [Value.slice.injEq, Option.some.injEq, Addr.mk.injEq, and_true] at hv;obtain ⟨⟨rfl, rfl⟩, rfl, rfl⟩ := hv;cases hl;refine ⟨_, _, _, hb, hf, km _ _ _ _, Nat.le_trans ?_ ho, rfl, fun j l hj => ⟨_, hc i _ ?_ j l hj⟩⟩
   · exact Nat.add_le_add_left (Nat.mul_le_mul_right _ (by omega)) _
   · rw [List.getD_eq_getElem?_getD, List.getElem?_eq_getElem hi]; rfl
section
variable {P : Program} {tab : bf} (hT : fw P tab = true) {Γ : Ctx} {H : Hp} {ρ : aG} {σ : SS} {a : Act} {w : World} (r : aI Γ H ρ σ a w)
include hT r
theorem Fs {T : TypeId} {x : V} {p : Value} {v : V} (h : ui tab σ.af T x = some v) (hp : RV H ρ (av σ.af) x p) :
   ∃ y, RV H ρ (av σ.af) v y ∧ ∀ w', nP H ρ (uj x) w w' → (Instr.loadAt T p).run P w' = .ok y w' := by
 unfold ui at h
 split at h
 · rename_i k off;obtain ⟨hk, b, h1, rfl⟩ := hp
   split at h
   · rename_i cs n fs z q hB ba
     split at h
     · rename_i hn;cases h;obtain ⟨d, i, hU, hd, hi, dU⟩ := nQ (cD hT ba);have A_ := r.b.af k _ (de hB);obtain ⟨b', vs, e, fz, h2, h3, h4, h5, h6⟩ := A_;rw [h1] at h2;simp only [Value.pointer.injEq, Option.some.injEq, Addr.mk.injEq, and_true] at h2;subst h2;refine ⟨_, ⟨_, rfl, h6.cut hn⟩, fun w' bD => ?_⟩;have h7 := bD.2 k (by simp [uj]) b (by simp [h3, one]);rw [← dU];exact wb hU hd hi (by rw [h7]; exact h4) (by rw [dU, h6.1]; exact hn)
     · cases h
   · rename_i cs ti pG hB ba;cases hc : cs[off]? with
     | none => simp [hc] at h
     | some c =>
       simp only [hc, Option.map_some, Option.some.injEq] at h;subst h;obtain ⟨d, i, hU, hd⟩ := nQ (cD hT ba)
       have sX : jP d = false := by
         cases ti with
         | st n fs z q => exact (pG n fs z q rfl).elim
         | _ => exact hd
       have A_ := r.b.af k _ (de hB);obtain ⟨b', vs, e, fz, h2, h3, h4, h5, h6⟩ := A_;rw [h1] at h2;simp only [Value.pointer.injEq, Option.some.injEq, Addr.mk.injEq, and_true] at h2;subst h2;refine ⟨_, h6.2 _ _ hc, fun w' bD => ?_⟩;have h7 := bD.2 k (by simp [uj]) b (by simp [h3, one]);exact wa hU sX (by rw [h7]; exact h4) (getD_some (by rw [h6.1]; exact bq hc))
   · cases h
 · rename_i E x off;obtain ⟨b, o, cs, e, fz, h1, rfl, h3⟩ := hp
   split at h
   · rename_i n fs z q ba
     split at h
     · rename_i hn;obtain ⟨hn, Ft⟩ := hn;cases h;obtain ⟨d, i, hU, hd, hi, dU⟩ := nQ (cD hT ba);have hlen := iu E x;have cT : ∀ j, j < n → ∃ l, (bQ E x)[off + j]? = some l := fun j hj => ⟨_, List.getElem?_eq_getElem (by omega)⟩
       have bj : o + i.size ≤ cs.size := by
         obtain ⟨l, hl⟩ := cT (n - 1) (by omega);have := (h3 _ l hl).1;omega
       refine ⟨_, ⟨_, rfl, ?_, fun j c hj => ?_⟩, fun w' bD => wb hU hd hi (bD.1 _ _ h1) bj⟩
       · rw [yA (by simpa [ku, hlen] using hn)]; simp [dU]
       · obtain ⟨h5, h6⟩ := yz hj;simp only [ku, List.getElem?_map, Option.map_eq_some_iff] at h6;obtain ⟨l, hl, rfl⟩ := h6;have := (h3 _ _ hl).2;rw [Array.getD_eq_getD_getElem?];simp only [List.getElem?_toArray, List.getElem?_map, dU, List.getElem?_range h5, Option.map_some, Option.getD_some];exact this
     · cases h
   · rename_i ti pG ba;cases hc : (bQ E x)[off]? with
     | none => simp [ku, hc] at h
     | some l =>
       simp only [ku, List.getElem?_map, hc, Option.map_some, Option.some.injEq] at h;subst h;obtain ⟨d, i, hU, hd⟩ := nQ (cD hT ba)
       have sX : jP d = false := by
         cases ti with
         | st n fs z q => exact (pG n fs z q rfl).elim
         | _ => exact hd
       have h4 := h3 0 l (by simpa using hc);simp only [Nat.add_zero] at h4;exact ⟨_, h4.2, fun w' bD => wa hU sX (bD.1 _ _ h1) (getD_some h4.1)⟩
   · cases h
 · rename_i ls off;obtain ⟨b, o, cs, e, fz, h1, rfl, h3⟩ := hp
   split at h
   · rename_i n fs z q ba
     split at h
     · rename_i hn;obtain ⟨hn, Ft⟩ := hn;cases h;obtain ⟨d, i, hU, hd, hi, dU⟩ := nQ (cD hT ba);have cT : ∀ j, j < n → ∃ l, ls[off + j]? = some l := fun j hj => ⟨_, List.getElem?_eq_getElem (by omega)⟩
       have bj : o + i.size ≤ cs.size := by
         obtain ⟨l, hl⟩ := cT (n - 1) (by omega);have := (h3 _ l hl).1;omega
       refine ⟨_, ⟨_, rfl, ?_, fun j c hj => ?_⟩, fun w' bD => wb hU hd hi (bD.1 _ _ h1) bj⟩
       · rw [yA (by simpa [ku] using hn)]; simp [dU]
       · obtain ⟨h5, h6⟩ := yz hj;simp only [ku, List.getElem?_map, Option.map_eq_some_iff] at h6;obtain ⟨l, hl, rfl⟩ := h6;have := (h3 _ _ hl).2;rw [Array.getD_eq_getD_getElem?];simp only [List.getElem?_toArray, List.getElem?_map, dU, List.getElem?_range h5, Option.map_some, Option.getD_some];exact this
     · cases h
   · rename_i ti pG ba;cases hc : ls[off]? with
     | none => simp [ku, hc] at h
     | some l =>
       simp only [ku, List.getElem?_map, hc, Option.map_some, Option.some.injEq] at h;subst h;obtain ⟨d, i, hU, hd⟩ := nQ (cD hT ba)
       have sX : jP d = false := by
         cases ti with
         | st n fs z q => exact (pG n fs z q rfl).elim
         | _ => exact hd
       have h4 := h3 0 l (by simpa using hc);simp only [Nat.add_zero] at h4;exact ⟨_, h4.2, fun w' bD => wa hU sX (bD.1 _ _ h1) (getD_some h4.1)⟩
   · cases h
 · rename_i k E i off;obtain ⟨hk, b, o, n, c, h1, hi, rfl⟩ := hp
   split at h
   · rename_i E' xs sQ n' fs z q hB ba
     split at h
     · rename_i hn;obtain ⟨rfl, Ba, hn⟩ := hn;cases h;obtain ⟨d, ii, hU, hd, wc, dU⟩ := nQ (cD hT ba);have cU : bn w.heap (.list E xs) (ρ k).1 (ρ k).2 := r.b.af k _ (de hB);rw [h1] at cU;obtain ⟨cs, e, fz, h2, h3, h4, h5, h6, h7⟩ := Fq cU hi;have bj : o + i () * E.sz + off + ii.size ≤ cs.size := by rw [dU]; rw [Nat.add_mul] at h5; omega
       refine ⟨_, ⟨_, rfl, ?_, fun j c hj => ?_⟩, fun w' bD => wb hU hd wc (by rw [bD.2 k (by simp [uj]) b h4]; exact h2) bj⟩
       · rw [yA (by simpa [ku, iu] using hn)]; simp [dU]
       · obtain ⟨h8, h9⟩ := yz hj;simp only [ku, List.getElem?_map, Option.map_eq_some_iff] at h9;obtain ⟨l, hl, rfl⟩ := h9;obtain ⟨S', bw⟩ := h7 _ _ hl;rw [Array.getD_eq_getD_getElem?];simp only [List.getElem?_toArray, List.getElem?_map, dU, List.getElem?_range h8, Option.map_some, Option.getD_some];rw [Nat.add_assoc];exact bw.A9 (List.all_eq_true.1 Ba _ (List.mem_of_getElem? (i := j) (by rw [List.getElem?_take, if_pos h8, List.getElem?_drop]; exact hl)))
     · cases h
   · rename_i E' xs sQ ti pG hB ba
     split at h
     · rename_i hE;subst hE
       split at h
       · rename_i l hl
         split at h
         · rename_i Ba;cases h;obtain ⟨d, ii, hU, hd⟩ := nQ (cD hT ba)
           have sX : jP d = false := by
            cases ti with
            | st n fs z q => exact (pG n fs z q rfl).elim
            | _ => exact hd
           have cU : bn w.heap (.list E xs) (ρ k).1 (ρ k).2 := r.b.af k _ (de hB);rw [h1] at cU;obtain ⟨cs, e, fz, h2, h3, h4, h5, h6, h7⟩ := Fq cU hi;obtain ⟨S', bw⟩ := h7 _ _ hl;have aL := bq hl;rw [iu] at aL;rw [Nat.add_mul] at h5;exact ⟨_, bw.A9 Ba, fun w' bD => wa hU sX (by rw [bD.2 k (by simp [uj]) b h4]; exact h2) (getD_some (by omega))⟩
         · cases h
       · cases h
     · cases h
   · cases h
 · cases h
end
theorem yB (k : IntKind) (n : Int) : k.has (k.wrap n) := by
 cases k <;> simp only [IntKind.has, IntKind.min, IntKind.max, IntKind.wrap, IntKind.signed, IntKind.bits] <;> simp <;> (try split) <;> omega
theorem qy {k : IntKind} {n : Int} (h : k.has n) : k.wrap n = n := by
 cases k <;> simp only [IntKind.has, IntKind.min, IntKind.max, IntKind.wrap, IntKind.signed, IntKind.bits] at h ⊢ <;> simp at h ⊢ <;> (try split) <;> omega
def Bb (op : BinOp) (a b : Unit → Int) : Option (Unit → Bool) :=
 match op with
 | .eql => some fun _ => a () == b ()
 | .neq => some fun _ => a () != b ()
 | .lss => some fun _ => decide (a () < b ())
 | .leq => some fun _ => decide (a () ≤ b ())
 | .gtr => some fun _ => decide (b () < a ())
 | .geq => some fun _ => decide (b () ≤ a ())
 | _ => none
def yC : V → Option (Unit → Bool)
 | .c (.bl b) => some fun _ => b
 | .c (.lf (.bool t)) => some t
 | _ => none
def pH : List C → List C → Option (Unit → Bool)
 | [], [] => some fun _ => true
 | .lf (.int k a) :: xs, .lf (.int k' b) :: ys => if k = k' then (match pH xs ys with | some t => some fun _ => a () == b () && t () | none => none) else none
 | _, _ => none
def bV (t : Unit → Bool) : V := .c (.lf (.bool t))
def iV (k : IntKind) (t : Unit → Int) : V := .c (.lf (.int k t))
def Bc (tab : bf) (op : BinOp) (T : TypeId) : V → V → Option V
 | .c (.lf (.int k a)), .c (.lf (.int k' b)) => if k = k' then (match Bb op a b with | some t => some (bV t) | none => none) else none
 | .c (.lf (.str a)), .c (.lf (.str b)) =>
   match op with
   | .eql => some (bV fun _ => a () == b ())
   | .neq => some (bV fun _ => !(a () == b ()))
   | _ => none
 | .agg xs, .agg ys =>
   match cS tab T with
   | some (.st _ fs _ true) => if xs.length = fs.length then (match op, pH xs ys with
     | .eql, some t => some (bV t)
     | .neq, some t => some (bV fun _ => !(t ()))
     | _, _ => none) else none
   | _ => none
 | x, y =>
   match yC x, yC y, cS tab T with
   | some a, some b, some .bt =>
     match op with
     | .eql => some (bV fun _ => a () == b ())
     | .neq => some (bV fun _ => !(a () == b ()))
     | _ => none
   | _, _, _ => none
section
variable {P : Program} {w : World} {H : Hp} {ρ : aG} {D : Nat → Prop}
theorem Fu {x : V} {t : Unit → Bool} {v : Value} (h : yC x = some t) (hv : RV H ρ D x v) : v = .bool (t ()) := by
 unfold yC at h
 split at h
 · cases h; exact hv
 · cases h;simp only [RV, RC] at hv;cases hv; rfl
 · cases h
theorem RL.of_int {k : IntKind} {t : Unit → Int} {v : Value} (h : RL H (.int k t) v) : v = .int k (t ()) ∧ k.has (t ()) := by
 cases h with | int h => exact ⟨rfl, h⟩
theorem RL.lz {t : Unit → List UInt8} {v : Value} (h : RL H (.str t) v) : v = .string ⟨(t ()).toArray⟩ ∧ (t ()).length ≤ cG := by
 cases h with | str h => exact ⟨rfl, h⟩
theorem RL.of_bool {t : Unit → Bool} {v : Value} (h : RL H (.bool t) v) : v = .bool (t ()) := by
 cases h; rfl
theorem Fv {d : Nat} {xs ys : List C} {vs us : Array Value} {t : Unit → Bool} (hx : cW H ρ D xs vs) (hy : cW H ρ D ys us) :
   ∀ (fs : List Field) (j : Nat), yu P j fs = true → j + fs.length = xs.length → pH (xs.drop j) (ys.drop j) = some t →
     (Op.eqFields (d + 1) vs us fs).run P w = .ok (t ()) w
 | [], j, _, hl, ht => by
   simp only [List.length_nil, Nat.add_zero] at hl;subst hl;rw [List.drop_length] at ht;cases yD : ys.drop xs.length with
   | nil => rw [yD] at ht; simp only [pH, Option.some.injEq] at ht; subst ht; rfl
   | cons y r => rw [yD] at ht; simp [pH] at ht
 | f :: fs, j, hb, hl, ht => by
   simp only [yu, Bool.and_eq_true, decide_eq_true_eq] at hb;obtain ⟨⟨⟨h1, h2⟩, h3⟩, h4⟩ := hb;simp only [List.length_cons] at hl;have hj : j < xs.length := by omega
   rw [List.drop_eq_getElem_cons hj] at ht
   have Bd : j < ys.length := by
     rcases Nat.lt_or_ge j ys.length with h | h
     · exact h
     · rw [List.drop_eq_nil_of_le h] at ht;cases Fw : xs[j] with
       | lf l => rw [Fw] at ht; cases l <;> simp [pH] at ht
       | _ => rw [Fw] at ht; simp [pH] at ht
   rw [List.drop_eq_getElem_cons Bd] at ht;have ex := hx.2 j _ (List.getElem?_eq_getElem hj);have ey := hy.2 j _ (List.getElem?_eq_getElem Bd);generalize xs[j] = cx at *;generalize ys[j] = cy at *;unfold pH at ht
   split at ht
   · rename_i heq _; cases heq
   · rename_i k a r k' b r' gy lB;simp only [List.cons.injEq] at gy lB;obtain ⟨rfl, rfl⟩ := gy;obtain ⟨rfl, rfl⟩ := lB
     split at ht
     · rename_i hk;subst hk
       split at ht
       · rename_i t' Mg;cases ht;obtain ⟨e1, _⟩ := RL.of_int ex;obtain ⟨e2, _⟩ := RL.of_int ey;have ih := Fv (d := d) hx hy fs (j + 1) h4 (by omega) Mg
         split at h3
         · rename_i kf hu
           have p1 : (part f.type vs f.offset).run P w = .ok (.int k (a ())) w := by
            simp only [part, Sem.run_bind, uh w hu, jP, Result.andThen_ok, h1, getD_some (by rw [hx.1]; exact hj), e1];rfl
           have p2 : (part f.type us f.offset).run P w = .ok (.int k (b ())) w := by
            simp only [part, Sem.run_bind, uh w hu, jP, Result.andThen_ok, h1, getD_some (by rw [hy.1]; exact Bd), e2];rfl
           simp only [Op.eqFields, h2, ne_eq, not_false_eq_true, if_true, Sem.run_bind, p1, p2, Result.andThen_ok, run_equalIn_int w d f.type k kf (a ()) (b ()) hu];cases Be : (a () == b ()) with
           | true => simpa [Be] using ih
           | false => simp
         · cases h3
       · cases ht
     · cases ht
   · cases ht
theorem Fx {op : BinOp} {T : TypeId} {X Y : Operand} {k k' : IntKind} {a b : Int} : (eqGuard op T X Y (.int k a) (.int k' b)).run P w = .ok () w := by
 unfold eqGuard; cases op <;> rfl
theorem Mh {op : BinOp} {k : IntKind} {T : TypeId} {a b t} (h : Bb op a b = some t) : (binOp op T (.int k (a ())) (.int k (b ()))).run P w = .ok (.bool (t ())) w := by
 cases op <;> simp only [Bb] at h <;> cases h <;> simp [binOp, Op.intCmp]
end
def yE (tab : bf) (T : TypeId) (i : Nat) : V → Option V
 | .c (.ptr k off) => match cS tab T with | some (.st _ fs _ _) => (match fs[i]? with | some p => some (.c (.ptr k (off + p.1))) | none => none) | _ => none
 | .c (.el E x off) => match cS tab T with | some (.st _ fs _ _) => (match fs[i]? with | some p => some (.c (.el E x (off + p.1))) | none => none) | _ => none
 | .c (.bZ ls off) => match cS tab T with | some (.st _ fs _ _) => (match fs[i]? with | some p => some (.c (.bZ ls (off + p.1))) | none => none) | _ => none
 | .c (.fq k E j off) => match cS tab T with | some (.st _ fs _ _) => (match fs[i]? with | some p => some (.c (.fq k E j (off + p.1))) | none => none) | _ => none
 | _ => none
def Bf (tab : bf) (T : TypeId) (i : Nat) : V → Option V
 | .agg cs =>
   match cS tab T with
   | some (.st _ fs _ _) =>
     match fs[i]? with
     | some (o, n, true) => if o + n ≤ cs.length then some (.agg (cut cs o n)) else none
     | some (o, _, false) => (match cs[o]? with | some c => some (.c c) | none => none)
     | none => none
   | _ => none
 | _ => none
theorem yF {P : Program} {w : World} {T : TypeId} {n : Nat} {fs : List (Nat × Nat × Bool)} {z : List Z} {q : Bool} (h : eJ P T (.st n fs z q) = true) {i : Nat} {p : Nat × Nat × Bool} (hp : fs[i]? = some p) (b o : Nat) :
  (Instr.fieldAt T (.pointer (some ⟨b, o, none⟩)) i).run P w = .ok (.pointer (some ⟨b, o + p.1, none⟩)) w := by
 obtain ⟨fields, hU, ⟨hf, _⟩, _⟩ := pD h;obtain ⟨f, h1, h2, ⟨fi, h3, h4⟩, h5, _⟩ := yw hf hp;have qz : fields[i]? = some f := by simpa using h1
 have h6 : fi.size ≠ 0 := by rw [h4]; exact h5
 simp only [Instr.fieldAt, Sem.run_bind, iP w hU, Result.andThen_ok, qz, Instr.sureAddr, fieldPlace, l4 w h3, Sem.run_pure, h6, if_false, fe, h2]
section
variable {P : Program} {tab : bf} (hT : fw P tab = true) {Γ : Ctx} {H : Hp} {ρ : aG} {D : Nat → Prop} {w : World}
include hT
theorem Mi {T : TypeId} {i : Nat} {x v : V} {p : Value} (h : yE tab T i x = some v) (hp : RV H ρ D x p) :
   ∃ y, RV H ρ D v y ∧ ∀ w', (Instr.fieldAt T p i).run P w' = .ok y w' := by
 unfold yE at h
 split at h
 · obtain ⟨hk, b, h1, rfl⟩ := hp
   split at h
   · rename_i ba
     split at h
     · rename_i q hq;cases h;exact ⟨_, ⟨hk, b, h1, rfl⟩, fun w' => yF (cD hT ba) hq b _⟩
     · cases h
   · cases h
 · rename_i E x off;obtain ⟨b, o, cs, e, fz, h1, rfl, h3⟩ := hp
   split at h
   · rename_i ba
     split at h
     · rename_i q hq;cases h;refine ⟨_, ⟨b, o + q.1, cs, e, fz, h1, rfl, fun j l hj => ?_⟩, fun w' => yF (cD hT ba) hq b _⟩;have := h3 (q.1 + j) l (by rw [← Nat.add_assoc]; exact hj);rw [← Nat.add_assoc] at this;exact this
     · cases h
   · cases h
 · rename_i ls off;obtain ⟨b, o, cs, e, fz, h1, rfl, h3⟩ := hp
   split at h
   · rename_i ba
     split at h
     · rename_i q hq;cases h;refine ⟨_, ⟨b, o + q.1, cs, e, fz, h1, rfl, fun j l hj => ?_⟩, fun w' => yF (cD hT ba) hq b _⟩;have := h3 (q.1 + j) l (by rw [← Nat.add_assoc]; exact hj);rw [← Nat.add_assoc] at this;exact this
     · cases h
   · cases h
 · obtain ⟨hk, b, o, n, c, h1, hi, rfl⟩ := hp
   split at h
   · rename_i ba
     split at h
     · rename_i q hq;cases h;exact ⟨_, ⟨hk, b, o, n, c, h1, hi, rfl⟩, fun w' => by rw [← Nat.add_assoc]; exact yF (cD hT ba) hq b _⟩
     · cases h
   · cases h
 · cases h
theorem Mj {T : TypeId} {i : Nat} {x v : V} {p : Value} (h : Bf tab T i x = some v) (hp : RV H ρ D x p) :
   ∃ y, RV H ρ D v y ∧ ∀ w', (Instr.field T p i).run P w' = .ok y w' := by
 unfold Bf at h
 split at h
 · rename_i cs;obtain ⟨vs, rfl, dy⟩ := hp
   split at h
   · rename_i n fs z q ba;obtain ⟨fields, hU, ⟨hf, _⟩, _⟩ := pD (cD hT ba)
     split at h
     · rename_i o m hq
       split at h
       · rename_i hle;cases h;obtain ⟨f, h1, h2, ⟨fi, h3, h4⟩, h5, ⟨d, h6, h7⟩, _⟩ := yw hf hq;have qz : fields[i]? = some f := by simpa using h1
         refine ⟨_, ⟨_, rfl, dy.cut hle⟩, fun w' => ?_⟩;simp only [Instr.field, Sem.run_bind, iP w' hU, Result.andThen_ok, qz, asAgg, Sem.run_pure, part, uh w' h6, h7, l4 w' h3, h2, h4, if_true]
         congr 2
         apply Array.ext
         · simp only [Array.size_extract, List.size_toArray, List.length_map, List.length_range]; have := dy.1; omega
         · intro j jd Fy;simp only [Array.getElem_extract, List.getElem_toArray, List.getElem_map, List.getElem_range];rw [Array.getD_eq_getD_getElem?, Array.getElem?_eq_getElem];rfl
       · cases h
     · rename_i o m hq
       split at h
       · rename_i c hc;cases h;obtain ⟨f, h1, h2, ⟨fi, h3, h4⟩, h5, ⟨d, h6, h7⟩, _⟩ := yw hf hq;have qz : fields[i]? = some f := by simpa using h1
         refine ⟨_, dy.2 _ _ hc, fun w' => ?_⟩
         simp only [Instr.field, Sem.run_bind, iP w' hU, Result.andThen_ok, qz, asAgg, Sem.run_pure, part, uh w' h6, h7, h2, Bool.false_eq_true, if_false,
           getD_some (show o < vs.size by rw [dy.1]; exact bq hc)]
       · cases h
     · cases h
   · cases h
 · cases h
theorem Mk {op : BinOp} {T : TypeId} {x y v : V} {p q : Value} {X Y : Operand} (h : Bc tab op T x y = some v) (hp : RV H ρ D x p) (hq : RV H ρ D y q) :
   ∃ z, RV H ρ D v z ∧ ∀ w', ((do eqGuard op T X Y p q; binOp op T p q) : Sem Value).run P w' = .ok z w' := by
 unfold Bc at h
 split at h
 · obtain ⟨rfl, _⟩ := RL.of_int hp;obtain ⟨rfl, _⟩ := RL.of_int hq
   split at h
   · rename_i hk;subst hk
     split at h
     · rename_i t ht;cases h;refine ⟨_, RL.bool, fun w' => ?_⟩;rw [Sem.run_bind, Fx, Result.andThen_ok, Mh ht]
     · cases h
   · cases h
 · rename_i a b;obtain ⟨rfl, _⟩ := RL.lz hp;obtain ⟨rfl, _⟩ := RL.lz hq
   split at h
   · cases h;refine ⟨_, RL.bool, fun w' => ?_⟩;simp [eqGuard, binOp, Op.stringOp]
   · cases h;refine ⟨_, RL.bool, fun w' => ?_⟩;simp [eqGuard, binOp, Op.stringOp]
   · cases h
 · rename_i xs ys;obtain ⟨vs, rfl, hx⟩ := hp;obtain ⟨us, rfl, hy⟩ := hq
   split at h
   · rename_i n fs z ba
     split at h
     · rename_i hn;obtain ⟨fields, hU, ⟨hf, hq⟩, _⟩ := pD (cD hT ba);have uk := hq rfl;simp only [A6, Bool.and_eq_true, Bool.not_eq_true'] at uk;obtain ⟨⟨g1, g2⟩, g3⟩ := uk;have Fz : P.fieldsOf T = fields := by simp [Program.fieldsOf, hU]
       have hlen := Md hf
       have main : ∀ t, pH xs ys = some t → ∀ w', (Op.equalIn 10000 T (.agg vs) (.agg us)).run P w' = .ok (t ()) w' := fun t ht w' => by
         rw [run_equalIn_agg w' 9999 T vs us (by rw [Fz]; exact hU) g1, Fz];exact Fv hx hy fields.toList 0 g3 (by omega) (by simpa using ht)
       split at h
       · rename_i t ht;cases h;refine ⟨_, RL.bool, fun w' => ?_⟩;rw [Sem.run_bind, run_eqGuard_agg w' _ T X Y vs us g2, Result.andThen_ok, run_eql_struct, main t ht];rfl
       · rename_i t ht;cases h;refine ⟨_, RL.bool, fun w' => ?_⟩;rw [Sem.run_bind, run_eqGuard_agg w' _ T X Y vs us g2, Result.andThen_ok, run_neq_struct, main t ht];rfl
       · cases h
     · cases h
   · cases h
 · split at h
   · rename_i a b ha hb ba;have hu := (sV (cD hT ba)).1;have e1 := Fu ha hp;have e2 := Fu hb hq;subst e1 e2
     split at h
     · cases h;refine ⟨_, RL.bool, fun w' => ?_⟩;simp [eqGuard, binOp, run_equal_bool w' T _ _ hu]
     · cases h;refine ⟨_, RL.bool, fun w' => ?_⟩;simp [eqGuard, binOp, run_equal_bool w' T _ _ hu]
     · cases h
   · cases h
end
def nS : V → Option (List C)
 | .c .undef => none
 | .c x => some [x]
 | .agg cs => some cs
 | .bc _ => none
theorem RL.cells {H : Hp} {l : Lf} {v : Value} (h : RL H l v) : v.cells = #[v] := by cases h <;> rfl
theorem RC.cells {H : Hp} {ρ : aG} {D : Nat → Prop} {c : C} {v : Value} (h : RC H ρ D c v) (hc : c.yx = true) (hv : ∀ k, c = .own k → v.oneCell' = true) : v.cells = #[v] ∧ v.oneCell' = true := by
 cases c with
 | lf l => exact ⟨RL.cells h, RL.one h⟩
 | bl b => simp only [RC] at h; subst h; exact ⟨rfl, rfl⟩
 | nil => simp only [RC] at h; subst h; exact ⟨rfl, rfl⟩
 | own k => have := hv k rfl; cases v <;> simp [Value.oneCell'] at this <;> exact ⟨rfl, rfl⟩
 | ptr k off => obtain ⟨_, b, _, rfl⟩ := h; exact ⟨rfl, rfl⟩
 | el E x off => obtain ⟨b, o, cs, e, fz, _, rfl, _⟩ := h; exact ⟨rfl, rfl⟩
 | bZ ls off => obtain ⟨b, o, cs, e, fz, _, rfl, _⟩ := h; exact ⟨rfl, rfl⟩
 | fq k E i off => obtain ⟨_, b, o, n, c, _, _, rfl⟩ := h; exact ⟨rfl, rfl⟩
 | fn f ly => obtain ⟨vs, rfl, _⟩ := h; exact ⟨rfl, rfl⟩
 | undef => simp [C.yx] at hc
def yG : List C → Nat → List C → List C
 | cs, _, [] => cs
 | cs, o, x :: xs => yG (cs.set o x) (o + 1) xs
def dF (vs : Array Value) (o : Nat) : List Value → Array Value
 | [] => vs
 | x :: xs => dF (vs.setIfInBounds o x) (o + 1) xs
theorem cW.set {H : Hp} {ρ : aG} {D : Nat → Prop} {cs : List C} {vs : Array Value} (h : cW H ρ D cs vs) {o : Nat} {c : C} {v : Value} (hv : RC H ρ D c v) : cW H ρ D (cs.set o c) (vs.setIfInBounds o v) := by
 refine ⟨by simpa using h.1, fun j x hj => ?_⟩;rw [List.getElem?_set] at hj;rw [Array.getD_eq_getD_getElem?, Array.getElem?_setIfInBounds]
 split at hj
 · rename_i ho
   split at hj
   · cases hj;rw [if_pos ho, if_pos (by rw [h.1]; omega)];exact hv
   · cases hj
 · rename_i ho;rw [if_neg ho, ← Array.getD_eq_getD_getElem?];exact h.2 j x hj
theorem cW.yH {H : Hp} {ρ : aG} {D : Nat → Prop} : ∀ (xs : List C) (us : List Value) {cs : List C} {vs : Array Value} {o : Nat}, cW H ρ D cs vs → cW H ρ D xs us.toArray →
   cW H ρ D (yG cs o xs) (dF vs o us)
 | [], us, cs, vs, o, h, hx => by
   have : us = [] := by have := hx.1; simpa using this
   subst this;exact h
 | x :: xs, us, cs, vs, o, h, hx => by
   cases us with
   | nil => have := hx.1; simp at this
   | cons u us =>
     have h0 := hx.2 0 x rfl;refine cW.yH xs us (h.set (by simpa using h0)) ⟨by simpa using hx.1, fun j c hj => ?_⟩;have := hx.2 (j + 1) c (by simpa using hj);simpa using this
theorem Ml (vs : Array Value) (o : Nat) (us : List Value) (k : Nat) : (us.zipIdx k).foldl (fun cs (p : Value × Nat) => cs.setIfInBounds (o + p.2) p.1) vs = dF vs (o + k) us := by
 induction us generalizing vs k with
 | nil => rfl
 | cons u us ih => simp only [List.zipIdx_cons, List.foldl_cons, dF]; rw [ih]; rfl
def we (fs : List (Nat × Nat × Bool)) : List C → List (Nat × V) → Option (List C)
 | cs, [] => some cs
 | cs, (i, v) :: rest =>
   match fs[i]?, nS v with
   | some p, some xs => if xs.length = p.2.1 ∧ p.1 + xs.length ≤ cs.length then we fs (yG cs p.1 xs) rest else none
   | _, _ => none
def FA : V → Option Cp
 | .c (.ptr k off) => some (.ptr k off)
 | .c (.el E x off) => some (.el E x off)
 | .c (.bZ ls off) => some (.bZ ls off)
 | _ => none
def ly : List V → Option (List Cp)
 | [] => some []
 | x :: xs => match FA x, ly xs with | some c, some cs => some (c :: cs) | _, _ => none
def Bg (tab : bf) (bs : List (Nat × ak)) (T : TypeId) : V → Option (Unit → Nat)
 | .c (.lf (.list _ xs)) => match cS tab T with | some (.sl _ _ _) => some fun _ => (xs ()).length | _ => none
 | .c (.own k) => match cS tab T, aM bs k with | some (.sl _ _ _), some (.own _ xs _) => some fun _ => (xs ()).length | some (.sl _ _ _), some (.view _ xs) => some fun _ => (xs ()).length | _, _ => none
 | .c .nil => match cS tab T with | some (.sl _ _ _) => some fun _ => 0 | _ => none
 | .c (.lf (.str t)) => match cS tab T with | some .ss => some fun _ => (t ()).length | _ => none
 | _ => none
def Bh : V → Option V
 | .c (.bl b) => some (.c (.bl (!b)))
 | .c (.lf (.bool t)) => some (bV fun _ => !(t ()))
 | _ => none
def Bi : List V → Option (IntKind × (Unit → Int))
 | [.c (.lf (.int k a)), .c (.lf (.int k' b))] => if k = k' then some (k, fun _ => if b () > a () then b () else a ()) else none
 | _ => none
def Bj : List V → Option (IntKind × (Unit → Int))
 | [.c (.lf (.int k a)), .c (.lf (.int k' b))] => if k = k' then some (k, fun _ => if b () < a () then b () else a ()) else none
 | _ => none
def Bk (tab : bf) (src dst : TypeId) : V → Option V
 | .c (.lf (.int k a)) =>
   match cS tab src, cS tab dst with
   | some (.it _), some (.it .i64) => if k = .u8 ∨ k = .i64 then some (iV .i64 a) else some (iV .i64 fun _ => IntKind.i64.wrap (a ()))
   | some (.it _), some (.it k') => some (iV k' fun _ => k'.wrap (a ()))
   | _, _ => none
 | _ => none
def FB : V → Bool
 | .c (.ptr _ _) | .c (.el _ _ _) | .c (.bZ _ _) | .c (.fq _ _ _ _) | .c (.fn _ _) => true
 | _ => false
def ex (tab : bf) (o : Oper) (σ : SS) : Option V :=
 match o.op with
 | .move x | .assign x => some (σ.ev x)
 | .pick c a b => match σ.ev c with | .c (.bl true) => some (σ.ev a) | .c (.bl false) => some (σ.ev b) | _ => none
 | .load T x => ui tab σ.af T (σ.ev x)
 | .fieldAddr T x i => yE tab T i (σ.ev x)
 | .field T x i => Bf tab T i (σ.ev x)
 | .build T parts =>
   match cS tab T with
   | some (.st _ fs z _) => (match we fs (z.map Z.c) (parts.toList.map fun p => (p.1, σ.ev p.2)) with | some cs => some (.agg cs) | none => none)
   | _ => none
 | .unOp .not _ x => Bh (σ.ev x)
 | .extract x i =>
   match σ.ev x with
   | .bc cs => (match cs[i]? with | some (true, l) => some (.agg l) | some (false, [c]) => some (.c c) | _ => none)
   | _ => none
 | .nilCheck x => if FB (σ.ev x) then some (σ.ev x) else none
 | .makeFunc (.func f) first captured => if first.size = 0 then (match ly (captured.toList.map σ.ev) with | some l => some (.c (.fn f l)) | none => none) else none
 | .binOp op T x y _ => Bc tab op T (σ.ev x) (σ.ev y)
 | .convert src dst x => Bk tab src dst (σ.ev x)
 | .call c =>
   match c.callee with
   | .builtin .len => (match c.args.toList, c.argTypes.toList with
     | [x], [T] => (match Bg tab σ.af T (σ.ev x) with | some n => some (iV .i64 fun _ => (n () : Int)) | none => none)
     | _, _ => none)
   | .builtin .max => (match Bi (c.args.toList.map σ.ev) with | some (k, t) => some (iV k t) | none => none)
   | .builtin .min => (match Bj (c.args.toList.map σ.ev) with | some (k, t) => some (iV k t) | none => none)
   | _ => none
 | _ => none
def qA (o : Oper) (σ : SS) : List Nat :=
 match o.op with
 | .load _ x => uj (σ.ev x)
 | _ => []
section
variable {P : Program} {H : Hp} {ρ : aG} {D : Nat → Prop}
theorem RV.cells {c : V} {v : Value} {cs : List C} (h : RV H ρ D c v) (hc : nS c = some cs) (hk : ∀ k, c = .c (.own k) → v.oneCell' = true) : cW H ρ D cs v.cells := by
 cases c with
 | c x =>
   have hd : x.yx = true ∧ cs = [x] := by
    cases x <;> simp [nS] at hc <;> exact ⟨rfl, hc.symm⟩
   obtain ⟨hd, rfl⟩ := hd;obtain ⟨h1, h2⟩ := RC.cells h hd fun k bD => hk k (by rw [bD]);rw [h1];refine ⟨rfl, fun j c hj => ?_⟩;cases j with
   | zero => simp at hj; subst hj; exact h
   | succ j => simp at hj
 | agg l => simp only [nS, Option.some.injEq] at hc; subst hc; obtain ⟨vs, rfl, h1⟩ := h; exact h1
 | bc l => simp [nS] at hc
theorem FC {fs : List (Nat × Nat × Bool)} {places : Array (Nat × Nat)} (mT : ∀ (i : Nat) (p : Nat × Nat × Bool), fs[i]? = some p → places[i]? = some (p.1, p.2.1))
   (cU : ∀ k, D k → (ρ k).1.oneCell' = true) :
   ∀ (parts : List (Nat × V)) (pI : List (Nat × Value)) (cs : List C) (vs : Array Value) (out : List C), cW H ρ D cs vs → parts.length = pI.length →
     (∀ (j : Nat) i v i' x, parts[j]? = some (i, v) → pI[j]? = some (i', x) → i' = i ∧ RV H ρ D v x) → we fs cs parts = some out →
     ∃ us, Instr.fill (places[·]?) vs pI = some us ∧ cW H ρ D out us
 | [], pI, cs, vs, out, h, hl, _, hf => by
   cases pI with
   | nil => simp only [we, Option.some.injEq] at hf; subst hf; exact ⟨vs, rfl, h⟩
   | cons v vs => simp at hl
 | (i, v) :: parts, pI, cs, vs, out, h, hl, hv, hf => by
   cases pI with
   | nil => simp at hl
   | cons q pI =>
     obtain ⟨i', x⟩ := q;obtain ⟨rfl, hx⟩ := hv 0 i v i' x rfl rfl;simp only [we] at hf
     split at hf
     · rename_i p xs hp wg
       split at hf
       · rename_i hle
         have hc := hx.cells wg fun k hk => by
          subst hk;obtain ⟨hd, rfl⟩ := hx;exact cU k hd
         have bj : x.cells.size = xs.length := hc.1;have h1 := cW.yH xs x.cells.toList (o := p.1) h (by simpa using hc);obtain ⟨us, h2, h3⟩ := FC mT cU parts pI _ _ out h1 (by simpa using hl) (fun j i v i' x h4 h5 => hv (j + 1) i v i' x (by simpa using h4) (by simpa using h5)) hf;refine ⟨us, ?_, h3⟩
         have sY : ¬ ((decide (x.cells.size ≠ p.2.1) || decide (p.1 + x.cells.size > vs.size)) = true) := by
          have h4 := h.1;have h5 := hle.1;have h6 := hle.2;simp only [bj, h5, Bool.or_eq_true, decide_eq_true_eq];omega
         simp only [Instr.fill, mT _ _ hp];rw [if_neg sY];rw [← h2]
         congr 1
         rw [← Array.foldl_toList];have := Ml vs p.1 x.cells.toList 0;simp only [Nat.add_zero] at this;rw [← this];simp [Array.toList_zipIdx]
       · cases hf
     · cases hf
theorem FD : ∀ {fs : List (Nat × Nat × Bool)} {l : List Field}, kq P fs l = true → ∀ w : World,
   (l.mapM (fun f => do pure (f.offset, ← sizeOf f.type)) : Sem (List (Nat × Nat))).run P w = .ok (fs.map fun p => (p.1, p.2.1)) w
 | [], [], _, w => by simp
 | [], _ :: _, h, _ => by simp [kq] at h
 | _ :: _, [], h, _ => by simp [kq] at h
 | p :: fs, f :: l, h, w => by
   obtain ⟨f', h1, h2, ⟨fi, h3, h4⟩, _⟩ := yw (i := 0) (p := p) h rfl;cases h1;simp only [kq, Bool.and_eq_true] at h;have ih := FD h.2 w;rw [List.mapM_cons, Sem.run_bind, Sem.run_bind, l4 w h3, Result.andThen_ok, Sem.run_pure, Result.andThen_ok, Sem.run_bind, ih];simp [h2, h4]
theorem run_places {fs : List (Nat × Nat × Bool)} {fields : Array Field} (h : kq P fs fields.toList = true) (w : World) :
  (fields.mapM (fun f => do pure (f.offset, ← sizeOf f.type)) : Sem (Array (Nat × Nat))).run P w = .ok (fs.map fun p => (p.1, p.2.1)).toArray w := by
 rw [Array.mapM_eq_mapM_toList, Sem.run_map, FD h w];rfl
theorem Mm {x v : V} {p : Value} (h : Bh x = some v) (hp : RV H ρ D x p) : ∃ y, RV H ρ D v y ∧ ∀ w', (Op.unary .not p).run P w' = .ok y w' := by
 unfold Bh at h
 split at h
 · cases h; simp only [RV, RC] at hp; subst hp; exact ⟨_, rfl, fun w' => rfl⟩
 · cases h; have := RL.of_bool hp; subst this; exact ⟨_, RL.bool, fun w' => rfl⟩
 · cases h
theorem FE : ∀ (xs : List V) (vs : List Value) (l : List Cp), xs.length = vs.length → (∀ (j : Nat) x v, xs[j]? = some x → vs[j]? = some v → RV H ρ D x v) → ly xs = some l →
   vs.length = l.length ∧ ∀ j c, l[j]? = some c → dX H ρ D c (vs.toArray.getD j Go.undef)
 | [], vs, l, hl, _, h => by
   cases vs with
   | nil => simp only [ly, Option.some.injEq] at h; subst h; exact ⟨rfl, fun j c hj => by simp at hj⟩
   | cons v vs => simp at hl
 | x :: xs, vs, l, hl, hv, h => by
   cases vs with
   | nil => simp at hl
   | cons v vs =>
     simp only [ly] at h
     split at h
     · rename_i c cs hc dy;cases h;obtain ⟨h1, h2⟩ := FE xs vs cs (by simpa using hl) (fun j x v hj cL => hv (j + 1) x v (by simpa using hj) (by simpa using cL)) dy;refine ⟨by simpa using h1, fun j d hj => ?_⟩;cases j with
       | zero =>
         simp only [List.getElem?_cons_zero, Option.some.injEq] at hj;subst hj;have := hv 0 x v rfl rfl;unfold FA at hc
         split at hc
         · cases hc; exact this
         · cases hc; exact this
         · cases hc; exact this
         · cases hc
       | succ j => simpa using h2 j d (by simpa using hj)
     · cases h
end
section
variable {P : Program} {tab : bf} (hT : fw P tab = true) {Γ : Ctx} {H : Hp} {ρ : aG} {σ : SS} {a : Act} {w : World} (r : aI Γ H ρ σ a w)
include hT r
omit hT in
theorem um {k : Nat} {E : an} {xs : Unit → List E.α} {sQ : Bool} (h : aM σ.af k = some (.own E xs sQ)) : bn w.heap (.list E xs) (ρ k).1 (ρ k).2 := r.b.af k _ (de h)
omit hT r in
theorem bn.slice {h : Array Obj} {E : an} {xs : Unit → List E.α} {v : Value} {S : Nat → Nat} (ho : bn h (.list E xs) v S) : ∃ b c, v = .slice b (xs ()).length c ∧ (xs ()).length ≤ cG := by
 generalize hl : Lf.list E xs = l at ho;cases ho with
 | int hr => cases hl
 | bool => cases hl
 | str hm => cases hl
 | nil h0 => cases hl; exact ⟨none, 0, by simp [h0], by simp [h0, cG]⟩
 | list S hb hf jR hm ho hc => cases hl; exact ⟨_, _, rfl, hm⟩
omit hT r in
theorem RL.slice {E : an} {xs : Unit → List E.α} {v : Value} (ho : RL H (.list E xs) v) : ∃ b c, v = .slice b (xs ()).length c ∧ (xs ()).length ≤ cG := by
 generalize hl : Lf.list E xs = l at ho;cases ho with
 | int hr => cases hl
 | bool => cases hl
 | str hm => cases hl
 | nil h0 => cases hl; exact ⟨_, _, by rw [h0]; rfl, by simp [h0, cG]⟩
 | list hb jR hm ho hc => cases hl; exact ⟨_, _, rfl, hm⟩
theorem Mn {T ty : TypeId} {x : V} {p : Value} {n : Unit → Nat} (h : Bg tab σ.af T x = some n) (hp : RV H ρ (av σ.af) x p) :
   n () ≤ cG ∧ ∀ w', (Builtin.len_ #[T] ty #[p]).run P w' = .ok (.int .i64 (n ())) w' := by
 unfold Bg at h
 split at h
 · split at h
   · rename_i ba;cases h;obtain ⟨b, c, rfl, hm⟩ := RL.slice hp;exact ⟨hm, fun w' => by simp [Builtin.len_, iP w' (mP (cD hT ba)).1, goInt]⟩
   · cases h
 · rename_i k
   split at h
   · rename_i ba hB;cases h;obtain ⟨hd, rfl⟩ := hp;obtain ⟨b, c, h1, hm⟩ := bn.slice (um r hB);rw [h1];exact ⟨hm, fun w' => by simp [Builtin.len_, iP w' (mP (cD hT ba)).1, goInt]⟩
   · rename_i ba hB;cases h;obtain ⟨hd, rfl⟩ := hp;obtain ⟨b, c, h1, hm⟩ := RL.slice (r.b.af k _ (de hB)).1;rw [h1];exact ⟨hm, fun w' => by simp [Builtin.len_, iP w' (mP (cD hT ba)).1, goInt]⟩
   · cases h
 · split at h
   · rename_i ba;cases h;simp only [RV, RC] at hp;subst hp;exact ⟨by simp [cG], fun w' => by simp [Builtin.len_, iP w' (mP (cD hT ba)).1, goInt]⟩
   · cases h
 · split at h
   · rename_i ba;cases h;obtain ⟨rfl, hm⟩ := RL.lz hp;exact ⟨hm, fun w' => by simp [Builtin.len_, iP w' (mQ (cD hT ba)).1, goInt]; rfl⟩
   · cases h
 · cases h
omit hT in
theorem wh {k : Nat} {p : Value} (hp : RV H ρ (av σ.af) (.c (.own k)) p) : p.oneCell' = true := by
 obtain ⟨hd, rfl⟩ := hp; exact r.b.oc k hd
omit r in
theorem Mo {src dst : TypeId} {x v : V} {p : Value} (h : Bk tab src dst x = some v) (hp : RV H ρ (av σ.af) x p) :
   ∃ y, RV H ρ (av σ.af) v y ∧ ∀ w', (convert src dst p).run P w' = .ok y w' := by
 unfold Bk at h
 split at h
 · rename_i k t;obtain ⟨rfl, hh⟩ := RL.of_int hp
   have key : ∀ k1 k', eJ P src (.it k1) = true → eJ P dst (.it k') = true → ∀ w', (convert src dst (.int k (t ()))).run P w' = .ok (.int k' (k'.wrap (t ()))) w' := fun k1 k' h1 h2 w' => by
     simp [convert, iP w' (pF h1).1, iP w' (pF h2).1, Conv.intToInt]
   split at h
   · rename_i k1 hs hd
     split at h
     · rename_i hk;cases h
       have FF : IntKind.i64.has (t ()) := by
        rcases hk with rfl | rfl
        · have := v_.1 hh; exact sW.2 (by omega)
        · exact hh
       refine ⟨_, RL.int FF, fun w' => ?_⟩;rw [key _ _ (cD hT hs) (cD hT hd), qy FF]
     · cases h;exact ⟨_, RL.int (t := fun _ => IntKind.i64.wrap (t ())) (yB _ _), fun w' => key _ _ (cD hT hs) (cD hT hd) w'⟩
   · rename_i k1 k' hne hs hd;cases h;exact ⟨_, RL.int (t := fun _ => IntKind.wrap k' (t ())) (yB _ _), fun w' => key _ _ (cD hT hs) (cD hT hd) w'⟩
   · cases h
 · cases h
omit hT r in
theorem Mp {xs : List V} {vs : List Value} {k : IntKind} {t : Unit → Int} {D : Nat → Prop} (h : Bi xs = some (k, t)) (hl : xs.length = vs.length)
   (hv : ∀ (j : Nat) x v, xs[j]? = some x → vs[j]? = some v → RV H ρ D x v) (at_ : Array TypeId) (ty : TypeId) :
   k.has (t ()) ∧ ∀ w', (Builtin.max_ at_ ty vs.toArray).run P w' = .ok (.int k (t ())) w' := by
 unfold Bi at h
 split at h
 · rename_i k a k' b
   split at h
   · rename_i hk;subst hk;cases h
     match vs, hl with
     | [v, u], _ =>
       obtain ⟨rfl, h1⟩ := RL.of_int (hv 0 _ _ rfl rfl);obtain ⟨rfl, h2⟩ := RL.of_int (hv 1 _ _ rfl rfl);refine ⟨?_, fun w' => by simp [Builtin.max_, Builtin.max2]⟩;show IntKind.has k (if b () > a () then b () else a ())
       split <;> assumption
   · cases h
 · cases h
omit hT r in
theorem Mq {xs : List V} {vs : List Value} {k : IntKind} {t : Unit → Int} {D : Nat → Prop} (h : Bj xs = some (k, t)) (hl : xs.length = vs.length)
   (hv : ∀ (j : Nat) x v, xs[j]? = some x → vs[j]? = some v → RV H ρ D x v) (at_ : Array TypeId) (ty : TypeId) :
   k.has (t ()) ∧ ∀ w', (Builtin.min_ at_ ty vs.toArray).run P w' = .ok (.int k (t ())) w' := by
 unfold Bj at h
 split at h
 · rename_i k a k' b
   split at h
   · rename_i hk;subst hk;cases h
     match vs, hl with
     | [v, u], _ =>
       obtain ⟨rfl, h1⟩ := RL.of_int (hv 0 _ _ rfl rfl);obtain ⟨rfl, h2⟩ := RL.of_int (hv 1 _ _ rfl rfl);refine ⟨?_, fun w' => by simp [Builtin.min_, Builtin.min2]⟩;show IntKind.has k (if b () < a () then b () else a ())
       split <;> assumption
   · cases h
 · cases h
omit hT in
theorem wi (args : Array Operand) (j : Nat) (x : V) (v : Value) (h : (args.toList.map σ.ev)[j]? = some x) (h' : (args.map a.eval).toList[j]? = some v) : RV H ρ (av σ.af) x v := by
 simp only [Array.toList_map, List.getElem?_map, Option.map_eq_some_iff] at h h';obtain ⟨o, h1, rfl⟩ := h;obtain ⟨o', h2, rfl⟩ := h';rw [h1] at h2;cases h2;exact jQ r.e o
theorem Mr {o : Oper} {v : V} (h : ex tab o σ = some v) :
   ∃ y, RV H ρ (av σ.af) v y ∧ ∀ w', nP H ρ (qA o σ) w w' → (execOp a.eval o).run P w' = .ok (.value y) w' := by
 have ev := jQ r.e;unfold ex at h
 split at h
 · rename_i x aX; cases h; exact ⟨_, ev x, fun w' _ => by simp [execOp, aX]⟩
 · rename_i x aX; cases h; exact ⟨_, ev x, fun w' _ => by simp [execOp, aX]⟩
 · rename_i c x y aX;have hc := ev c
   split at h
   · rename_i lC;rw [lC] at hc;simp only [RV, RC] at hc;cases h; exact ⟨_, ev x, fun w' _ => by simp [execOp, aX, hc, asBool]⟩
   · rename_i lC;rw [lC] at hc;simp only [RV, RC] at hc;cases h; exact ⟨_, ev y, fun w' _ => by simp [execOp, aX, hc, asBool]⟩
   · cases h
 · rename_i T x aX;obtain ⟨y, h1, h2⟩ := Fs hT r h (ev x);refine ⟨y, h1, fun w' hk => ?_⟩;have := h2 w' (by simpa [qA, aX] using hk);simp [execOp, aX, this]
 · rename_i T x i aX;obtain ⟨y, h1, h2⟩ := Mi hT h (ev x);exact ⟨y, h1, fun w' hk => by simp [execOp, aX, h2 w']⟩
 · rename_i T x i aX;obtain ⟨y, h1, h2⟩ := Mj hT h (ev x);exact ⟨y, h1, fun w' hk => by simp [execOp, aX, h2 w']⟩
 · rename_i T parts aX
   split at h
   · rename_i n fs z q ba
     split at h
     · rename_i cs hf;cases h;obtain ⟨fields, hU, ⟨gK, _⟩, i, zs, hi, dU, hz, qB⟩ := pD (cD hT ba);have Bl := Z.Fj (H := H) (ρ := ρ) (D := av σ.af) qB
       obtain ⟨us, h3, h4⟩ := FC (places := (fs.map fun p => (p.1, p.2.1)).toArray) (fun i p hp => by simp [hp]) r.b.oc _ (parts.toList.map fun p => (p.1, a.eval p.2)) _ _ _ Bl (by simp) (fun j i v i' x h5 h6 => by
         simp only [List.getElem?_map, Option.map_eq_some_iff, Prod.mk.injEq] at h5 h6;obtain ⟨p, h7, rfl, rfl⟩ := h5;obtain ⟨p', h8, rfl, rfl⟩ := h6;rw [h7] at h8;cases h8;exact ⟨rfl, ev _⟩) hf
       refine ⟨_, ⟨us, rfl, h4⟩, fun w' _ => ?_⟩;have h5 := run_places gK w';simp only [Array.toArray_toList] at h3 h5;simp only [execOp, aX, Instr.build, Sem.run_bind, Fo w' hi hz, iP w' hU, Result.andThen_ok, h5, Array.toList_map, Value.cells, h3];rfl
     · cases h
   · cases h
 · rename_i T x aX;obtain ⟨y, h1, h2⟩ := Mm (P := P) h (ev x);exact ⟨y, h1, fun w' _ => by simp [execOp, aX, h2 w']⟩
 · rename_i x i aX;have hx := ev x
   split at h
   · rename_i cs dy;rw [dy] at hx;obtain ⟨vs, h1, h2, h3⟩ := hx
     split at h
     · rename_i l hl;cases h;have := h3 _ _ hl;refine ⟨_, this, fun w' _ => ?_⟩;have e := getD_some (show i < vs.size by rw [h2]; exact bq hl);simp only [execOp, aX, Instr.extract, h1, e];rfl
     · rename_i c hl;cases h;obtain ⟨c', h4, h5⟩ := h3 _ _ hl;cases h4;refine ⟨_, h5, fun w' _ => ?_⟩;have e := getD_some (show i < vs.size by rw [h2]; exact bq hl);simp only [execOp, aX, Instr.extract, h1, e];rfl
     · cases h
   · cases h
 · rename_i x aX
   split at h
   · rename_i kx;cases h;refine ⟨_, ev x, fun w' _ => ?_⟩;have hx := ev x;generalize σ.ev x = vx at hx kx;unfold FB at kx
     split at kx
     · obtain ⟨_, b, _, h1⟩ := hx; simp [execOp, aX, h1]
     · obtain ⟨b, o, cs, e, fz, _, h1, _⟩ := hx; simp [execOp, aX, h1]
     · obtain ⟨b, o, cs, e, fz, _, h1, _⟩ := hx; simp [execOp, aX, h1]
     · obtain ⟨_, b, o, n, c, _, _, h1⟩ := hx; simp [execOp, aX, h1]
     · obtain ⟨vs, h1, _⟩ := hx; simp [execOp, aX, h1]
     · cases kx
   · cases h
 · rename_i f first captured aX
   split at h
   · rename_i h0
     split at h
     · rename_i l hl;cases h;obtain ⟨h1, h2⟩ := FE _ (captured.map a.eval).toList l (by simp) (wi r captured) hl;have hf : first = #[] := by simpa using h0
       refine ⟨_, ⟨captured.map a.eval, rfl, by simpa using h1, by simpa using h2⟩, fun w' _ => ?_⟩;simp [execOp, aX, Instr.makeFunc, hf]
     · cases h
   · cases h
 · rename_i op T x y yT aX;obtain ⟨z, h1, h2⟩ := Mk hT (X := x) (Y := y) h (ev x) (ev y);refine ⟨z, h1, fun w' _ => ?_⟩;have := h2 w';simp only [execOp, aX];rw [Sem.run_bind, this];rfl
 · rename_i src dst x aX;obtain ⟨y, h1, h2⟩ := Mo hT h (ev x);exact ⟨y, h1, fun w' _ => by simp [execOp, aX, h2 w']⟩
 · rename_i c aX
   split at h
   · rename_i ff
     split at h
     · rename_i x T hx Bm
       split at h
       · rename_i n hn;cases h;obtain ⟨h1, h2⟩ := Mn hT r (ty := o.type) hn (ev x);have e1 : c.args = #[x] := by rw [← Array.toList_inj]; simpa using hx
         have e2 : c.argTypes = #[T] := by rw [← Array.toList_inj]; simpa using Bm
         refine ⟨_, RL.int (t := fun _ => ((n () : Nat) : Int)) (sW.2 (by unfold cG at h1; omega)), fun w' _ => ?_⟩;simp [execOp, aX, resolve, ff, e1, e2, invoke, builtin, h2 w']
       · cases h
     · cases h
   · rename_i ff
     split at h
     · rename_i k t ht;cases h;obtain ⟨h1, h2⟩ := Mp (P := P) ht (vs := (c.args.map a.eval).toList) (by simp) (wi r c.args) c.argTypes o.type;refine ⟨_, RL.int h1, fun w' _ => ?_⟩;have := h2 w';simp only [Array.toArray_toList] at this;simp [execOp, aX, resolve, ff, invoke, builtin, this]
     · cases h
   · rename_i ff
     split at h
     · rename_i k t ht;cases h;obtain ⟨h1, h2⟩ := Mq (P := P) ht (vs := (c.args.map a.eval).toList) (by simp) (wi r c.args) c.argTypes o.type;refine ⟨_, RL.int h1, fun w' _ => ?_⟩;have := h2 w';simp only [Array.toArray_toList] at this;simp [execOp, aX, resolve, ff, invoke, builtin, this]
     · cases h
   · cases h
 · cases h
end
inductive Br (t : Unit → Bool) (K : Bool → Prop) : Prop where
 | mk (h : K (t ()))
inductive Ix (E : an) (xs : Unit → List E.α) (i : Unit → Int) (K : (Unit → E.α) → Prop) : Prop where
 | mk (x : E.α) (h0 : 0 ≤ i ()) (h : (xs ())[(i ()).toNat]? = some x) (hk : K fun _ => x)
inductive Ar (k : IntKind) (t : Unit → Int) (K : (Unit → Int) → Prop) : Prop where
 | mk (u : Unit → Int) (h : k.wrap (t ()) = u ()) (hk : K u)
inductive Ob (p : Unit → Prop) (K : Unit → Prop) : Prop where
 | mk (h : p ()) (hk : K ())
theorem Br.split {t : Unit → Bool} {K : Bool → Prop} (h1 : t () = true → K true) (h0 : t () = false → K false) : Br t K := by
 cases h : t () with
 | true => exact ⟨by rw [h]; exact h1 h⟩
 | false => exact ⟨by rw [h]; exact h0 h⟩
theorem Br.yes {t : Unit → Bool} {K : Bool → Prop} (h : t () = true) (h1 : K true) : Br t K := ⟨by rw [h]; exact h1⟩
theorem Br.no {t : Unit → Bool} {K : Bool → Prop} (h : t () = false) (h1 : K false) : Br t K := ⟨by rw [h]; exact h1⟩
theorem Ar.exact {t : Unit → Int} {K : (Unit → Int) → Prop} (h1 : -9223372036854775808 ≤ t ()) (h2 : t () ≤ 9223372036854775807) (hk : K t) : Ar .i64 t K :=
 ⟨t, qy (sW.2 ⟨h1, h2⟩), hk⟩
def Bn (op : BinOp) (a b : Unit → Int) : Option (Unit → Int) :=
 match op with
 | .add => some fun _ => a () + b ()
 | .sub => some fun _ => a () - b ()
 | .mul => some fun _ => a () * b ()
 | _ => none
def Bo (op : BinOp) (k : IntKind) (a b : Unit → Int) : Option (Unit → Int) :=
 match op with
 | .and => some fun _ => ((BitVec.ofInt k.bits (a ()) &&& BitVec.ofInt k.bits (b ())).toNat : Int)
 | .or => some fun _ => ((BitVec.ofInt k.bits (a ()) ||| BitVec.ofInt k.bits (b ())).toNat : Int)
 | .xor => some fun _ => ((BitVec.ofInt k.bits (a ()) ^^^ BitVec.ofInt k.bits (b ())).toNat : Int)
 | _ => none
def Bp (op : BinOp) (K : V → Prop) : V → V → Prop
 | .c (.lf (.int k a)), .c (.lf (.int k' b)) =>
   match op with
   | .shl => Ob (fun _ => 0 ≤ b ()) fun _ => Ar k (fun _ => a () * 2 ^ (min (b ()).toNat k.bits)) fun t => K (iV k t)
   | .shr => Ob (fun _ => 0 ≤ b ()) fun _ => Ar k (fun _ => (a ()).fdiv (2 ^ (min (b ()).toNat k.bits))) fun t => K (iV k t)
   | .quo => if k = k' then Ob (fun _ => b () ≠ 0) fun _ => Ar k (fun _ => (a ()).tdiv (b ())) fun t => K (iV k t) else False
   | .rem => if k = k' then Ob (fun _ => b () ≠ 0) fun _ => K (iV k fun _ => (a ()).tmod (b ())) else False
   | op =>
     if k = k' then
      match Bn op a b, Bo op k a b with
      | some t, _ => Ar k t fun t => K (iV k t)
      | none, some t => Ar k t fun t => K (iV k t)
      | none, none => False
     else False
 | .c (.lf (.str a)), .c (.lf (.str b)) =>
   match op with
   | .add => Ob (fun _ => (a ()).length + (b ()).length ≤ cG) fun _ => K (.c (.lf (.str fun _ => a () ++ b ())))
   | _ => False
 | _, _ => False
def Bq (K : V → Prop) : V → Prop
 | .c (.lf (.int k a)) => Ar k (fun _ => 0 - a ()) fun t => K (iV k t)
 | _ => False
def Bt (tab : bf) (bs : List (Nat × ak)) (T : TypeId) (K : V → Prop) : V → V → Prop
 | .c (.lf (.list E xs)), .c (.lf (.int _ i)) =>
   match cS tab T with
   | some (.sl E' _ _) => if E = E' then Ix E xs i fun x => K (.c (.el E x 0)) else False
   | _ => False
 | .c (.own k), .c (.lf (.int _ i)) =>
   match cS tab T, aM bs k with
   | some (.sl E' _ _), some (.own E xs _) => if E = E' then Ob (fun _ => 0 ≤ i () ∧ i () < (xs ()).length) fun _ => K (.c (.fq k E (fun _ => (i ()).toNat) 0)) else False
   | some (.sl E' _ _), some (.b0 E xs _ _) => if E = E' then Ob (fun _ => 0 ≤ i () ∧ i () < (xs ()).length) fun _ => K (.c (.fq k E (fun _ => (i ()).toNat) 0)) else False
   | some (.sl E' _ _), some (.view E xs) => if E = E' then Ix E xs i fun x => K (.c (.el E x 0)) else False
   | _, _ => False
 | _, _ => False
def pJ : Option V → (Unit → Int) → Option (Unit → Int)
 | none, d => some d
 | some (.c (.lf (.int _ i))), _ => some i
 | _, _ => none
def qC (bs : List (Nat × ak)) : V → V
 | .c (.own k) => match aM bs k with | some (.view E xs) => .c (.lf (.list E xs)) | _ => .c (.own k)
 | v => v
def Bu (tab : bf) (T : TypeId) (K : V → Prop) (x : V) (lo hi mx : Option V) : Prop :=
 match x, mx with
 | .c (.lf (.list E xs)), none =>
   match cS tab T, pJ lo fun _ => 0, pJ hi fun _ => ((xs ()).length : Int) with
   | some (.sl E' _ _), some l, some h => if E = E' then Ob (fun _ => 0 ≤ l () ∧ l () ≤ h () ∧ h () ≤ (xs ()).length) fun _ => K (.c (.lf (.list E fun _ => ((xs ()).take (h ()).toNat).drop (l ()).toNat))) else False
   | _, _, _ => False
 | .c (.lf (.str s)), none =>
   match cS tab T, pJ lo fun _ => 0, pJ hi fun _ => ((s ()).length : Int) with
   | some .ss, some l, some h => Ob (fun _ => 0 ≤ l () ∧ l () ≤ h () ∧ h () ≤ (s ()).length) fun _ => K (.c (.lf (.str fun _ => ((s ()).take (h ()).toNat).drop (l ()).toNat)))
   | _, _, _ => False
 | _, _ => False
def Bv (tab : bf) (T : TypeId) (K : V → Prop) : V → V → Prop
 | .c (.lf (.str s)), .c (.lf (.int _ i)) =>
   match cS tab T with
   | some .ss => Ob (fun _ => 0 ≤ i () ∧ i () < (s ()).length) fun _ => K (iV .u8 fun _ => (((s ()).getD (i ()).toNat 0).toNat : Int))
   | _ => False
 | _, _ => False
def Bw (tab : bf) (o : Oper) (σ : SS) (K : V → Prop) : Prop :=
 match ex tab o σ with
 | some v => K v
 | none =>
   match o.op with
   | .pick c a b =>
     match σ.ev c with
     | .c (.lf (.bool t)) => Br t fun y => K (match y with | true => σ.ev a | false => σ.ev b)
     | _ => False
   | .binOp op _ x y _ => Bp op K (σ.ev x) (σ.ev y)
   | .unOp .neg _ x => Bq K (σ.ev x)
   | .indexAddr T x i => Bt tab σ.af T K (σ.ev x) (σ.ev i)
   | .slice T x lo hi mx => Bu tab T K (qC σ.af (σ.ev x)) (lo.map σ.ev) (hi.map σ.ev) (mx.map σ.ev)
   | .index T x i => Bv tab T K (σ.ev x) (σ.ev i)
   | _ => False
section
variable {P : Program} {w : World} {H : Hp} {ρ : aG} {D : Nat → Prop}
theorem FG {k : IntKind} {a b : Int} (h : k.has a) : k.has (a.tmod b) := by
 have h0 : k.has 0 := IntKind.yt k;unfold IntKind.has at *;have hn := Int.natAbs_tmod a b;have hle := Nat.mod_le a.natAbs b.natAbs;rcases Int.le_total 0 a with ha | ha
 · have h1 : 0 ≤ a.tmod b := Int.tmod_nonneg b ha;omega
 · have h1 : 0 ≤ (-a).tmod b := Int.tmod_nonneg b (by omega);rw [Int.neg_tmod] at h1;omega
theorem Ms {k : IntKind} {a : Int} (h : k.has a) (n : Nat) : k.has (a.fdiv (2 ^ n)) := by
 have h0 : k.has 0 := IntKind.yt k;unfold IntKind.has at *;have hp : (0 : Int) < 2 ^ n := Int.pow_pos (by omega);rw [Int.fdiv_eq_ediv_of_nonneg _ (Int.le_of_lt hp)];generalize (2 : Int) ^ n = m at hp;rcases Int.le_total 0 a with ha | ha
 · have h1 : 0 ≤ a / m := Int.ediv_nonneg ha (by omega);have h2 : a / m ≤ a := Int.ediv_le_self m ha;omega
 · have h1 : a ≤ a / m := (Int.le_ediv_iff_mul_le hp).2 (by
    have := Int.mul_nonpos_of_nonpos_of_nonneg ha (show 0 ≤ m - 1 by omega);rw [Int.mul_sub, Int.mul_one] at this;omega)
   have h2 : a / m ≤ 0 := by
    have := Int.ediv_le_ediv hp ha;simpa using this
   omega
theorem Mt (op : BinOp) (T : TypeId) (X Y : Operand) (k k' : IntKind) (a b : Int) (s : Sem Value) :
  ((do eqGuard op T X Y (.int k a) (.int k' b); s) : Sem Value).run P w = s.run P w := by
 rw [Sem.run_bind, Fx]; rfl
theorem Mu (op : BinOp) (T : TypeId) (X Y : Operand) (p q : Value) (s : Sem Value) (h : op = .add) :
  ((do eqGuard op T X Y p q; s) : Sem Value).run P w = s.run P w := by
 subst h;rw [Sem.run_bind];have : (eqGuard .add T X Y p q).run P w = .ok () w := by unfold eqGuard; rfl
 rw [this]; rfl
theorem Mv {op : BinOp} {T : TypeId} {x y : V} {p q : Value} {X Y : Operand} {K : V → Prop} (h : Bp op K x y) (hp : RV H ρ D x p) (hq : RV H ρ D y q) :
   ∃ v z, K v ∧ RV H ρ D v z ∧ ∀ w' : World, ((do eqGuard op T X Y p q; binOp op T p q) : Sem Value).run P w' = .ok z w' := by
 unfold Bp at h
 split at h
 · rename_i k a k' b;obtain ⟨rfl, ha⟩ := RL.of_int hp;obtain ⟨rfl, hb⟩ := RL.of_int hq
   have key : ∀ (t : Int) (u : Unit → Int), k.wrap t = u () → (∀ w' : World, (binOp op T (.int k (a ())) (.int k' (b ()))).run P w' = .ok (.int k (k.wrap t)) w') → K (iV k u) →
       ∃ v z, K v ∧ RV H ρ D v z ∧ ∀ w' : World, ((do eqGuard op T X Y (.int k (a ())) (.int k' (b ())); binOp op T (.int k (a ())) (.int k' (b ()))) : Sem Value).run P w' = .ok z w' :=
     fun t u hu hr hk => ⟨_, _, hk, RL.int (t := u) (by rw [← hu]; exact yB _ _), fun w' => by rw [Mt, hr, hu]⟩
   split at h
   · obtain ⟨h1, u, h2, hk⟩ := h;refine key _ u h2 (fun w' => ?_) hk;simp only [binOp, Op.shift, if_neg (show ¬ b () < 0 by omega)];rfl
   · obtain ⟨h1, u, h2, hk⟩ := h;have dU : k.has ((a ()).fdiv (2 ^ (min (b ()).toNat k.bits))) := Ms ha _;refine key _ u h2 (fun w' => ?_) hk;rw [qy dU];simp only [binOp, Op.shift, if_neg (show ¬ b () < 0 by omega)];rfl
   · split at h
     · rename_i jS;subst jS;obtain ⟨h1, u, h2, hk⟩ := h;refine key _ u h2 (fun w' => ?_) hk;simp [binOp, Op.intDiv, h1]
     · cases h
   · split at h
     · rename_i jS;subst jS;obtain ⟨h1, hk⟩ := h;refine key _ (fun _ => (a ()).tmod (b ())) (qy (FG ha)) (fun w' => ?_) hk;rw [qy (FG ha)];simp [binOp, Op.intDiv, h1]
     · cases h
   · rename_i U2 n1 n2 n3 n4
     split at h
     · rename_i jS;subst jS;cases ht : Bn op a b with
       | some t =>
         simp only [ht] at h;obtain ⟨u, h2, hk⟩ := h;refine key (t ()) u h2 (fun w' => ?_) hk;cases op <;> simp only [Bn] at ht <;> cases ht <;> simp [binOp, Op.intArith]
       | none =>
         cases hb : Bo op k a b with
         | some t =>
           simp only [ht, hb] at h;obtain ⟨u, h2, hk⟩ := h;refine key (t ()) u h2 (fun w' => ?_) hk;cases op <;> simp only [Bo] at hb <;> cases hb <;> simp [binOp, Op.intBits]
         | none => simp only [ht, hb] at h
     · cases h
 · rename_i a b;obtain ⟨rfl, ha⟩ := RL.lz hp;obtain ⟨rfl, hb⟩ := RL.lz hq
   split at h
   · obtain ⟨h1, hk⟩ := h;refine ⟨_, _, hk, RL.str (t := fun _ => a () ++ b ()) (by simpa using h1), fun w' => ?_⟩;rw [Mu _ _ _ _ _ _ _ rfl]
     have hs : ¬ (((ByteArray.mk (a ()).toArray).size + (ByteArray.mk (b ()).toArray).size : Nat) : Int) > IntKind.i64.max := by
       have e1 : (ByteArray.mk (a ()).toArray).size = (a ()).length := rfl;have e2 : (ByteArray.mk (b ()).toArray).size = (b ()).length := rfl;rw [e1, e2];unfold cG at h1;simp only [IntKind.max, IntKind.signed, IntKind.bits];omega
     simp only [binOp, Op.stringOp, if_neg hs];simp only [Sem.run_pure]
     congr 2
   · cases h
 · cases h
theorem Mw {x : V} {p : Value} {K : V → Prop} (h : Bq K x) (hp : RV H ρ D x p) :
   ∃ v z, K v ∧ RV H ρ D v z ∧ ∀ w' : World, (Op.unary .neg p).run P w' = .ok z w' := by
 unfold Bq at h
 split at h
 · rename_i k a;obtain ⟨rfl, ha⟩ := RL.of_int hp;obtain ⟨u, h2, hk⟩ := h;refine ⟨_, _, hk, RL.int (t := u) (by rw [← h2]; exact yB _ _), fun w' => ?_⟩;rw [← h2];simp [Op.unary, Op.intArith]
 · cases h
end
section
variable {P : Program} {tab : bf} (hT : fw P tab = true) {Γ : Ctx} {H : Hp} {ρ : aG} {σ : SS} {a : Act} {w : World} (r : aI Γ H ρ σ a w)
include hT r
omit r in
theorem FH {E : an} {xs : Unit → List E.α} {i : Unit → Int} {k : IntKind} {T elem bytes : Nat} (ba : cS tab T = some (.sl E elem bytes)) {p : Value} {K : V → Prop} (h : Ix E xs i fun x => K (.c (.el E x 0))) (hp : RL H (.list E xs) p) :
   ∃ v z, K v ∧ RV H ρ (av σ.af) v z ∧ ∀ w' : World, (Instr.indexAt T p (.int k (i ()))).run P w' = .ok z w' := by
 obtain ⟨hU, ii, z, dU, bj, _⟩ := mP (cD hT ba);obtain ⟨x, h0, hx, hk⟩ := h;generalize hl : Lf.list E xs = l at hp;cases hp with
 | int => cases hl
 | bool => cases hl
 | str => cases hl
 | nil hn => cases hl; rw [hn] at hx; simp at hx
 | @list _ _ b off c cs e fz hb jR hm ho hc =>
   cases hl;have aL := bq hx;refine ⟨_, .pointer (some ⟨b, off + (i ()).toNat * E.sz, none⟩), hk, ⟨_, _, _, _, _, hb, rfl, fun j l hj => ?_⟩, fun w' => ?_⟩;rotate_left
   · simp only [Instr.indexAt, asIntOf, Sem.run_bind, Sem.run_pure, Result.andThen_ok, iP w' hU];rw [if_pos (show 0 ≤ i () ∧ i () < ((xs ()).length : Int) by omega)];simp only [l4 w' dU, bj, Result.andThen_ok, Sem.run_bind, Sem.run_pure, fe]
   · simp only [Nat.zero_add] at hj;have cL := bq hj;rw [iu] at cL
     have h2 : (i ()).toNat * E.sz + E.sz ≤ (xs ()).length * E.sz := by
      have := Nat.mul_le_mul_right E.sz (show (i ()).toNat + 1 ≤ (xs ()).length by omega);rw [Nat.add_mul] at this;omega
     exact ⟨by omega, hc _ _ hx j l hj⟩
theorem Mx {T : TypeId} {x y : V} {p q : Value} {K : V → Prop} (h : Bt tab σ.af T K x y) (hp : RV H ρ (av σ.af) x p) (hq : RV H ρ (av σ.af) y q) :
   ∃ v z, K v ∧ RV H ρ (av σ.af) v z ∧ ∀ w' : World, (Instr.indexAt T p q).run P w' = .ok z w' := by
 unfold Bt at h
 split at h
 · rename_i E xs k i;obtain ⟨rfl, hi⟩ := RL.of_int hq
   split at h
   · rename_i E' elem bytes ba
     split at h
     · rename_i hE;subst hE;exact FH (σ := σ) (ρ := ρ) hT ba h hp
     · cases h
   · cases h
 · rename_i k k' i;obtain ⟨rfl, hi⟩ := RL.of_int hq
   split at h
   · rename_i E' elem bytes E xs sQ ba hB
     split at h
     · rename_i hE;subst hE;obtain ⟨hU, ii, z, dU, bj, _⟩ := mP (cD hT ba);obtain ⟨⟨h0, h1⟩, hk⟩ := h;obtain ⟨hd, rfl⟩ := hp;have cU := um r hB;generalize hl : Lf.list E xs = l at cU;generalize hv : (ρ k).1 = v at cU;generalize hS : (ρ k).2 = S0 at cU;cases cU with
       | int => cases hl
       | bool => cases hl
       | str => cases hl
       | nil hn => cases hl; rw [hn] at h1; simp at h1; omega
       | @list _ _ b off c cs e fz S hb hf jR hm ho hc =>
         cases hl;refine ⟨_, .pointer (some ⟨b, off + (i ()).toNat * E.sz + 0, none⟩), hk, ⟨hd, _, _, _, _, hv, (show (i ()).toNat < (xs ()).length by omega), rfl⟩, fun w' => ?_⟩;simp only [Instr.indexAt, asIntOf, Sem.run_bind, Sem.run_pure, Result.andThen_ok, iP w' hU];rw [if_pos (show 0 ≤ i () ∧ i () < ((xs ()).length : Int) by omega)];simp only [l4 w' dU, bj, Result.andThen_ok, Sem.run_bind, Sem.run_pure, fe, Nat.add_zero]
     · cases h
   · rename_i E' elem bytes E xs _ _ ba hB
     split at h
     · rename_i hE;subst hE;obtain ⟨hU, ii, z, dU, bj, _⟩ := mP (cD hT ba);obtain ⟨⟨h0, h1⟩, hk⟩ := h;obtain ⟨hd, rfl⟩ := hp;obtain ⟨b, off, c, cs, e, fz, S, hv, _⟩ := r.b.af k _ (de hB);refine ⟨_, .pointer (some ⟨b, off + (i ()).toNat * E.sz + 0, none⟩), hk, ⟨hd, _, _, _, _, hv, (show (i ()).toNat < (xs ()).length by omega), rfl⟩, fun w' => ?_⟩;rw [hv];simp only [Instr.indexAt, asIntOf, Sem.run_bind, Sem.run_pure, Result.andThen_ok, iP w' hU];rw [if_pos (show 0 ≤ i () ∧ i () < ((xs ()).length : Int) by omega)];simp only [l4 w' dU, bj, Result.andThen_ok, Sem.run_bind, Sem.run_pure, fe, Nat.add_zero]
     · cases h
   · rename_i E' elem bytes E xs ba hB
     split at h
     · rename_i hE;subst hE;obtain ⟨hd, rfl⟩ := hp;exact FH (σ := σ) (ρ := ρ) hT ba h (r.b.af k _ (de hB)).1
     · cases h
   · cases h
 · cases h
omit hT r in
theorem uo {D : Nat → Prop} {x : Option Operand} {d t : Unit → Int} (h : pJ (x.map σ.ev) d = some t) (iQ : ∀ x, RV H ρ D (σ.ev x) (a.eval x)) :
   (x.map a.eval = none ∧ t = d) ∨ ∃ k, x.map a.eval = some (.int k (t ())) := by
 cases x with
 | none => simp only [Option.map_none, pJ, Option.some.injEq] at h; exact .inl ⟨rfl, h.symm⟩
 | some x =>
   have := iQ x;simp only [Option.map_some] at h ⊢;generalize σ.ev x = v at h this;unfold pJ at h
   split at h
   · cases ‹some v = none›
   · rename_i heq;cases heq;cases h;obtain ⟨h1, _⟩ := RL.of_int this;exact .inr ⟨_, by rw [h1]⟩
   · cases h
omit hT r in
theorem Bx {lo hi : Option Value} {l h len cap : Nat} (My : Bool) (w' : World) (hl : (lo = none ∧ l = 0) ∨ ∃ k, lo = some (.int k (l : Int))) (hh : (hi = none ∧ h = len) ∨ ∃ k, hi = some (.int k (h : Int)))
  (h1 : l ≤ h) (h2 : h ≤ cap) : (Instr.sliceBounds My len cap lo hi none).run P w' = .ok (l, h, cap) w' := by
 rcases hh with ⟨rfl, rfl⟩ | ⟨k, rfl⟩ <;> rcases hl with ⟨rfl, rfl⟩ | ⟨k', rfl⟩ <;>
  simp [Instr.sliceBounds, Instr.sliceBound, asIntOf, h1, h2]
omit hT in
theorem Mz {v : V} {p : Value} (h : RV H ρ (av σ.af) v p) : RV H ρ (av σ.af) (qC σ.af v) p := by
 unfold qC
 split
 · split
   · rename_i hB;obtain ⟨_, rfl⟩ := h;exact (r.b.af _ _ (de hB)).1
   · exact h
 · exact h
theorem MA {T : TypeId} {x : Operand} {lo hi mx : Option Operand} {K : V → Prop} (h : Bu tab T K (qC σ.af (σ.ev x)) (lo.map σ.ev) (hi.map σ.ev) (mx.map σ.ev)) :
   ∃ v z, K v ∧ RV H ρ (av σ.af) v z ∧ ∀ w' : World, (Instr.sliceAt T (a.eval x) (lo.map a.eval) (hi.map a.eval) (mx.map a.eval)).run P w' = .ok z w' := by
 have iQ := jQ r.e;have hx := Mz r (iQ x);unfold Bu at h;generalize hv : qC σ.af (σ.ev x) = v at h hx
 split at h
 · rename_i E xs uq;have By : mx = none := by cases mx <;> simp at uq ⊢
   subst By
   split at h
   · rename_i E' elem bytes l hh ba hl mU
     split at h
     · rename_i hE;subst hE;obtain ⟨hU, ii, z, dU, bj, _⟩ := mP (cD hT ba);obtain ⟨⟨o1, o2, o3⟩, hk⟩ := h;obtain ⟨b, c, hp, hm⟩ := RL.slice hx;obtain ⟨L, hL⟩ := Int.eq_ofNat_of_zero_le o1;obtain ⟨U, mW⟩ := Int.eq_ofNat_of_zero_le (show 0 ≤ hh () by omega)
       have e1 : (lo.map a.eval = none ∧ L = 0) ∨ ∃ k, lo.map a.eval = some (.int k (L : Int)) := by
         rcases uo hl iQ with ⟨h1, h2⟩ | ⟨k, h1⟩
         · refine .inl ⟨h1, ?_⟩; rw [h2] at hL; simp at hL; omega
         · exact .inr ⟨k, by rw [h1, hL]⟩
       have e2 : (hi.map a.eval = none ∧ U = (xs ()).length) ∨ ∃ k, hi.map a.eval = some (.int k (U : Int)) := by
         rcases uo mU iQ with ⟨h1, h2⟩ | ⟨k, h1⟩
         · refine .inl ⟨h1, ?_⟩; rw [h2] at mW; simp at mW; omega
         · exact .inr ⟨k, by rw [h1, mW]⟩
       have Bz : L ≤ U := by omega
       have MB : U ≤ (xs ()).length := by omega
       have hlen : (((xs ()).take U).drop L).length = U - L := by simp; omega
       have cM : ∀ (bb : Option Addr) (cc : Nat), (xs ()).length ≤ cc → ∀ w' : World, (Instr.sliceAt T (.slice bb (xs ()).length cc) (lo.map a.eval) (hi.map a.eval) (Option.map a.eval none)).run P w' =
           .ok (.slice (if cc = L then bb else bb.map (·.add (L * E.sz))) (U - L) (cc - L)) w' := fun bb cc yI w' => by
         simp only [Instr.sliceAt, Sem.run_bind, iP w' hU, Result.andThen_ok, Instr.slice, Option.map_none];rw [Bx true w' e1 e2 Bz (by omega)];simp only [Result.andThen_ok, l4 w' dU, bj, Sem.run_pure]
       have eL : (l ()).toNat = L := by omega
       have eU : (hh ()).toNat = U := by omega
       have sZ : RL H (.list E xs) (a.eval x) := hx;generalize hq : Lf.list E xs = lf at sZ;generalize U3 : a.eval x = p at sZ;cases sZ with
       | int => cases hq
       | bool => cases hq
       | str => cases hq
       | @nil _ _ aa cc hn =>
         cases hq;have h0 : (xs ()).length = 0 := by rw [hn]; rfl
         have yJ : U = 0 := by omega
         have U4 : L = 0 := by omega
         refine ⟨_, .slice (if cc = L then aa else aa.map (·.add (L * E.sz))) (U - L) (cc - L), hk, ?_, fun w' => ?_⟩;rotate_left
         · have := cM aa cc (by omega) w';rw [h0] at this;exact this
         · show RL H _ _;rw [yJ, Nat.zero_sub];exact RL.nil (by simp [hn])
       | @list _ _ bb off cc cs e fz hb jR wj ho hc =>
         cases hq;refine ⟨_, _, hk, ?_, fun w' => cM _ _ jR w'⟩;show RL H _ _
         by_cases aL : L < U
         · rw [if_neg (by omega)];simp only [Option.map_some, fe]
           have := RL.list (H := H) (E := E) (t := fun _ => ((xs ()).take (hh ()).toNat).drop (l ()).toNat) (b := bb) (off := off + L * E.sz) (c := cc - L) hb (by rw [eL, eU, hlen]; omega) (by rw [eL, eU, hlen]; omega)
            (by rw [eL, eU, hlen]; have := Nat.mul_le_mul_right E.sz (show L + (U - L) ≤ (xs ()).length by omega); rw [Nat.add_mul] at this; omega)
            (fun i x hi j l' hj => by
             simp only [eL, eU, List.getElem?_drop, List.getElem?_take] at hi
             split at hi
             · have := hc _ _ hi j l' hj;rw [Nat.add_mul] at this;rw [show off + L * E.sz + i * E.sz + j = off + (L * E.sz + i * E.sz) + j by omega];exact this
             · cases hi)
           rw [eL, eU, hlen] at this;rw [eL, eU];exact this
         · have : U - L = 0 := by omega
           rw [this];exact RL.nil (List.length_eq_zero_iff.1 (by rw [eL, eU, hlen]; exact this))
     · cases h
   · cases h
 · rename_i s uq;have By : mx = none := by cases mx <;> simp at uq ⊢
   subst By
   split at h
   · rename_i l hh ba hl mU;have hU := (mQ (cD hT ba)).1;obtain ⟨⟨o1, o2, o3⟩, hk⟩ := h;obtain ⟨hp, hm⟩ := RL.lz hx;obtain ⟨L, hL⟩ := Int.eq_ofNat_of_zero_le o1;obtain ⟨U, mW⟩ := Int.eq_ofNat_of_zero_le (show 0 ≤ hh () by omega)
     have e1 : (lo.map a.eval = none ∧ L = 0) ∨ ∃ k, lo.map a.eval = some (.int k (L : Int)) := by
       rcases uo hl iQ with ⟨h1, h2⟩ | ⟨k, h1⟩
       · refine .inl ⟨h1, ?_⟩; rw [h2] at hL; simp at hL; omega
       · exact .inr ⟨k, by rw [h1, hL]⟩
     have e2 : (hi.map a.eval = none ∧ U = (s ()).length) ∨ ∃ k, hi.map a.eval = some (.int k (U : Int)) := by
       rcases uo mU iQ with ⟨h1, h2⟩ | ⟨k, h1⟩
       · refine .inl ⟨h1, ?_⟩; rw [h2] at mW; simp at mW; omega
       · exact .inr ⟨k, by rw [h1, mW]⟩
     have eL : (l ()).toNat = L := by omega
     have eU : (hh ()).toNat = U := by omega
     refine ⟨_, _, hk, RL.str (t := fun _ => ((s ()).take (hh ()).toNat).drop (l ()).toNat) ?_, fun w' => ?_⟩
     · simp; omega
     · have BA : (ByteArray.mk (s ()).toArray).size = (s ()).length := rfl;rw [hp];simp only [Instr.sliceAt, Sem.run_bind, iP w' hU, Result.andThen_ok, Instr.slice, Option.map_none, Option.isSome_none, Bool.false_eq_true, if_false, BA, Sem.run_pure];rw [Bx false w' e1 e2 (by omega) (by omega)];simp only [Result.andThen_ok, eL, eU]
       congr 2
       apply ByteArray.ext;simp [ByteArray.data_extract, List.drop_take]
   · cases h
 · cases h
omit r in
theorem MC {T : TypeId} {x y : V} {p q : Value} {K : V → Prop} (h : Bv tab T K x y) (hp : RV H ρ (av σ.af) x p) (hq : RV H ρ (av σ.af) y q) :
   ∃ v z, K v ∧ RV H ρ (av σ.af) v z ∧ ∀ w' : World, (Instr.index T p q).run P w' = .ok z w' := by
 unfold Bv at h
 split at h
 · rename_i s k i
   split at h
   · rename_i ba;obtain ⟨hi, hk⟩ := h;obtain ⟨rfl, hm⟩ := RL.lz hp;obtain ⟨rfl, _⟩ := RL.of_int hq;have hU := (mQ (cD hT ba)).1;have aL : (i ()).toNat < (s ()).length := by omega
     refine ⟨_, .int .u8 (((s ()).getD (i ()).toNat 0).toNat : Int), hk, RL.int (t := fun _ => (((s ()).getD (i ()).toNat 0).toNat : Int)) (v_.2 ⟨by omega, by have := ((s ()).getD (i ()).toNat 0).toNat_lt; omega⟩), fun w' => ?_⟩
     have cT : (if 0 ≤ i () then (⟨(s ()).toArray⟩ : ByteArray)[(i ()).toNat]? else none) = some ((s ()).getD (i ()).toNat 0) := by
      rw [if_pos hi.1]
      have h1 : (i ()).toNat < (⟨(s ()).toArray⟩ : ByteArray).size := by
       show (i ()).toNat < (s ()).toArray.size;simpa using aL
      rw [getElem?_pos (⟨(s ()).toArray⟩ : ByteArray) (i ()).toNat h1]
      congr 1
      rw [List.getD_eq_getElem?_getD, List.getElem?_eq_getElem aL];rfl
     simp only [Instr.index, asIntOf, Sem.run_bind, Sem.run_pure, Result.andThen_ok, iP w' hU, cT]
   · cases h
 · cases h
theorem BB {o : Oper} {K : V → Prop} (h : Bw tab o σ K) :
   ∃ v y, K v ∧ RV H ρ (av σ.af) v y ∧ ∀ w', nP H ρ (qA o σ) w w' → (execOp a.eval o).run P w' = .ok (.value y) w' := by
 have ev := jQ r.e;unfold Bw at h
 split at h
 · rename_i v hv;obtain ⟨y, h1, h2⟩ := Mr hT r hv;exact ⟨v, y, h, h1, h2⟩
 · split at h
   · rename_i c x y aX;have hc := ev c
     split at h
     · rename_i t lC;rw [lC] at hc;have je := RL.of_bool hc;obtain ⟨hk⟩ := h;cases ht : t () with
       | true =>
         rw [ht] at hk je;exact ⟨_, _, hk, ev x, fun w' _ => by simp [execOp, aX, je, asBool]⟩
       | false =>
         rw [ht] at hk je;exact ⟨_, _, hk, ev y, fun w' _ => by simp [execOp, aX, je, asBool]⟩
     · cases h
   · rename_i op T x y yT aX;obtain ⟨v, z, hk, h1, h2⟩ := Mv (P := P) (T := T) (X := x) (Y := y) h (ev x) (ev y);refine ⟨v, z, hk, h1, fun w' _ => ?_⟩;simp only [execOp, aX];rw [Sem.run_bind, h2 w'];rfl
   · rename_i T x aX;obtain ⟨v, z, hk, h1, h2⟩ := Mw (P := P) h (ev x);exact ⟨v, z, hk, h1, fun w' _ => by simp [execOp, aX, h2 w']⟩
   · rename_i T x i aX;obtain ⟨v, z, hk, h1, h2⟩ := Mx hT r h (ev x) (ev i);exact ⟨v, z, hk, h1, fun w' _ => by simp [execOp, aX, h2 w']⟩
   · rename_i T x lo hi mx aX;obtain ⟨v, z, hk, h1, h2⟩ := MA hT r h;exact ⟨v, z, hk, h1, fun w' _ => by simp [execOp, aX, h2 w']⟩
   · rename_i T x i aX;obtain ⟨v, z, hk, h1, h2⟩ := MC hT h (ev x) (ev i);exact ⟨v, z, hk, h1, fun w' _ => by simp [execOp, aX, h2 w']⟩
   · cases h
end
def cX (ρ : aG) (k : Nat) (p : Value × (Nat → Nat)) : aG := fun j => if j = k then p else ρ j
theorem dG (ρ : aG) (k : Nat) (p : Value × (Nat → Nat)) : cX ρ k p k = p := by simp [cX]
theorem dg {ρ : aG} {k j : Nat} {p : Value × (Nat → Nat)} (h : j ≠ k) : cX ρ k p j = ρ j := by simp [cX, h]
theorem ky {α : Type} {l : Array α} {i : Nat} {x : α} (h : l[i]? = some x) : i < l.size := by
 rcases Nat.lt_or_ge i l.size with h' | h'
 · exact h'
 · rw [Array.getElem?_eq_none h'] at h; cases h
theorem cK.there {h : Array Obj} {H : Hp} {ρ : aG} {D : Nat → Prop} {B : ak} {p : Value × (Nat → Nat)} (hr : cK h H ρ D B p) : ∀ x, 0 < p.2 x → x < h.size := by
 intro x hx;cases B with
 | dead => simp only [cK] at hr; rw [hr] at hx; simp at hx
 | box cs =>
   obtain ⟨b, vs, e, fz, _, h2, h3, _⟩ := hr;rw [h2] at hx;simp only [one] at hx
   split at hx
   · rename_i hb; subst hb; exact ky h3
   · simp at hx
 | own E xs l => obtain ⟨cs, e, fz, h1⟩ := bn.there (h := h) hr x hx; exact ky h1
 | mp m =>
   obtain ⟨b, es, c, _, h2, h3, _⟩ := hr;rw [h2] at hx;simp only [one] at hx
   split at hx
   · rename_i hb; subst hb; exact ky h3
   · simp at hx
 | view E xs => rw [hr.2] at hx; simp at hx
 | b0 E xs i fs =>
   obtain ⟨b, o, c, cs, e, fz, S, h1, h2, h3, h4, h5, h6, h7, h8, h9⟩ := hr;rw [h2] at hx;rcases Fh hx with rfl | ⟨q, j, hq, hj, bw⟩
   · exact ky h3
   · obtain ⟨y, hy⟩ : ∃ y, (xs ())[q]? = some y := ⟨_, List.getElem?_eq_getElem hq⟩;obtain ⟨l, hl⟩ : ∃ l, (bQ E fun _ => y)[j]? = some l := ⟨_, List.getElem?_eq_getElem (by rw [iu]; exact hj)⟩;have iS := h9 q y hy j l hl
     split at iS
     · rw [iS.2.2] at bw; simp at bw
     · obtain ⟨cs, e, fz, BC⟩ := iS.there x bw;exact ky BC
theorem MD {ρ : aG} {bs : List (Nat × ak)} {x : Nat} (h : 0 < aS ρ bs x) : ∃ j A, (j, A) ∈ bs ∧ 0 < (ρ j).2 x := by
 induction bs with
 | nil => simp [aS] at h
 | cons q bs ih =>
   simp only [aS] at h
   by_cases h0 : 0 < (ρ q.1).2 x
   · exact ⟨q.1, q.2, List.mem_cons_self, h0⟩
   · obtain ⟨j, A, h2, h3⟩ := ih (by omega); exact ⟨j, A, List.mem_cons_of_mem _ h2, h3⟩
theorem aI.s6 {Γ : Ctx} {H : Hp} {ρ : aG} {σ : SS} {a : Act} {w w' : World} (r : aI Γ H ρ σ a w) {k : Nat} {B : ak} {p : Value × (Nat → Nat)} (hk : aM σ.af k = none)
   (ME : ∀ b o, H b = some o → w'.heap[b]? = w.heap[b]?) (hold : ∀ b, 0 < aS ρ σ.af b → w'.heap[b]? = w.heap[b]?) (bj : Ext w w') (ew : p.1.oneCell' = true)
   (dM : ∀ x, 0 < p.2 x → H x = none ∧ aS ρ σ.af x = 0) (hle : ∀ x, p.2 x ≤ 1)
   (hB : cK w'.heap H (cX ρ k p) (av (dx σ.af k B)) B p) (wo : B ≠ .dead) :
   aI Γ H (cX ρ k p) { σ with af := dx σ.af k B } a w' := by
 have gL := jw hk;have hne : ∀ j, av σ.af j → j ≠ k := fun j hj he => gL (he ▸ hj);have g : jO H H ρ (cX ρ k p) (av σ.af) (av (dx σ.af k B)) := ⟨fun _ _ h => h, fun j hj => ⟨gh.2 (.inr hj), by rw [dg (hne j hj)]⟩⟩;have cA : ∀ j A, (j, A) ∈ σ.af → av σ.af j := fun j A h => List.mem_map.2 ⟨_, h, rfl⟩;refine ⟨⟨?_, L_ r.b.nd gL, r.b.h0, ?_, ?_, ?_, ?_, ?_⟩, r.e.grow g, r.d, r.n.trans bj, ?_, ?_⟩
 · intro j hj;rcases gh.1 hj with rfl | hj
   · rw [dG]; exact ew
   · rw [dg (hne j hj)]; exact r.b.oc j hj
 · intro b o hb;rw [ME b o hb]; exact r.b.hh b o hb
 · intro j A hj;rcases v5.1 hj with h1 | h1
   · cases h1; rw [dG]; exact hB
   · rw [dg (hne j (cA j A h1))];exact (r.b.af j A h1).mono g fun b hb => hold b (Nat.lt_of_lt_of_le hb (mO h1 b))
 · intro x;rw [yr, dG, v7 (ρ := ρ) (ρ' := cX ρ k p) (fun j hj => dg (hne j hj))]
   by_cases hx : 0 < p.2 x
   · have h2 := (dM x hx).2;have := hle x;omega
   · have := r.b.sum x; omega
 · intro j A hj x hx;rcases v5.1 hj with h1 | h1
   · cases h1;rw [dG] at hx;have := (dM x hx).1;cases h0 : Γ.H0 x with
     | none => rfl
     | some o => rw [r.b.h0 x o h0] at this; cases this
   · rw [dg (hne j (cA j A h1))] at hx;exact r.b.fresh j A h1 x hx
 · intro j A hj x hx;rcases v5.1 hj with h1 | h1
   · cases h1;rw [dG] at hx;refine (dM x ?_).1;cases B with
     | dead => exact (wo rfl).elim
     | box cs => exact hx
     | view E xs => exact hx.elim
     | b0 E xs i fs => exact hx
     | mp m => exact hx
     | own E xs l =>
       cases l with
       | false => exact hx
       | true =>
         obtain ⟨o, n, c, h2⟩ := hx;have : bn w'.heap (.list E xs) p.1 p.2 := hB;rw [h2] at this;generalize hv : Value.slice (some ⟨x, o, none⟩) n c = v at this;generalize hS : p.2 = S at this;cases this with
         | nil => cases hv
         | list S' hb hf hl hm ho hc => cases hv; exact km _ _ _ _
   · rw [dg (hne j (cA j A h1))] at hx;exact r.b.ia j A h1 x hx
 · intro q hq;obtain ⟨h1, h2⟩ := r.hd q hq;exact ⟨gh.2 (.inr h1), by rw [dg (hne _ h1)]; exact h2⟩
 · intro q hq;obtain ⟨h1, h2⟩ := r.hm q hq;exact ⟨gh.2 (.inr h1), by rw [dg (hne _ h1)]; exact h2⟩
theorem aI.ur {Γ : Ctx} {H : Hp} {ρ : aG} {σ : SS} {a : Act} {w : World} (r : aI Γ H ρ σ a w) {x : Nat} (hx : w.heap.size ≤ x) : H x = none ∧ aS ρ σ.af x = 0 := by
 constructor
 · cases hH : H x with
   | none => rfl
   | some o => have := ky (r.b.hh x o hH); omega
 · rcases Nat.eq_zero_or_pos (aS ρ σ.af x) with h | h
   · exact h
   · obtain ⟨j, A, h3, h4⟩ := MD h;have := (r.b.af j A h3).there x h4;omega
theorem aI.lt {Γ : Ctx} {H : Hp} {ρ : aG} {σ : SS} {a : Act} {w : World} (r : aI Γ H ρ σ a w) {x : Nat} (h : 0 < aS ρ σ.af x) : x < w.heap.size := by
 rcases Nat.lt_or_ge x w.heap.size with h' | h'
 · exact h'
 · have := (r.ur h').2; omega
theorem aI.new {Γ : Ctx} {H : Hp} {ρ : aG} {σ : SS} {a : Act} {w w' : World} (r : aI Γ H ρ σ a w) {k : Nat} {B : ak} {p : Value × (Nat → Nat)} (hk : aM σ.af k = none)
  (hold : ∀ b, b < w.heap.size → w'.heap[b]? = w.heap[b]?) (bj : Ext w w') (ew : p.1.oneCell' = true) (dM : ∀ x, 0 < p.2 x → w.heap.size ≤ x) (hle : ∀ x, p.2 x ≤ 1)
  (hB : cK w'.heap H (cX ρ k p) (av (dx σ.af k B)) B p) (wo : B ≠ .dead) :
  aI Γ H (cX ρ k p) { σ with af := dx σ.af k B } a w' :=
 r.s6 hk (fun b o hb => hold b (ky (r.b.hh b o hb))) (fun b hb => hold b (r.lt hb)) bj ew (fun x hx => r.ur (dM x hx)) hle hB wo
theorem alloc_old (w : World) (o : Obj) : ∀ b, b < w.heap.size → (w.alloc o).heap[b]? = w.heap[b]? := fun b hb => by
 show (w.heap.push o)[b]? = w.heap[b]?;rw [Array.getElem?_push, if_neg (Nat.ne_of_lt hb)]
theorem uu (w : World) (o : Obj) : (w.alloc o).heap[w.heap.size]? = some o := by
 show (w.heap.push o)[w.heap.size]? = some o;simp
theorem s7 (w : World) (cs : Array Value) (e : TypeId) : Ext w (w.alloc (.cells cs e)) := by
 refine Ext.of (by simp) rfl rfl fun a => ?_;unfold World.frozen?;rcases Nat.lt_trichotomy a.block w.heap.size with h | h | h
 · rw [alloc_old w _ _ h]
 · rw [h, uu, Array.getElem?_eq_none (Nat.le_refl _)];simp
 · rw [Array.getElem?_eq_none (show w.heap.size ≤ a.block by omega), Array.getElem?_eq_none (by simp; omega)]
theorem FI {w w' : World} (h : ∀ b : Nat, w'.heap[b]? = w.heap[b]? ∨ ∃ es c, w'.heap[b]? = some (.map es c) ∧ (w.heap[b]? = none ∨ ∃ FJ c0, w.heap[b]? = some (.map FJ c0))) (a : Addr) : w'.frozen? a = w.frozen? a := by
 unfold World.frozen?;rcases h a.block with h1 | ⟨es, c, h1, h2⟩
 · rw [h1]
 · rw [h1];rcases h2 with h2 | ⟨FJ, c0, h2⟩ <;> rw [h2]
theorem MF (w : World) (es : Array MapEntry) (c : Nat) : Ext w (w.alloc (.map es c)) := by
 refine Ext.of (by simp) rfl rfl (FI fun b => ?_);rcases Nat.lt_trichotomy b w.heap.size with h | h | h
 · exact .inl (alloc_old w _ _ h)
 · subst h; exact .inr ⟨es, c, uu w _, .inl (Array.getElem?_eq_none (Nat.le_refl _))⟩
 · refine .inl ?_;rw [Array.getElem?_eq_none (show w.heap.size ≤ b by omega), Array.getElem?_eq_none (by simp; omega)]
theorem one_le (b x : Nat) : one b x ≤ 1 := by simp only [one]; split <;> omega
theorem one_pos {b x : Nat} (h : 0 < one b x) : x = b := by simp only [one] at h; split at h <;> first | assumption | omega
theorem mX (vs : Array Value) : NF vs (0, 0) := .inl (Nat.le_refl _)
theorem aI.FK {Γ : Ctx} {H : Hp} {ρ : aG} {σ : SS} {a : Act} {w : World} (r : aI Γ H ρ σ a w) {k : Nat} (hk : aM σ.af k = none) {cs : List C} {vs : Array Value} (e : TypeId)
  (hc : cW H ρ (av σ.af) cs vs) :
  ∃ ρ', aI Γ H ρ' { σ with af := dx σ.af k (.box cs) } a (w.alloc (.cells vs e)) ∧ (ρ' k).1 = .pointer (some ⟨w.heap.size, 0, none⟩) ∧ ∀ j, av σ.af j → ρ' j = ρ j := by
 have gL := jw hk;have hne : ∀ j, av σ.af j → j ≠ k := fun j hj he => gL (he ▸ hj);refine ⟨cX ρ k (.pointer (some ⟨w.heap.size, 0, none⟩), one w.heap.size), ?_, by rw [dG], fun j hj => dg (hne j hj)⟩;refine r.new hk (alloc_old w _) (s7 w _ _) rfl (fun x hx => by rw [one_pos hx]; exact Nat.le_refl _) (one_le _) ?_ (by simp);exact ⟨w.heap.size, vs, e, (0, 0), rfl, rfl, uu w _, mX _, hc.grow ⟨fun _ _ h => h, fun j hj => ⟨gh.2 (.inr hj), by rw [dg (hne j hj)]⟩⟩⟩
theorem aI.MG {Γ : Ctx} {H : Hp} {ρ : aG} {σ : SS} {a : Act} {w : World} (r : aI Γ H ρ σ a w) {k : Nat} (hk : aM σ.af k = none) :
  ∃ ρ', aI Γ H ρ' { σ with af := dx σ.af k (.mp fun _ => []) } a (w.alloc (.map #[] 0)) ∧ (ρ' k).1 = .map (some w.heap.size) := by
 refine ⟨cX ρ k (.map (some w.heap.size), one w.heap.size), ?_, by rw [dG]⟩;refine r.new hk (alloc_old w _) (MF w _ _) rfl (fun x hx => by rw [one_pos hx]; exact Nat.le_refl _) (one_le _) ?_ (by simp);exact ⟨w.heap.size, #[], 0, rfl, rfl, uu w _, ⟨rfl, Nat.zero_le _, fun p hp => by cases hp⟩⟩
def Cp.dq (m : Nat → Nat) : Cp → Cp
 | .ptr k off => .ptr (m k) off
 | .el E x off => .el E x off
 | .bZ ls off => .bZ ls off
def C.dq (m : Nat → Nat) : C → C
 | .own k => .own (m k)
 | .ptr k off => .ptr (m k) off
 | .fq k E i off => .fq (m k) E i off
 | .fn f l => .fn f (l.map (Cp.dq m))
 | c => c
def kz (m : Nat → Nat) : List C → List C
 | [] => []
 | c :: cs => c.dq m :: kz m cs
def qD (m : Nat → Nat) : List (Bool × List C) → List (Bool × List C)
 | [] => []
 | p :: ps => (p.1, kz m p.2) :: qD m ps
def V.dq (m : Nat → Nat) : V → V
 | .c x => .c (x.dq m)
 | .agg cs => .agg (kz m cs)
 | .bc ps => .bc (qD m ps)
theorem uv {m : Nat → Nat} : ∀ {cs : List C} {j : Nat} {c : C}, (kz m cs)[j]? = some c → ∃ c0, cs[j]? = some c0 ∧ c = c0.dq m
 | [], j, c, h => by simp [kz] at h
 | c0 :: cs, 0, c, h => by simp [kz] at h; exact ⟨c0, rfl, h.symm⟩
 | c0 :: cs, j + 1, c, h => by simp only [kz, List.getElem?_cons_succ] at h ⊢; exact uv h
theorem uw {m : Nat → Nat} : ∀ {cs : List C}, (kz m cs).length = cs.length
 | [] => rfl
 | c :: cs => by simp [kz, uw (cs := cs)]
theorem BD {m : Nat → Nat} : ∀ {cs : List (Bool × List C)} {j : Nat} {p : Bool × List C}, (qD m cs)[j]? = some p → ∃ p0, cs[j]? = some p0 ∧ p = (p0.1, kz m p0.2)
 | [], j, p, h => by simp [qD] at h
 | p0 :: cs, 0, p, h => by simp [qD] at h; exact ⟨p0, rfl, h.symm⟩
 | p0 :: cs, j + 1, p, h => by simp only [qD, List.getElem?_cons_succ] at h ⊢; exact BD h
theorem BE {m : Nat → Nat} : ∀ {cs : List (Bool × List C)}, (qD m cs).length = cs.length
 | [] => rfl
 | c :: cs => by simp [qD, BE (cs := cs)]
section
variable {H : Hp} {ρ ρ' : aG} {D D' : Nat → Prop} {m : Nat → Nat} (hm : ∀ k, D k → D' (m k) ∧ (ρ' (m k)).1 = (ρ k).1)
include hm
theorem dX.dq {c : Cp} {v : Value} (h : dX H ρ D c v) : dX H ρ' D' (c.dq m) v := by
 cases c with
 | ptr k off => obtain ⟨hk, b, h1, h2⟩ := h; exact ⟨(hm k hk).1, b, by rw [(hm k hk).2]; exact h1, h2⟩
 | el E x off => exact h
 | bZ ls off => exact h
theorem RC.dq {c : C} {v : Value} (h : RC H ρ D c v) : RC H ρ' D' (c.dq m) v := by
 cases c with
 | lf l => exact h
 | bl b => exact h
 | nil => exact h
 | own k => obtain ⟨hk, h1⟩ := h; exact ⟨(hm k hk).1, by rw [(hm k hk).2]; exact h1⟩
 | ptr k off => exact dX.dq (H := H) hm (c := .ptr k off) h
 | el E x off => exact dX.dq (H := H) hm (c := .el E x off) h
 | bZ ls off => exact dX.dq (H := H) hm (c := .bZ ls off) h
 | fq k E i off => obtain ⟨hk, b, o, n, c, h1, h2⟩ := h; exact ⟨(hm k hk).1, b, o, n, c, by rw [(hm k hk).2]; exact h1, h2⟩
 | fn f ly =>
   obtain ⟨vs, h1, h2, h3⟩ := h;refine ⟨vs, h1, by simpa using h2, fun j c hj => ?_⟩;rw [List.getElem?_map, Option.map_eq_some_iff] at hj;obtain ⟨c0, hj, rfl⟩ := hj;exact (h3 j c0 hj).dq hm
 | undef => trivial
theorem cW.dq {cs : List C} {vs : Array Value} (h : cW H ρ D cs vs) : cW H ρ' D' (kz m cs) vs := by
 refine ⟨by rw [uw]; exact h.1, fun j c hj => ?_⟩;obtain ⟨c0, h1, rfl⟩ := uv hj;exact (h.2 j c0 h1).dq hm
theorem RV.dq {c : V} {v : Value} (h : RV H ρ D c v) : RV H ρ' D' (c.dq m) v := by
 cases c with
 | c x => exact RC.dq hm h
 | agg cs => obtain ⟨vs, h1, h2⟩ := h; exact ⟨vs, h1, h2.dq hm⟩
 | bc cs =>
   obtain ⟨vs, h1, h2, h3⟩ := h;refine ⟨vs, h1, by rw [BE]; exact h2, fun j p hj => ?_⟩;obtain ⟨p0, h4, rfl⟩ := BD hj;have := h3 j p0 h4;obtain ⟨b, l⟩ := p0;cases b with
   | true => obtain ⟨us, h5, h6⟩ := this; exact ⟨us, h5, h6.dq hm⟩
   | false => obtain ⟨c, h5, h6⟩ := this; simp only at h5; subst h5; exact ⟨_, rfl, h6.dq hm⟩
end
def C.cl : C → Bool
 | .lf (.list _ _) => false
 | .el _ _ _ => false
 | .bZ _ _ => false
 | .fn _ _ => false
 | .fq _ _ _ _ => false
 | _ => true
def V.cl : V → Bool
 | .c x => x.cl
 | .agg cs => cs.all C.cl
 | .bc ps => ps.all fun p => p.2.all C.cl
theorem RC.cl {H H' : Hp} {ρ : aG} {D : Nat → Prop} {c : C} {v : Value} (h : RC H ρ D c v) (hc : c.cl = true) : RC H' ρ D c v := by
 cases c with
 | lf l =>
   cases l with
   | list E t => simp [C.cl] at hc
   | int k t => obtain ⟨rfl, h1⟩ := RL.of_int h; exact RL.int h1
   | bool t => have := RL.of_bool h; subst this; exact RL.bool
   | str t => obtain ⟨rfl, h1⟩ := RL.lz h; exact RL.str h1
 | bl b => exact h
 | nil => exact h
 | own k => exact h
 | undef => trivial
 | ptr k off => exact h
 | el E x off => simp [C.cl] at hc
 | bZ ls off => simp [C.cl] at hc
 | fq k E i off => simp [C.cl] at hc
 | fn f l => simp [C.cl] at hc
theorem cW.cl {H H' : Hp} {ρ : aG} {D : Nat → Prop} {cs : List C} {vs : Array Value} (h : cW H ρ D cs vs) (hc : cs.all C.cl = true) : cW H' ρ D cs vs :=
 ⟨h.1, fun j c hj => (h.2 j c hj).cl (List.all_eq_true.1 hc c (List.mem_of_getElem? hj))⟩
theorem RV.cl {H H' : Hp} {ρ : aG} {D : Nat → Prop} {c : V} {v : Value} (h : RV H ρ D c v) (hc : c.cl = true) : RV H' ρ D c v := by
 cases c with
 | c x => exact RC.cl h hc
 | agg cs => obtain ⟨vs, h1, h2⟩ := h; exact ⟨vs, h1, h2.cl hc⟩
 | bc cs =>
   obtain ⟨vs, h1, h2, h3⟩ := h;refine ⟨vs, h1, h2, fun j p hj => ?_⟩;have h4 := h3 j p hj;have h5 := List.all_eq_true.1 hc p (List.mem_of_getElem? hj);obtain ⟨b, l⟩ := p;cases b with
   | true => obtain ⟨us, h6, h7⟩ := h4; exact ⟨us, h6, h7.cl h5⟩
   | false => obtain ⟨c, h6, h7⟩ := h4; simp only at h6; subst h6; exact ⟨c, rfl, h7.cl (by simpa using h5)⟩
def ownB : ak → Bool
 | .own _ _ _ => true
 | _ => false
def fK : Hp := fun _ => none
def args (H : Hp) (ρ : aG) (D : Nat → Prop) (cs : List V) (vs : Array Value) : Prop :=
 vs.size = cs.length ∧ ∀ j c, cs[j]? = some c → RV H ρ D c (vs.getD j Go.undef)
def num : Nat → List ak → List (Nat × ak)
 | _, [] => []
 | j, B :: Bs => (j, B) :: num (j + 1) Bs
def BF (P : Program) (f : FuncId) : Prop := ∃ fn, P.funcs[f]? = some fn ∧ (fn.name == "runtime.NumGoroutine") = false ∧ fn.body.isNone = false
def Spec (P : Program) (f : FuncId) (as : List V) (post : V → List ak → Prop) : Prop :=
 BF P f ∧ ∀ (w : World) (vs : Array Value), args (fun b => w.heap[b]?) (fun _ => default) (fun _ => False) as vs →
  Calls P f vs w fun e w' => ∃ v r nb H' ρ', e = .returned v ∧ post r nb ∧ nb.all ownB = true ∧ gf w'.heap (fun b => w.heap[b]?) H' ρ' (num 0 nb) ∧ RV fK ρ' (av (num 0 nb)) r v ∧ Ext w w'
def fC (w : World) (S : Nat → Nat) : Hp := fun b => if S b = 0 then w.heap[b]? else none
def bE (P : Program) (f : FuncId) (as : List V) (bs : List (Nat × ak)) (post : V → List (Nat × ak) → Prop) : Prop :=
 BF P f ∧ ∀ (w : World) (vs : Array Value) (ρ : aG), gf w.heap (fC w (aS ρ bs)) (fC w (aS ρ bs)) ρ bs → args (fC w (aS ρ bs)) ρ (av bs) as vs →
  Calls P f vs w fun e w' => ∃ v r cd H' ρ', e = .returned v ∧ post r cd ∧ gf w'.heap (fC w (aS ρ bs)) H' ρ' cd ∧ RV fK ρ' (av cd) r v ∧ Ext w w' ∧ ∀ k, av cd k → av bs k → (ρ' k).1 = (ρ k).1
def ux : C → List Nat
 | .own k => [k]
 | .ptr k _ => [k]
 | _ => []
def pK : List C → List Nat
 | [] => []
 | c :: cs => ux c ++ pK cs
def yK : List (Bool × List C) → List Nat
 | [] => []
 | p :: ps => pK p.2 ++ yK ps
def fg : V → List Nat
 | .c x => ux x
 | .agg cs => pK cs
 | .bc ps => yK ps
def place : List Nat → Nat → Nat
 | [], _ => 0
 | x :: xs, k => if x = k then 0 else place xs k + 1
def eQ : List Nat → Bool
 | [] => true
 | x :: xs => !xs.contains x && eQ xs
def wq (bs : List (Nat × ak)) : List Nat → Option (List ak)
 | [] => some []
 | k :: ks => match aM bs k, wq bs ks with
   | some (.own E xs _), some r => some (.own E xs false :: r)
   | _, _ => none
def gk (bs : List (Nat × ak)) : List Nat → Bool
 | [] => true
 | k :: ks => (match aM bs k with | some (.own _ _ false) => true | _ => false) && gk bs ks
def wu (tab : bf) (σ : SS) : ResultVar → Option V
 | .tmp t => some (σ.env.getD t (.c .undef))
 | .cell t ty => ui tab σ.af ty (σ.env.getD t (.c .undef))
def wv : V → Option (Bool × List C)
 | .c x => some (false, [x])
 | .agg cs => some (true, cs)
 | .bc _ => none
def qE (tab : bf) (σ : SS) : List ResultVar → Option (List (Bool × List C))
 | [] => some []
 | x :: xs => match wu tab σ x, qE tab σ xs with
   | some v, some r => (match wv v with | some p => some (p :: r) | none => none)
   | _, _ => none
def uy (tab : bf) (σ : SS) : List ResultVar → Option V
 | [x] => wu tab σ x
 | xs => match qE tab σ xs with | some l => some (.bc l) | none => none
def fin (tab : bf) (rs : List ResultVar) (post : V → List ak → Prop) (σ : SS) : Prop :=
 match uy tab σ rs with
 | some r =>
   match wq σ.af (fg r) with
   | some nb => if eQ (fg r) = true ∧ gk σ.af (fg r) = true ∧ r.cl = true then post (r.dq (place (fg r))) nb else False
   | none => False
 | none => False
def uz : List (Nat × ak) → Nat → List (Nat × ak)
 | [], _ => []
 | p :: r, k => if p.1 = k then r else p :: uz r k
theorem FL {ρ : aG} {bs : List (Nat × ak)} {k : Nat} (hk : av bs k) (x : Nat) : aS ρ bs x = (ρ k).2 x + aS ρ (uz bs k) x := by
 induction bs with
 | nil => simp [av] at hk
 | cons p r ih =>
   simp only [uz, aS]
   split
   · rename_i h; subst h; rfl
   · rename_i h
     have bD : av r k := by
      simp only [av, List.map_cons, List.mem_cons] at hk;rcases hk with hk | hk
      · exact absurd hk.symm h
      · exact hk
     rw [ih bD]; simp only [aS]; omega
theorem FM {bs : List (Nat × ak)} {k j : Nat} (hj : av bs j) (hne : j ≠ k) : av (uz bs k) j := by
 induction bs with
 | nil => simp [av] at hj
 | cons p r ih =>
   simp only [av, List.map_cons, List.mem_cons] at hj;simp only [uz]
   split
   · rename_i h;rcases hj with hj | hj
     · exact absurd (hj.trans h) hne
     · exact hj
   · rcases hj with hj | hj
     · simp only [av, List.map_cons, List.mem_cons]; exact .inl hj
     · simp only [av, List.map_cons, List.mem_cons]; exact .inr (ih hj)
def bN (ρ : aG) : List Nat → Nat → Nat
 | [], _ => 0
 | k :: ks, x => (ρ k).2 x + bN ρ ks x
theorem wx {k : Nat} {ks : List Nat} (h : eQ (k :: ks) = true) : k ∉ ks ∧ eQ ks = true := by
 simpa [eQ] using h
theorem l5 {ρ : aG} : ∀ (ks : List Nat) {bs : List (Nat × ak)}, eQ ks = true → (∀ k ∈ ks, av bs k) → ∀ x, bN ρ ks x ≤ aS ρ bs x
 | [], _, _, _, _ => Nat.zero_le _
 | k :: ks, bs, hn, hd, x => by
   obtain ⟨h1, h2⟩ := wx hn;have := l5 (ρ := ρ) ks (bs := uz bs k) h2 (fun j hj => FM (hd j (List.mem_cons_of_mem _ hj)) fun he => h1 (he ▸ hj)) x;rw [FL (hd k List.mem_cons_self)];simp only [bN]; omega
theorem qF {j k : Nat} {B : ak} {nb : List ak} : (k, B) ∈ num j nb ↔ j ≤ k ∧ nb[k - j]? = some B := by
 induction nb generalizing j with
 | nil => simp [num]
 | cons A nb ih =>
   simp only [num, List.mem_cons, ih, Prod.mk.injEq]
   constructor
   · rintro (⟨rfl, rfl⟩ | ⟨h1, h2⟩)
     · simp
     · refine ⟨by omega, ?_⟩;rw [show k - j = (k - (j + 1)) + 1 by omega];simpa using h2
   · rintro ⟨h1, h2⟩
     rcases Nat.eq_or_lt_of_le h1 with rfl | h
     · simp at h2; exact .inl ⟨rfl, h2.symm⟩
     · refine .inr ⟨by omega, ?_⟩;rw [show k - j = (k - (j + 1)) + 1 by omega] at h2;simpa using h2
theorem nU {j k : Nat} {nb : List ak} : av (num j nb) k ↔ j ≤ k ∧ k < j + nb.length := by
 simp only [av, List.mem_map]
 constructor
 · rintro ⟨⟨k', B⟩, h, rfl⟩
   obtain ⟨h1, h2⟩ := qF.1 h;have := bq h2;exact ⟨h1, by simp only; omega⟩
 · rintro ⟨h1, h2⟩
   exact ⟨(k, nb[k - j]'(by omega)), qF.2 ⟨h1, List.getElem?_eq_getElem (by omega)⟩, rfl⟩
theorem BG {j : Nat} {nb : List ak} : ((num j nb).map (·.1)).Nodup := by
 induction nb generalizing j with
 | nil => simp [num]
 | cons B nb ih =>
   simp only [num, List.map_cons, List.nodup_cons];refine ⟨fun h => ?_, ih⟩;have : av (num (j + 1) nb) j := h;have := nU.1 this;omega
theorem FN : ∀ {ks : List Nat} {bs : List (Nat × ak)} {nb : List ak}, wq bs ks = some nb → nb.length = ks.length ∧ ∀ (j : Nat) B, nb[j]? = some B → ∃ k E xs l, ks[j]? = some k ∧ B = .own E xs false ∧ aM bs k = some (.own E xs l)
 | [], bs, nb, h => by simp only [wq, Option.some.injEq] at h; subst h; exact ⟨rfl, fun j B hj => by simp at hj⟩
 | k :: ks, bs, nb, h => by
   simp only [wq] at h
   split at h
   · rename_i E xs l r hk hr;cases h;obtain ⟨h1, h2⟩ := FN hr;refine ⟨by simp [h1], fun j B hj => ?_⟩;cases j with
     | zero => simp at hj; exact ⟨k, E, xs, l, rfl, hj.symm, hk⟩
     | succ j => exact h2 j B (by simpa using hj)
   · cases h
theorem BH {ρ ρ' : aG} {x : Nat} : ∀ {ks : List Nat} {nb : List ak} {j : Nat}, nb.length = ks.length → (∀ (i k : Nat), ks[i]? = some k → ρ' (j + i) = ρ k) → aS ρ' (num j nb) x = bN ρ ks x
 | [], nb, j, h, _ => by
   have : nb = [] := by simpa using h
   subst this; rfl
 | k :: ks, nb, j, h, hk => by
   cases nb with
   | nil => simp at h
   | cons B nb =>
     simp only [num, aS, bN];rw [show ρ' j = ρ k from hk 0 k rfl]
     rw [BH (ρ := ρ) (ks := ks) (by simpa using h) fun i k' hi => by
      have := hk (i + 1) k' (by simpa using hi);rw [← this]; congr 1; omega]
theorem BI : ∀ {ks : List Nat} {k : Nat}, k ∈ ks → ks[place ks k]? = some k
 | x :: xs, k, h => by
   simp only [place]
   split
   · rename_i hx; subst hx; rfl
   · rename_i hx;cases h with
     | head => exact (hx rfl).elim
     | tail _ h => simpa using BI h
theorem MH {ps : List (Bool × List C)} {p : Bool × List C} {k : Nat} (h : p ∈ ps) (hk : k ∈ pK p.2) : k ∈ yK ps := by
 induction ps with
 | nil => cases h
 | cons q ps ih =>
   simp only [yK, List.mem_append];cases h with
   | head => exact .inl hk
   | tail _ h => exact .inr (ih h)
section
variable {H H' : Hp} {ρ ρ' : aG} {D D' : Nat → Prop} {m : Nat → Nat}
theorem RC.qG {c : C} {v : Value} (h : RC H ρ D c v) (hc : c.cl = true) (hm : ∀ k ∈ ux c, D' (m k) ∧ (ρ' (m k)).1 = (ρ k).1) : RC H' ρ' D' (c.dq m) v := by
 cases c with
 | own k =>
   obtain ⟨_, h1⟩ := h;have := hm k (by simp [ux]);exact ⟨this.1, by rw [this.2]; exact h1⟩
 | lf l => exact RC.cl (D := D') (ρ := ρ') (c := .lf l) h hc
 | bl b => exact h
 | nil => exact h
 | undef => trivial
 | ptr k off =>
   obtain ⟨_, b, h1, h2⟩ := h;have := hm k (by simp [ux]);exact ⟨this.1, b, by rw [this.2]; exact h1, h2⟩
 | el E x off => simp [C.cl] at hc
 | bZ ls off => simp [C.cl] at hc
 | fq k E i off => simp [C.cl] at hc
 | fn f l => simp [C.cl] at hc
theorem MI {cs : List C} {c : C} (h : c ∈ cs) : ∀ k ∈ ux c, k ∈ pK cs := by
 intro k hk
 induction cs with
 | nil => cases h
 | cons d cs ih =>
   simp only [pK, List.mem_append];cases h with
   | head => exact .inl hk
   | tail _ h => exact .inr (ih h)
theorem cW.qG {cs : List C} {vs : Array Value} (h : cW H ρ D cs vs) (hc : cs.all C.cl = true) (hm : ∀ k ∈ pK cs, D' (m k) ∧ (ρ' (m k)).1 = (ρ k).1) : cW H' ρ' D' (kz m cs) vs := by
 refine ⟨by rw [uw]; exact h.1, fun j c hj => ?_⟩;obtain ⟨c0, h1, rfl⟩ := uv hj;have cA := List.mem_of_getElem? h1;exact (h.2 j c0 h1).qG (List.all_eq_true.1 hc _ cA) fun k hk => hm k (MI cA k hk)
theorem RV.qG {c : V} {v : Value} (h : RV H ρ D c v) (hc : c.cl = true) (hm : ∀ k ∈ fg c, D' (m k) ∧ (ρ' (m k)).1 = (ρ k).1) : RV H' ρ' D' (c.dq m) v := by
 cases c with
 | c x => exact RC.qG h hc hm
 | agg cs => obtain ⟨vs, h1, h2⟩ := h; exact ⟨vs, h1, h2.qG hc hm⟩
 | bc cs =>
   obtain ⟨vs, h1, h2, h3⟩ := h;refine ⟨vs, h1, by rw [BE]; exact h2, fun j p hj => ?_⟩;obtain ⟨p0, h4, rfl⟩ := BD hj;have cA := List.mem_of_getElem? h4;have := h3 j p0 h4;have fh := List.all_eq_true.1 hc p0 cA;have wj : ∀ k ∈ pK p0.2, D' (m k) ∧ (ρ' (m k)).1 = (ρ k).1 := fun k hk => hm k (MH cA hk);obtain ⟨b, l⟩ := p0;cases b with
   | true => obtain ⟨us, h5, h6⟩ := this; exact ⟨us, h5, h6.qG fh wj⟩
   | false =>
     obtain ⟨c, h5, h6⟩ := this;simp only at h5; subst h5;exact ⟨_, rfl, h6.qG (by simpa using fh) fun k hk => wj k (by simpa [pK] using hk)⟩
end
def uB (tmps : Array Value) : ResultVar → Sem Value
 | .tmp t => pure (tmps.getD t Go.undef)
 | .cell t ty => do loadVar ty (← asAddr (tmps.getD t Go.undef))
section
variable {P : Program} {tab : bf} (hT : fw P tab = true) {Γ : Ctx} {H : Hp} {ρ : aG} {σ : SS} {a : Act} {w : World} (r : aI Γ H ρ σ a w)
include hT r
omit hT in
theorem wy (t : Nat) : RV H ρ (av σ.af) (σ.env.getD t (.c .undef)) (a.tmps.getD t Go.undef) := by
 have := jQ r.e (.tmp t);exact this
theorem FO {x : ResultVar} {v : V} (h : wu tab σ x = some v) : ∃ y, RV H ρ (av σ.af) v y ∧ (uB a.tmps x).run P w = .ok y w := by
 cases x with
 | tmp t => simp only [wu, Option.some.injEq] at h; subst h; exact ⟨_, wy r t, rfl⟩
 | cell t ty =>
   simp only [wu] at h;obtain ⟨y, h1, h2⟩ := Fs hT r h (wy r t);refine ⟨y, h1, ?_⟩;have h3 := h2 w (nP.refl r _);have hp := wy r t;simp only [Instr.loadAt, Sem.run_bind] at h3;simp only [uB, Sem.run_bind];generalize hq : a.tmps.getD t Go.undef = q at *
   have : ∃ ad, q = .pointer (some ad) := by
    generalize σ.env.getD t (.c .undef) = c at h hp;unfold ui at h
    split at h
    · obtain ⟨_, b, _, rfl⟩ := hp; exact ⟨_, rfl⟩
    · obtain ⟨b, o, cs, e, fz, _, rfl, _⟩ := hp; exact ⟨_, rfl⟩
    · obtain ⟨b, o, cs, e, fz, _, rfl, _⟩ := hp; exact ⟨_, rfl⟩
    · obtain ⟨_, b, o, n, c, _, _, rfl⟩ := hp; exact ⟨_, rfl⟩
    · cases h
   obtain ⟨ad, rfl⟩ := this;exact h3
omit hT r in
theorem MJ {v : V} {y : Value} {p : Bool × List C} (h : wv v = some p) (hv : RV H ρ (av σ.af) v y) : RT H ρ (av σ.af) p y := by
 cases v with
 | c x => simp only [wv, Option.some.injEq] at h; subst h; exact ⟨x, rfl, hv⟩
 | agg cs => simp only [wv, Option.some.injEq] at h; subst h; exact hv
 | bc cs => simp [wv] at h
theorem FP : ∀ {rs : List ResultVar} {l : List (Bool × List C)}, qE tab σ rs = some l → ∃ vs : List Value,
     (rs.mapM (uB a.tmps)).run P w = .ok vs w ∧ vs.length = l.length ∧ ∀ (j : Nat) p, l[j]? = some p → RT H ρ (av σ.af) p (vs.toArray.getD j Go.undef)
 | [], l, h => by
   simp only [qE, Option.some.injEq] at h; subst h;exact ⟨[], by simp, rfl, fun j p hj => by simp at hj⟩
 | x :: rs, l, h => by
   simp only [qE] at h
   split at h
   · rename_i v l' hv hl
     split at h
     · rename_i p hp;cases h;obtain ⟨y, h1, h2⟩ := FO hT r hv;obtain ⟨vs, h3, h4, h5⟩ := FP hl;refine ⟨y :: vs, by rw [List.mapM_cons, Sem.run_bind, h2, Result.andThen_ok, Sem.run_bind, h3]; rfl, by simp [h4], fun j q hj => ?_⟩;cases j with
       | zero => simp at hj; subst hj; simpa using MJ hp h1
       | succ j => simpa using h5 j q (by simpa using hj)
     · cases h
   · cases h
omit hT r in
theorem FQ (fn : Func) (tmps : Array Value) : (results fn tmps).run P w = ((fn.results.toList.mapM (uB tmps)).run P w).andThen fun vs w' => .ok (if h : vs.length = 1 then vs[0] else .tuple vs.toArray) w' := by
 have e : results fn tmps = (do let vs ← fn.results.mapM (uB tmps); pure (if h : vs.size = 1 then vs[0] else .tuple vs)) := rfl;rw [e, Sem.run_bind, Array.mapM_eq_mapM_toList, Sem.run_map];cases (fn.results.toList.mapM (uB tmps)).run P w with
 | ok vs w' => simp
 | halt h w' => rfl
theorem yL {fn : Func} {v : V} (h : uy tab σ fn.results.toList = some v) : ∃ y, RV H ρ (av σ.af) v y ∧ (results fn a.tmps).run P w = .ok y w := by
 unfold uy at h
 split at h
 · rename_i x hx;obtain ⟨y, h1, h2⟩ := FO hT r h;refine ⟨y, h1, ?_⟩;rw [FQ, hx, List.mapM_cons, Sem.run_bind, h2];simp
 · rename_i hne
   split at h
   · rename_i l hl;cases h;obtain ⟨vs, h1, h2, h3⟩ := FP hT r hl;refine ⟨.tuple vs.toArray, ⟨vs.toArray, rfl, by simpa using h2, h3⟩, ?_⟩;rw [FQ, h1]
     have : vs.length ≠ 1 := by
      intro h4
      have h5 : fn.results.toList.length = 1 := by
       have : ∀ (rs : List ResultVar) l, qE tab σ rs = some l → l.length = rs.length := by
        intro rs
        induction rs with
        | nil => intro l h; simp only [qE, Option.some.injEq] at h; subst h; rfl
        | cons x rs ih =>
          intro l h;simp only [qE] at h
          split at h
          · split at h
            · cases h; simp [ih _ ‹_›]
            · cases h
          · cases h
       rw [← this _ _ hl, ← h2, h4]
      obtain ⟨x, hx⟩ := List.length_eq_one_iff.1 h5;exact hne x hx
     simp [this]
   · cases h
theorem MK {fn : Func} {post : V → List ak → Prop} (h : fin tab fn.results.toList post σ) :
   ∃ v, (results fn a.tmps).run P w = .ok v w ∧ ∃ rv nb H' ρ', post rv nb ∧ nb.all ownB = true ∧ gf w.heap Γ.H0 H' ρ' (num 0 nb) ∧ RV fK ρ' (av (num 0 nb)) rv v := by
 unfold fin at h
 split at h
 · rename_i rv s8
   split at h
   · rename_i nb BJ
     split at h
     · rename_i hc;obtain ⟨fW, BK, fh⟩ := hc;obtain ⟨v, h1, h2⟩ := yL hT r s8;obtain ⟨hlen, cT⟩ := FN BJ
       have nV : ∀ (j : Nat) B, nb[j]? = some B → ∃ k, (fg rv)[j]? = some k ∧ (k, B) ∈ σ.af ∧ ∃ E xs, B = .own E xs false := by
         intro j B hj;obtain ⟨k, E, xs, l, h3, rfl, h4⟩ := cT j B hj
         have : l = false := by
          have : ∀ ks, gk σ.af ks = true → ∀ k ∈ ks, ∀ E xs l, aM σ.af k = some (.own E xs l) → l = false := by
           intro ks
           induction ks with
           | nil => intro _ k hk; cases hk
           | cons x ks ih =>
             intro hu k hk E xs l hg;simp only [gk, Bool.and_eq_true] at hu;cases hk with
             | head => rw [hg] at hu; cases l <;> simp at hu ⊢
             | tail _ hk => exact ih hu.2 k hk E xs l hg
          exact this _ BK k (List.mem_of_getElem? h3) E xs l h4
         subst this;exact ⟨k, h3, de h4, E, xs, rfl⟩
       have kN : ∀ k ∈ fg rv, av σ.af k := by
         intro k hk;obtain ⟨j, hj, gW⟩ := List.getElem_of_mem hk;obtain ⟨B, hB⟩ : ∃ B, nb[j]? = some B := ⟨_, List.getElem?_eq_getElem (by omega)⟩;obtain ⟨k', h3, h4, _⟩ := nV j B hB;rw [List.getElem?_eq_getElem hj, gW] at h3;cases h3;exact List.mem_map.2 ⟨_, h4, rfl⟩
       let ρ' : aG := fun j => ρ ((fg rv).getD j 0)
       have jx : ∀ (i k : Nat), (fg rv)[i]? = some k → ρ' i = ρ k := fun i k hi => by
         simp only [ρ', List.getD_eq_getElem?_getD, hi, Option.getD_some]
       have cA : ∀ j B, (j, B) ∈ num 0 nb → ∃ k, (fg rv)[j]? = some k ∧ (k, B) ∈ σ.af ∧ ρ' j = ρ k ∧ ∃ E xs, B = .own E xs false := fun j B hj => by
         obtain ⟨_, h3⟩ := qF.1 hj;obtain ⟨k, h4, h5, h6⟩ := nV j B (by simpa using h3);exact ⟨k, h4, h5, jx j k h4, h6⟩
       refine ⟨v, h2, _, nb, Γ.H0, ρ', h, List.all_eq_true.2 fun B hB => ?_, ⟨?_, BG, fun b o h => h, fun b o h => r.b.hh b o (r.b.h0 b o h), ?_, ?_, ?_, ?_⟩, ?_⟩
       · obtain ⟨j, hj, wz⟩ := List.getElem_of_mem hB;obtain ⟨_, _, _, E, xs, rfl⟩ := nV j B (by rw [List.getElem?_eq_getElem hj, wz]);rfl
       · intro k hk;obtain ⟨_, h4⟩ := nU.1 hk;obtain ⟨B, hB⟩ : ∃ B, nb[k]? = some B := ⟨_, List.getElem?_eq_getElem (by omega)⟩;obtain ⟨k', h3, h5, _⟩ := nV k B hB;rw [jx k k' h3];exact r.b.oc k' (List.mem_map.2 ⟨_, h5, rfl⟩)
       · intro k B hk;obtain ⟨k', h3, h4, h5, E, xs, rfl⟩ := cA k B hk;rw [h5];exact r.b.af k' _ h4
       · intro x;rw [BH (ρ := ρ) hlen (fun i k hi => by rw [Nat.zero_add]; exact jx i k hi)];exact Nat.le_trans (l5 _ fW kN x) (r.b.sum x)
       · intro k B hk x hx;obtain ⟨k', h3, h4, h5, _⟩ := cA k B hk;rw [h5] at hx;exact r.b.fresh k' B h4 x hx
       · intro k B hk x hx;obtain ⟨k', h3, h4, h5, E, xs, rfl⟩ := cA k B hk;rw [h5] at hx;exact r.b.fresh k' _ h4 x hx
       · refine h1.qG fh fun k hk => ?_;have hp := BI hk;refine ⟨nU.2 ⟨Nat.zero_le _, ?_⟩, by rw [jx _ k hp]⟩;rw [Nat.zero_add, hlen];exact bq hp
     · cases h
   · cases h
 · cases h
end
theorem nc (n : Nat) : @NatCast.natCast Int instNatCastInt n = (n : Int) := rfl
def bG {α : Type} (lt : α → α → Bool) (y : α) : List α → List α
 | [] => [y]
 | a :: s => if lt a y = true then a :: bG lt y s else y :: a :: s
def fX {α : Type} (lt : α → α → Bool) (x : α) : List α → List α
 | [] => [x]
 | a :: s => if lt x a = true then x :: a :: s else a :: fX lt x s
structure kA {α : Type} (lt : α → α → Bool) : Prop where
 tr : ∀ a b c, lt a b = true → lt b c = true → lt a c = true
 ng : ∀ a b c, lt a b = false → lt b c = false → lt a c = false
 as : ∀ a b, lt a b = true → lt b a = false
section
variable {α : Type} {lt : α → α → Bool}
theorem FR (h : kA lt) (x y : α) : ∀ s : List α, bG lt y (fX lt x s) = fX lt x (bG lt y s)
 | [] => by simp only [bG, fX]
 | a :: s => by
   have ih := FR h x y s;cases h1 : lt x a <;> cases h2 : lt a y <;> cases h3 : lt x y <;> simp [bG, fX, h1, h2, h3, ih]
   · have := h.ng _ _ _ h1 h2; rw [h3] at this; cases this
   · have := h.tr _ _ _ h1 h2; rw [h3] at this; cases this
def dz (lt : α → α → Bool) (l : List α) : List α := l.foldl (fun s x => fX lt x s) []
def kB (lt : α → α → Bool) (l : List α) : List α := l.foldr (fun x s => bG lt x s) []
theorem s9 (l : List α) (x : α) : dz lt (l ++ [x]) = fX lt x (dz lt l) := by
 simp [dz]
theorem FT (h : kA lt) (x : α) : ∀ l : List α, kB lt (l ++ [x]) = fX lt x (kB lt l)
 | [] => by simp [kB, bG, fX]
 | y :: l => by
   have ih := FT h x l;simp only [List.cons_append, kB, List.foldr_cons] at ih ⊢;rw [ih]; exact FR h x y _
theorem FU (h : kA lt) (l : List α) : kB lt l = dz lt l := by
 obtain ⟨n, hn⟩ : ∃ n, l.length = n := ⟨_, rfl⟩
 induction n generalizing l with
 | zero =>
   have : l = [] := List.length_eq_zero_iff.1 hn;subst this; rfl
 | succ n ih =>
   rcases List.eq_nil_or_concat l with rfl | ⟨l', x, rfl⟩
   · rfl
   · rw [List.concat_eq_append, FT h, s9, ih l' (by simpa using hn)]
def qH (lt : α → α → Bool) (l : List α) : Prop := l.Pairwise fun a b => lt b a = false
theorem BL {x b : α} : ∀ {s : List α}, b ∈ fX lt x s ↔ b = x ∨ b ∈ s
 | [] => by simp [fX]
 | a :: s => by
   simp only [fX]
   split
   · simp
   · simp only [List.mem_cons, BL (s := s)]
     constructor
     · rintro (h | h | h)
       · exact .inr (.inl h)
       · exact .inl h
       · exact .inr (.inr h)
     · rintro (h | h | h)
       · exact .inr (.inl h)
       · exact .inl h
       · exact .inr (.inr h)
theorem pL {x b : α} : ∀ {s : List α}, b ∈ bG lt x s ↔ b = x ∨ b ∈ s
 | [] => by simp [bG]
 | a :: s => by
   simp only [bG]
   split
   · simp only [List.mem_cons, pL (s := s)]
     constructor
     · rintro (h | h | h)
       · exact .inr (.inl h)
       · exact .inl h
       · exact .inr (.inr h)
     · rintro (h | h | h)
       · exact .inr (.inl h)
       · exact .inl h
       · exact .inr (.inr h)
   · simp
theorem FV {x : α} : ∀ {s : List α}, (fX lt x s).length = s.length + 1
 | [] => rfl
 | a :: s => by simp only [fX]; split <;> simp [FV (s := s)]
theorem wA {x : α} : ∀ {s : List α}, (bG lt x s).length = s.length + 1
 | [] => rfl
 | a :: s => by simp only [bG]; split <;> simp [wA (s := s)]
theorem jy (l : List α) : (dz lt l).length = l.length := by
 obtain ⟨n, hn⟩ : ∃ n, l.length = n := ⟨_, rfl⟩
 induction n generalizing l with
 | zero =>
   have : l = [] := List.length_eq_zero_iff.1 hn;subst this; rfl
 | succ n ih =>
   rcases List.eq_nil_or_concat l with rfl | ⟨l', x, rfl⟩
   · rfl
   · rw [List.concat_eq_append, s9, FV, ih l' (by simpa using hn)]; simp
theorem wB {b : α} (l : List α) : b ∈ dz lt l ↔ b ∈ l := by
 obtain ⟨n, hn⟩ : ∃ n, l.length = n := ⟨_, rfl⟩
 induction n generalizing l with
 | zero =>
   have : l = [] := List.length_eq_zero_iff.1 hn;subst this; rfl
 | succ n ih =>
   rcases List.eq_nil_or_concat l with rfl | ⟨l', x, rfl⟩
   · rfl
   · rw [List.concat_eq_append, s9, BL, ih l' (by simpa using hn)];simp only [List.mem_append, List.mem_singleton];exact ⟨fun h => h.elim .inr .inl, fun h => h.elim .inr .inl⟩
theorem FW (h : kA lt) {x : α} : ∀ {s : List α}, qH lt s → qH lt (fX lt x s)
 | [], _ => by simp [fX, qH]
 | a :: s, hs => by
   obtain ⟨h1, h2⟩ := List.pairwise_cons.1 hs;simp only [fX]
   split
   · rename_i hx;refine List.pairwise_cons.2 ⟨fun b hb => ?_, hs⟩;cases hb with
     | head => exact h.as _ _ hx
     | tail _ hb =>
       have h3 := h1 b hb;cases h4 : lt b x with
       | false => rfl
       | true => have := h.tr _ _ _ h4 hx; rw [h3] at this; cases this
   · rename_i hx;refine List.pairwise_cons.2 ⟨fun b hb => ?_, FW h h2⟩;rcases BL.1 hb with rfl | hb
     · simpa using hx
     · exact h1 b hb
theorem yM (h : kA lt) (l : List α) : qH lt (dz lt l) := by
 obtain ⟨n, hn⟩ : ∃ n, l.length = n := ⟨_, rfl⟩
 induction n generalizing l with
 | zero =>
   have : l = [] := List.length_eq_zero_iff.1 hn;subst this; exact List.Pairwise.nil
 | succ n ih =>
   rcases List.eq_nil_or_concat l with rfl | ⟨l', x, rfl⟩
   · exact List.Pairwise.nil
   · rw [List.concat_eq_append, s9];exact FW h (ih l' (by simpa using hn))
theorem BM (x : α) : ∀ {p q : List α}, (∀ b ∈ p, lt x b = false) → (∀ b, q.head? = some b → lt x b = true) → fX lt x (p ++ q) = p ++ x :: q
 | [], [], _, _ => rfl
 | [], b :: q, _, hq => by simp [fX, hq b rfl]
 | a :: p, q, hp, hq => by
   simp only [List.cons_append, fX];rw [if_neg (by rw [hp a List.mem_cons_self]; simp), BM x (fun b hb => hp b (List.mem_cons_of_mem _ hb)) hq]
theorem FX (h : kA lt) {x a : α} {p : List α} (hs : qH lt (p ++ [a])) (ha : lt x a = false) : ∀ b ∈ p ++ [a], lt x b = false := by
 intro b hb;rcases List.mem_append.1 hb with hb | hb
 · have := (List.pairwise_append.1 hs).2.2 b hb a (by simp);exact h.ng _ _ _ ha this
 · cases List.mem_singleton.1 hb; exact ha
theorem FY (x : α) : ∀ {p q : List α}, (∀ b ∈ p, lt b x = true) → (∀ b, q.head? = some b → lt b x = false) → bG lt x (p ++ q) = p ++ x :: q
 | [], [], _, _ => rfl
 | [], b :: q, _, hq => by simp [bG, hq b rfl]
 | a :: p, q, hp, hq => by
   simp only [List.cons_append, bG];rw [if_pos (hp a List.mem_cons_self), FY x (fun b hb => hp b (List.mem_cons_of_mem _ hb)) hq]
theorem BN {x : α} {l : List α} {k : Nat} (hp : ∀ j b, j < k → l[j]? = some b → lt b x = true) (hq : ∀ b, l[k]? = some b → lt b x = false) :
  bG lt x l = l.take k ++ x :: l.drop k := by
 have := FY (lt := lt) x (p := l.take k) (q := l.drop k) (fun b hb => by
  obtain ⟨j, hj⟩ := List.mem_iff_getElem?.1 hb;rw [List.getElem?_take] at hj
  split at hj
  · exact hp j b (by assumption) hj
  · cases hj) (fun b hb => hq b (by rw [List.head?_drop] at hb; exact hb))
 rwa [List.take_append_drop] at this
theorem FZ (h : kA lt) (ha : ∀ a b, lt a b = false → lt b a = false → a = b) {x : α} : ∀ {s : List α}, qH lt s → bG lt x s = fX lt x s
 | [], _ => rfl
 | a :: s, hs => by
   obtain ⟨h1, h2⟩ := List.pairwise_cons.1 hs;have ih := FZ h ha (x := x) h2;simp only [bG, fX];cases h3 : lt a x with
   | true => rw [if_pos rfl, if_neg (by rw [h.as _ _ h3]; simp), ih]
   | false =>
     rw [if_neg (by simp)];cases h4 : lt x a with
     | true => rw [if_pos rfl]
     | false =>
       obtain rfl := ha _ _ h3 h4;rw [if_neg (by simp), ← ih];cases s with
       | nil => rfl
       | cons b s =>
         simp only [bG];rw [if_neg (by rw [h1 b List.mem_cons_self]; simp)]
def iU (lt : α → α → Bool) (l : List α) : List α := l.foldl (fun s x => bG lt x s) []
theorem BO (l : List α) (x : α) : iU lt (l ++ [x]) = bG lt x (iU lt l) := by simp [iU]
theorem yN (h : kA lt) (ha : ∀ a b, lt a b = false → lt b a = false → a = b) (l : List α) : iU lt l = dz lt l := by
 obtain ⟨n, hn⟩ : ∃ n, l.length = n := ⟨_, rfl⟩
 induction n generalizing l with
 | zero =>
   have : l = [] := List.length_eq_zero_iff.1 hn;subst this; rfl
 | succ n ih =>
   rcases List.eq_nil_or_concat l with rfl | ⟨l', x, rfl⟩
   · rfl
   · rw [List.concat_eq_append, BO, s9, ih l' (by simpa using hn), FZ h ha (yM h l')]
end
def slt {α : Type} (p : List α) (x : α) (rest : List α) (j : Nat) : List α := p.take j ++ x :: (p.drop j ++ rest)
section
variable {α : Type} {p rest : List α} {x d : α} {j : Nat}
theorem F0 (hj : j ≤ p.length) : (slt p x rest j).length = p.length + 1 + rest.length := by simp [slt]; omega
theorem F1 (hj : j ≤ p.length) : (slt p x rest j)[j]? = some x := by
 rw [slt, List.getElem?_append_right (by rw [List.length_take]; omega), List.length_take, Nat.min_eq_left hj, Nat.sub_self]; rfl
theorem F2 (hj : j ≤ p.length) (h0 : 0 < j) : (slt p x rest j)[j - 1]? = p[j - 1]? := by
 rw [slt, List.getElem?_append_left (by rw [List.length_take]; omega), List.getElem?_take, if_pos (by omega)]
theorem BP (hj : j ≤ p.length) (h0 : 0 < j) {y : α} (hy : p[j - 1]? = some y) : ((slt p x rest j).set j y).set (j - 1) x = slt p x rest (j - 1) := by
 obtain ⟨k, rfl⟩ : ∃ k, j = k + 1 := ⟨j - 1, by omega⟩;simp only [Nat.add_sub_cancel] at *;have h1 : p.take (k + 1) = p.take k ++ [y] := by rw [List.take_add_one, hy]; rfl
 have h2 : p.drop k = y :: p.drop (k + 1) := by
  have hk : k < p.length := by omega
  rw [List.drop_eq_getElem_cons hk];rw [List.getElem?_eq_getElem hk] at hy;cases hy; rfl
 have hl : (p.take k).length = k := by rw [List.length_take]; omega
 rw [slt, slt, h1, h2, List.append_assoc];rw [List.set_append_right _ _ (by omega), hl, show k + 1 - k = 1 by omega];rw [List.set_append_right _ _ (by omega), hl, Nat.sub_self];rfl
theorem F3 (hj : j ≤ p.length) (h0 : 0 < j) {y : α} (hy : p[j - 1]? = some y) : ((slt p x rest j).set (j - 1) x).set j y = slt p x rest (j - 1) := by
 rw [List.set_comm _ _ (by omega)]; exact BP hj h0 hy
end
theorem F4 {α : Type} (lt : α → α → Bool) (xs : List α) : dz lt (xs.take 1) ++ xs.drop 1 = xs := by
 cases xs with
 | nil => rfl
 | cons a xs => simp [dz, fX]
theorem F5 {α : Type} {lt : α → α → Bool} (xs : List α) {i : Nat} (hi : i < xs.length) : dz lt (xs.take (i + 1)) = fX lt xs[i] (dz lt (xs.take i)) := by
 rw [List.take_add_one, List.getElem?_eq_getElem hi]; exact s9 _ _
theorem F6 {α : Type} {lt : α → α → Bool} {x y : α} : ((if lt x y = true then (-1 : Int) else if lt y x = true then 1 else 0) < 0) ↔ lt x y = true := by
 cases lt x y <;> cases lt y x <;> simp
def aY (a b : Entry) : Bool := decide (a.lvl < b.lvl) || (a.lvl == b.lvl && decide (a.aw < b.aw))
def bm (a b : aA) : Bool := decide (a.tm < b.tm) || (a.tm == b.tm && decide (a.pid < b.pid))
theorem lD : kA aY where
 tr a b c h1 h2 := by simp only [aY, Bool.or_eq_true, Bool.and_eq_true, decide_eq_true_eq, beq_iff_eq] at *; omega
 ng a b c h1 h2 := by
  simp only [aY, Bool.or_eq_false_iff, Bool.and_eq_false_iff, decide_eq_false_iff_not, beq_eq_false_iff_ne] at *; omega
 as a b h1 := by
  simp only [aY, Bool.or_eq_false_iff, Bool.and_eq_false_iff, decide_eq_false_iff_not, beq_eq_false_iff_ne, Bool.or_eq_true, Bool.and_eq_true, decide_eq_true_eq, beq_iff_eq] at *; omega
theorem jz : kA bm where
 tr a b c h1 h2 := by simp only [bm, Bool.or_eq_true, Bool.and_eq_true, decide_eq_true_eq, beq_iff_eq] at *; omega
 ng a b c h1 h2 := by
  simp only [bm, Bool.or_eq_false_iff, Bool.and_eq_false_iff, decide_eq_false_iff_not, beq_eq_false_iff_ne] at *; omega
 as a b h1 := by
  simp only [bm, Bool.or_eq_false_iff, Bool.and_eq_false_iff, decide_eq_false_iff_not, beq_eq_false_iff_ne, Bool.or_eq_true, Bool.and_eq_true, decide_eq_true_eq, beq_iff_eq] at *; omega
theorem wC (a b : aA) (h1 : bm a b = false) (h2 : bm b a = false) : a = b := by
 simp only [bm, Bool.or_eq_false_iff, Bool.and_eq_false_iff, decide_eq_false_iff_not, beq_eq_false_iff_ne] at *;have h3 : a.tm = b.tm := by omega
 have h4 : a.pid = b.pid := by omega
 cases a; cases b; cases h3; cases h4; rfl
end Go.Proofs.YtehpbaiclfilaaaGreat

