/-
  Lists that are made: a literal, append, make. No conditions.
-/
import Derived.Test.YtnmdhpaobmjefaaOwn
import Derived.Great.BuildSlice
import Derived.Laws.MakeOwn
namespace Go.Proofs.Ytnmdhpaobmjefaa
open Go

def flatE : ETy → Bool
  | .spk => false
  | .cab => false
  | .rep => false
  | _ => true

/-- the same list, if the type is the same -/
def castL : (E E' : ETy) → (Unit → List E'.α) → Option (Unit → List E.α)
  | .int, .int, t => some t
  | .byte, .byte, t => some t
  | .str, .str, t => some t
  | .pin, .pin, t => some t
  | .ent, .ent, t => some t
  | .pty, .pty, t => some t
  | .spk, .spk, t => some t
  | .cab, .cab, t => some t
  | .req, .req, t => some t
  | .rep, .rep, t => some t
  | _, _, _ => none

theorem castL_ok {E E' : ETy} {t : Unit → List E'.α} {u : Unit → List E.α} (h : castL E E' t = some u) : Lf.list E' t = Lf.list E u := by
  cases E <;> cases E' <;> simp only [castL, Option.some.injEq, reduceCtorEq] at h <;> subst h <;> rfl

/-- a list that is moved -/
def listV (bs : List (Nat × Blk)) (E : ETy) : V → Option ((Unit → List E.α) × List Nat)
  | .c .nil => some (fun _ => [], [])
  | .c (.own k) => match getB bs k with
    | some (.own E' xs false) => (match castL E E' xs with | some ys => some (ys, [k]) | none => none)
    | _ => none
  | _ => none

/-- a list whose elements are copied, or moved -/
def srcL (bs : List (Nat × Blk)) (E : ETy) : V → Option ((Unit → List E.α) × List Nat)
  | .c (.lf (.list E' t)) => if flatE E = true then (match castL E E' t with | some ys => some (ys, []) | none => none) else none
  | .c (.own k) => if flatE E = true then (match getB bs k with
      | some (.own E' xs _) => (match castL E E' xs with | some ys => some (ys, []) | none => none)
      | _ => none) else listV bs E (.c (.own k))
  | v => listV bs E v

/-! ### what they are -/

theorem flat_cells {E : ETy} (hf : flatE E = true) {x : E.α} {j : Nat} {l : Lf} (h : (cellsT E fun _ => x)[j]? = some l) : l.sc = true := by
  have hm := List.mem_of_getElem? h
  cases E <;> simp only [flatE, Bool.false_eq_true] at hf <;> simp only [cellsT, List.mem_cons, List.not_mem_nil, or_false] at hm
  case int => subst hm; rfl
  case byte => subst hm; rfl
  case str => subst hm; rfl
  case pin => rcases hm with rfl | rfl <;> rfl
  case ent => rcases hm with rfl | rfl | rfl | rfl <;> rfl
  case pty => rcases hm with rfl | rfl | rfl | rfl | rfl | rfl | rfl | rfl | rfl | rfl <;> rfl
  case req => rcases hm with rfl | rfl | rfl | rfl | rfl | rfl <;> rfl

theorem RL.own_sc {h : Array Obj} {H : Hp} {l : Lf} {v : Value} (hr : RL H l v) (hs : l.sc = true) : OwnL h l v fun _ => 0 := by
  cases hr with
  | int hr => exact .int hr
  | bool => exact .bool
  | str hm => exact .str hm
  | nil h0 => simp [Lf.sc] at hs
  | list hb hl hm ho hc => simp [Lf.sc] at hs

/-- the cells of elements, as a list -/
structure News (w : World) (E : ETy) (xs : List E.α) (v : Value) (news : List Value) (S : Nat → Nat → Nat → Nat) : Prop where
  len : news.length = xs.length * E.sz
  one : ∀ u ∈ news, u.oneCell' = true
  seg : Seg w.heap E xs (fun q => news.getD q Go.undef) S
  val : (∃ a c, v = .slice a 0 c ∧ xs = []) ∨ ∃ b off c, v = .slice (some ⟨b, off, none⟩) xs.length c ∧ ∀ j u, news[j]? = some u → w.cell? ⟨b, off + j, none⟩ = some u

theorem seg_one {h : Array Obj} {E : ETy} {xs : List E.α} {cs : Nat → Value} {S : Nat → Nat → Nat → Nat} (hs : Seg h E xs cs S) {q : Nat} (hq : q < xs.length * E.sz) : (cs q).oneCell' = true := by
  have hp := sz_pos E
  have hi : q / E.sz < xs.length := Nat.div_lt_of_lt_mul (by rw [Nat.mul_comm]; exact hq)
  have hj : q % E.sz < E.sz := Nat.mod_lt _ hp
  have h1 := hs (q / E.sz) _ (List.getElem?_eq_getElem hi) (q % E.sz) _ (List.getElem?_eq_getElem (by rw [cellsT_len]; exact hj))
  rw [Nat.mul_comm, Nat.div_add_mod] at h1
  exact h1.one

theorem News.of {w : World} {E : ETy} {xs : List E.α} {b off c : Nat} {vs : Array Value} {e : TypeId} {fz : Nat × Nat} {S : Nat → Nat → Nat → Nat} (hb : w.heap[b]? = some (.cells vs e fz)) (ho : off + xs.length * E.sz ≤ vs.size)
    (hs : Seg w.heap E xs (fun q => vs.getD (off + q) Go.undef) S) : ∃ news, News w E xs (.slice (some ⟨b, off, none⟩) xs.length c) news S := by
  have hg : ∀ q, q < xs.length * E.sz → (vs.extract off (off + xs.length * E.sz)).toList[q]? = some (vs.getD (off + q) Go.undef) := fun q hq => by
    rw [Array.getElem?_toList, Array.getElem?_extract, if_pos (by omega)]
    exact getD_some (by omega)
  have hl : (vs.extract off (off + xs.length * E.sz)).toList.length = xs.length * E.sz := by simp; omega
  refine ⟨(vs.extract off (off + xs.length * E.sz)).toList, hl, fun u hu => ?_, hs.cells fun q hq => ?_, .inr ⟨b, off, c, rfl, fun j u hj => ?_⟩⟩
  · obtain ⟨q, hq, rfl⟩ := List.getElem_of_mem hu
    rw [hl] at hq
    have h1 := hg q hq
    rw [List.getElem?_eq_getElem (by rw [hl]; exact hq)] at h1
    rw [Option.some.inj h1]
    exact seg_one hs hq
  · rw [List.getD_eq_getElem?_getD, hg q hq]; rfl
  · have hq : j < xs.length * E.sz := by rw [← hl]; exact lt_of_get hj
    rw [hg j hq] at hj
    cases hj
    exact cell_of hb (getD_some (by omega))

theorem RL.seg {H : Hp} {h : Array Obj} {E : ETy} {t : Unit → List E.α} {v : Value} (hr : RL H (.list E t) v) (hh : ∀ b o, H b = some o → h[b]? = some o) (hf : flatE E = true) :
    (∃ a c, v = .slice a 0 c ∧ t () = []) ∨ ∃ b off c vs e fz, v = .slice (some ⟨b, off, none⟩) (t ()).length c ∧ h[b]? = some (.cells vs e fz) ∧ off + (t ()).length * E.sz ≤ vs.size ∧
      (t ()).length ≤ maxL ∧ Seg h E (t ()) (fun q => vs.getD (off + q) Go.undef) fun _ _ _ => 0 := by
  cases hr with
  | nil h0 => exact .inl ⟨_, _, rfl, h0⟩
  | list hb hl hm ho hc => exact .inr ⟨_, _, _, _, _, _, rfl, hh _ _ hb, ho, hm, fun i x hx j l hj => by
      have := (hc i x hx j l hj).own_sc (h := h) (flat_cells hf hj)
      rwa [Nat.add_assoc] at this⟩

theorem OwnL.sc0 {h : Array Obj} {l : Lf} {v : Value} {S : Nat → Nat} (ho : OwnL h l v S) (hs : l.sc = true) : OwnL h l v fun _ => 0 := by
  cases ho with
  | int hr => exact .int hr
  | bool => exact .bool
  | str hm => exact .str hm
  | nil h0 => simp [Lf.sc] at hs
  | list => simp [Lf.sc] at hs

theorem Seg.flat {h : Array Obj} {E : ETy} {xs : List E.α} {cs : Nat → Value} {S : Nat → Nat → Nat → Nat} (hs : Seg h E xs cs S) (hf : flatE E = true) : Seg h E xs cs fun _ _ _ => 0 := fun i x hx j l hj =>
  (hs i x hx j l hj).sc0 (flat_cells hf hj)

theorem News.nil {w : World} {E : ETy} (a : Option Addr) (c : Nat) : News w E [] (.slice a 0 c) [] fun _ _ _ => 0 :=
  ⟨by simp, (fun _ h => by cases h), Seg.nil, .inl ⟨a, c, rfl, rfl⟩⟩

theorem News.src {P : Program} {w : World} {E : ETy} {xs : List E.α} {v : Value} {news : List Value} {S : Nat → Nat → Nat → Nat} (hn : News w E xs v news S) {tx e : TypeId} (hk : P.underlying tx = some (.slice e)) :
    Src P E.sz tx v xs.length news w := by
  rcases hn.val with ⟨a, c, rfl, rfl⟩ | ⟨b, off, c, rfl, h⟩
  · have : news = [] := by have := hn.len; simpa using this
    subst this
    cases a with
    | none => exact Src.ofNil w hk c
    | some a => exact Src.ofSlice w hk a 0 c [] (by simp) (fun j u hj => by simp at hj) fun u hu => by cases hu
  · exact Src.ofSlice w hk _ _ _ news hn.len (fun j u hj => by rw [addr_add]; exact h j u hj) hn.one

/-! ### append -/

theorem setVs_get : ∀ (us : List Value) (vs : Array Value) (o q : Nat), o + us.length ≤ vs.size → (setVs vs o us).getD q Go.undef = if o ≤ q ∧ q < o + us.length then us.getD (q - o) Go.undef else vs.getD q Go.undef
  | [], vs, o, q, _ => by
    have : ¬ (o ≤ q ∧ q < o + ([] : List Value).length) := by simp only [List.length_nil]; omega
    rw [if_neg this]; rfl
  | u :: us, vs, o, q, h => by
    simp only [List.length_cons] at h
    simp only [setVs]
    rw [setVs_get us _ (o + 1) q (by simp; omega)]
    by_cases h1 : o + 1 ≤ q ∧ q < o + 1 + us.length
    · rw [if_pos h1, if_pos (by simp only [List.length_cons]; omega), show q - o = (q - (o + 1)) + 1 by omega]
      simp
    · rw [if_neg h1]
      by_cases h2 : q = o
      · subst h2
        rw [if_pos (by simp only [List.length_cons]; omega)]
        simp [Array.getD_eq_getD_getElem?, show q < vs.size by omega]
      · rw [if_neg (by simp only [List.length_cons]; omega)]
        simp [Array.getD_eq_getD_getElem?, Ne.symm h2]

/-- An append: the old list is owned, or nil; the new elements lie elsewhere. -/
theorem run_append {P : Program} {w : World} {E : ETy} {xs ys : List E.α} {vx vy : Value} {px : Nat → Nat} {T T2 e e2 ty : TypeId} {i : TypeInfo} {z : Value} {news : List Value} {S2 : Nat → Nat → Nat → Nat} {py : Nat → Nat}
    (hx : OwnL w.heap (.list E fun _ => xs) vx px) (hy : News w E ys vy news S2) (hpy : ∀ x, segN ys.length E.sz S2 x ≤ py x) (hone : ∀ x, px x + py x ≤ 1) (hthere : ∀ x, 0 < px x + py x → x < w.heap.size)
    (ht : P.underlying T = some (.slice e)) (ht2 : P.underlying T2 = some (.slice e2)) (hi : P.info? e = some i) (hz : i.zero = some z) (hsz : i.size = E.sz) (hzs : z.cells.size = E.sz) (hb0 : 0 < i.bytes)
    (hfit : (xs.length + ys.length) * i.bytes ≤ 140737488355328) :
    ∃ v p w', (Builtin.append_ #[T, T2] ty #[vx, vy]).run P w = .ok v w' ∧ OwnL w'.heap (.list E fun _ => xs ++ ys) v p ∧ Ext w w' ∧ (∀ x, x < w.heap.size → px x = 0 → w'.heap[x]? = w.heap[x]?) ∧
      (∀ x, x < w.heap.size → p x ≤ px x + py x) ∧ ∀ x, w.heap.size ≤ x → p x ≤ 1 := by
  have hs := hy.src (P := P) ht2
  have hlen : xs.length + ys.length ≤ maxL := by
    have : xs.length + ys.length ≤ (xs.length + ys.length) * i.bytes := Nat.le_mul_of_pos_right _ hb0
    unfold maxL; omega
  have h63 : ((xs.length + ys.length : Nat) : Int) ≤ 9223372036854775807 := by unfold maxL at hlen; omega
  rw [← hsz] at hs
  have hsegY := hy.seg
  -- the new row
  have grow : ∀ (base : Option Addr) (n cap : Nat) (olds : List Value) (S : Nat → Nat → Nat → Nat), n = xs.length → vx = .slice base n cap → cap < n + ys.length → olds.length = xs.length * E.sz →
      (Builtin.firstCells i.size n (.slice base n cap)).run P w.drew = .ok olds.toArray w.drew → Seg w.heap E xs (fun q => olds.getD q Go.undef) S → (∀ x, segN xs.length E.sz S x ≤ px x) →
      ∃ v p w', (Builtin.append_ #[T, T2] ty #[vx, vy]).run P w = .ok v w' ∧ OwnL w'.heap (.list E fun _ => xs ++ ys) v p ∧ Ext w w' ∧ (∀ x, x < w.heap.size → px x = 0 → w'.heap[x]? = w.heap[x]?) ∧
      (∀ x, x < w.heap.size → p x ≤ px x + py x) ∧ ∀ x, w.heap.size ≤ x → p x ≤ 1 := by
    intro base n cap olds S hn hv hg hol hold hseg hpx
    subst hn
    have hrun := run_append_grow_src (P := P) w T T2 ty e i z ht hi hz base xs.length cap olds hold vy ys.length news hs hg h63 (growslice_fits hg hfit)
    have hcap := grownCap_ge w (xs.length + ys.length) cap e
    generalize grownCap w (xs.length + ys.length) cap e = C at hrun hcap
    generalize hcells : (olds ++ news).toArray ++ Builtin.zeroCells z.cells (C - (xs.length + ys.length)) = cells at hrun
    have hcs : cells.size = C * E.sz := by
      rw [← hcells]
      simp only [Array.size_append, List.size_toArray, List.length_append, Builtin.zeroCells, Array.size_map, Array.size_range, hzs, hol, hy.len]
      rw [← Nat.add_mul, ← Nat.add_mul]
      congr 1; omega
    have hget : ∀ q, q < (xs ++ ys).length * E.sz → cells.getD (0 + q) Go.undef = glue (xs.length * E.sz) (fun q => olds.getD q Go.undef) (fun q => news.getD q Go.undef) q := by
      intro q hq
      rw [List.length_append, Nat.add_mul] at hq
      rw [Nat.zero_add, ← hcells, Array.getD_eq_getD_getElem?, Array.getElem?_append_left (by simp [hol, hy.len]; omega), List.getElem?_toArray]
      simp only [glue]
      split
      · rename_i h
        rw [List.getElem?_append_left (by omega), List.getD_eq_getElem?_getD]
      · rename_i h
        rw [List.getElem?_append_right (by omega), List.getD_eq_getElem?_getD, hol]
    have hseg' : Seg (w.heap.push (.cells cells e)) E (xs ++ ys) (fun q => cells.getD (0 + q) Go.undef) (glue xs.length S S2) := by
      refine Seg.cells ((hseg.glue hsegY).mono fun x hx => ?_) hget
      rw [List.length_append, segN_glue] at hx
      have h1 := hpx x
      have h2 := hpy x
      have h3 := hthere x (by omega)
      rw [Array.getElem?_push, if_neg (Nat.ne_of_lt h3)]
    refine ⟨_, cnt w.heap.size (xs ++ ys).length E.sz (glue xs.length S S2), w.drew.alloc (.cells cells e), by rw [hv]; exact hrun, ?_, (show Ext w w.drew from ⟨Nat.le_refl _, rfl, rfl, fun _ => rfl⟩).trans (alloc_ext w.drew _ _), fun x hx _ => ?_, fun x hx => ?_, fun x hx => ?_⟩
    · have := hseg'.own (b := w.heap.size) (off := 0) (c := C) (vs := cells) (e := e) (fz := (0, 0)) (by simp) (NF_zero _) (by rw [List.length_append]; exact hcap) (by rw [List.length_append]; exact hlen) (by omega)
      rw [← List.length_append]
      exact this
    · show (w.heap.push _)[x]? = _
      rw [Array.getElem?_push, if_neg (Nat.ne_of_lt hx)]
    · have h1 := hpx x
      have h2 := hpy x
      have : cnt w.heap.size (xs ++ ys).length E.sz (glue xs.length S S2) x = 0 + segN (xs.length + ys.length) E.sz (glue xs.length S S2) x := by
        rw [← List.length_append]; simp only [cnt, segN]; rw [if_neg (Nat.ne_of_lt hx)]
      rw [this, segN_glue]
      omega
    · have h1 := hpx x
      have h2 := hpy x
      have h3 : px x + py x = 0 := by
        rcases Nat.eq_zero_or_pos (px x + py x) with h | h
        · exact h
        · have := hthere x h; omega
      have : cnt w.heap.size (xs ++ ys).length E.sz (glue xs.length S S2) x ≤ 1 + segN (xs.length + ys.length) E.sz (glue xs.length S S2) x := by
        rw [← List.length_append]; simp only [cnt, segN]; split <;> omega
      rw [segN_glue] at this
      omega
  rcases hx.seg with ⟨hv, h0, hp⟩ | ⟨b, off, c, vs, e', fz, S, hv, hp, hb, hf, hl, hm, ho, hseg⟩
  · subst h0
    rcases Nat.eq_zero_or_pos ys.length with hy0 | hy0
    · have hys : ys = [] := List.length_eq_zero_iff.1 hy0
      subst hys
      have hnews : news = [] := by have := hy.len; simpa using this
      subst hnews
      refine ⟨.slice none 0 0, fun _ => 0, w, ?_, OwnL.nil (t := fun _ => ([] : List E.α) ++ []) rfl, Ext.refl w, fun _ _ _ => rfl, fun _ _ => Nat.zero_le _, fun _ _ => Nat.zero_le _⟩
      rw [hv]
      have hc : (Builtin.firstCells i.size 0 vy).run P w = .ok #[] w := hs.cells
      rcases hs.kind with ⟨e', hk⟩ | hk <;> simp [Builtin.append_, run_underlying ht, run_underlying hk, sizeOf, typeInfo, hi, hs.len, hc]
    · exact grow none 0 0 [] (fun _ _ _ => 0) rfl hv (by omega) (by simp) (run_firstCells_none w.drew i.size 0 0 0) Seg.nil fun x => by simp [segN, sumN]
  · rcases Nat.lt_or_ge c (xs.length + ys.length) with hg | hroom
    · obtain ⟨olds, hN⟩ := News.of (c := c) hb (by have := Nat.mul_le_mul_right E.sz hl; omega) hseg
      refine grow (some ⟨b, off, none⟩) xs.length c olds S rfl hv hg hN.len ?_ hN.seg fun x => ?_
      · rcases hN.val with ⟨a, c', h1, h2⟩ | ⟨b', off', c', h1, h2⟩
        · have : olds = [] := by have := hN.len; rw [h2] at this; simpa using this
          subst this
          rw [h2]
          exact run_firstCells_some w.drew i.size 0 _ _ _ [] (by simp) fun j v hj => by simp at hj
        · simp only [Value.slice.injEq, Option.some.injEq, Addr.mk.injEq, and_true, true_and] at h1
          obtain ⟨⟨rfl, rfl⟩, rfl⟩ := h1
          refine run_firstCells_some w.drew i.size _ _ _ _ olds (by rw [hN.len, hsz]) fun j v hj => ?_
          rw [addr_add]
          exact h2 j v hj
      · rw [hp]; simp only [cnt, segN]; exact Nat.le_add_left _ _
    · -- in place
      have hcap := Nat.mul_le_mul_right E.sz hroom
      rw [Nat.add_mul] at hcap
      obtain ⟨w', g1, g2, g3, g4⟩ := run_storeCells (P := P) news w b (off + xs.length * E.sz) 0 vs e' fz hb hf (by rw [hy.len]; omega) hy.one
      rw [Nat.add_zero] at g2
      have hpb : px b = 1 ∧ segN xs.length E.sz S b = 0 ∧ py b = 0 := by
        have h1 := hone b
        have h2 : px b = 1 + segN xs.length E.sz S b := by rw [hp]; simp [cnt, segN]
        omega
      have hsegX' : Seg w'.heap E xs (fun q => vs.getD (off + q) Go.undef) S := hseg.mono fun x hx => g3 x fun he => by subst he; omega
      have hsegY' : Seg w'.heap E ys (fun q => news.getD q Go.undef) S2 := hsegY.mono fun x hx => g3 x fun he => by subst he; have := hpy x; omega
      have hseg' : Seg w'.heap E (xs ++ ys) (fun q => (setVs vs (off + xs.length * E.sz) news).getD (off + q) Go.undef) (glue xs.length S S2) := by
        refine Seg.cells (hsegX'.glue hsegY') fun q hq => ?_
        rw [List.length_append, Nat.add_mul] at hq
        rw [setVs_get _ _ _ _ (by rw [hy.len]; omega)]
        simp only [glue]
        by_cases h : q < xs.length * E.sz
        · rw [if_pos h, if_neg (by omega)]
        · rw [if_neg h, if_pos (by rw [hy.len]; omega)]
          congr 1; omega
      refine ⟨.slice (some ⟨b, off, none⟩) (xs ++ ys).length c, cnt b (xs ++ ys).length E.sz (glue xs.length S S2), w', ?_, ?_, g4, fun x _ hx => g3 x fun he => by subst he; omega, fun x _ => ?_, fun x hx => ?_⟩
      · rw [hv, List.length_append]
        have hroom' : xs.length + ys.length ≤ c := hroom
        rw [← hsz] at g1
        rcases hs.kind with ⟨e', hk⟩ | hk <;> simp [Builtin.append_, run_underlying ht, run_underlying hk, sizeOf, typeInfo, hi, hs.len, hroom', hs.cells, addr_add, g1]
      · refine hseg'.own g2 ?_ (by rw [List.length_append]; exact hroom) (by rw [List.length_append]; exact hlen) (by rw [setVs_size]; exact ho)
        rcases hf with h | h
        · exact .inl h
        · exact .inr (by rw [setVs_size]; exact h)
      · have h2 := hpy x
        have h3 : cnt b (xs ++ ys).length E.sz (glue xs.length S S2) x = (if x = b then 1 else 0) + segN (xs.length + ys.length) E.sz (glue xs.length S S2) x := by
          rw [← List.length_append]; rfl
        have h4 : px x = (if x = b then 1 else 0) + segN xs.length E.sz S x := by rw [hp]; rfl
        rw [h3, segN_glue]
        omega
      · have h2 := hpy x
        have h5 := hone x
        have h3 : cnt b (xs ++ ys).length E.sz (glue xs.length S S2) x = (if x = b then 1 else 0) + segN (xs.length + ys.length) E.sz (glue xs.length S S2) x := by
          rw [← List.length_append]; rfl
        have h4 : px x = (if x = b then 1 else 0) + segN xs.length E.sz S x := by rw [hp]; rfl
        rw [h3, segN_glue]
        omega

end Go.Proofs.Ytnmdhpaobmjefaa
