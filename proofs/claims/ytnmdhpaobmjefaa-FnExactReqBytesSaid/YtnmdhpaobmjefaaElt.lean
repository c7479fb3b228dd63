/-
  Loads and stores through a pointer to an element of an owned list. No conditions.
-/
import Derived.Test.YtnmdhpaobmjefaaHol
namespace Go.Proofs.Ytnmdhpaobmjefaa
open Go

/-- cells of an element get names -/
def openN (E : ETy) (xs : Unit → List E.α) (i : Unit → Nat) (k : Nat) : List (Nat × Nat) → List (Option Nat) → List (Nat × Blk) → Option (List (Nat × Blk))
  | [], _, bs => some bs
  | (j, kk) :: r, fs, bs =>
    match (cellsT E (getE E xs i))[j]?, fs[j]?, getB bs kk with
    | some (.list E' ys), some none, none => openN E xs i k r (fs.set j (some kk)) (setB (insB (setB bs k .dead) kk (.own E' ys false)) k (.hol E xs i (fs.set j (some kk))))
    | _, _, _ => none

def listCells : List Lf → Nat → Nat → List (Nat × Nat)
  | [], _, _ => []
  | .list _ _ :: ls, j, kk => (j, kk) :: listCells ls (j + 1) (kk + 1)
  | _ :: ls, j, kk => listCells ls (j + 1) kk

def valCells : List Lf → Nat → List C
  | [], _ => []
  | .list _ _ :: ls, kk => .own kk :: valCells ls (kk + 1)
  | l :: ls, kk => .lf l :: valCells ls kk

theorem valCells_len : ∀ {ls : List Lf} {kk : Nat}, (valCells ls kk).length = ls.length
  | [], _ => rfl
  | l :: ls, kk => by cases l <;> simp [valCells, valCells_len (ls := ls)]

theorem valCells_get : ∀ {ls : List Lf} {j kk m : Nat} {c : C}, (valCells ls kk)[m]? = some c → ∃ l, ls[m]? = some l ∧ ((l.sc = true ∧ c = .lf l) ∨ ∃ q, c = .own q ∧ (j + m, q) ∈ listCells ls j kk)
  | [], j, kk, m, c, h => by simp [valCells] at h
  | l :: ls, j, kk, 0, c, h => by
    cases l <;> simp [valCells] at h <;> subst h <;> refine ⟨_, rfl, ?_⟩
    · exact .inl ⟨rfl, rfl⟩
    · exact .inl ⟨rfl, rfl⟩
    · exact .inl ⟨rfl, rfl⟩
    · exact .inr ⟨kk, rfl, by simp [listCells]⟩
  | l :: ls, j, kk, m + 1, c, h => by
    cases l
    all_goals
      simp only [valCells, List.getElem?_cons_succ] at h
      obtain ⟨l', h1, h2⟩ := valCells_get (j := j + 1) h
      refine ⟨l', by simpa using h1, ?_⟩
      rcases h2 with h2 | ⟨q, h2, h3⟩
      · exact .inl h2
      · refine .inr ⟨q, h2, ?_⟩
        simp only [listCells]
        rw [show j + (m + 1) = j + 1 + m by omega]
        first | exact List.mem_cons_of_mem _ h3 | exact h3

/-- the elements of an owned list, the open one, its names -/
def elB (bs : List (Nat × Blk)) (k : Nat) (E : ETy) : Option ((Unit → List E.α) × Option (Unit → Nat) × List (Option Nat)) :=
  match getB bs k with
  | some (.own E' xs false) => (match castL E E' xs with | some ys => some (ys, none, List.replicate E.sz none) | none => none)
  | some (.hol E' xs i fs) => (match castL E E' xs with | some ys => some (ys, some i, fs) | none => none)
  | _ => none

/-- the value of a load -/
def wrapV (tab : Tab) (T : TypeId) (cs : List C) : V :=
  match tget tab T with
  | some (.st _ _ _ _) => .agg cs
  | some _ => (match cs with | [c] => .c c | _ => .c .undef)
  | none => .c .undef

def vcLoadE (tab : Tab) (σ : SS) (K : SS → Prop) (T : TypeId) (d k : Nat) (E : ETy) (i : Unit → Nat) (off : Nat) : Prop :=
  match closeB σ.blk k with
  | some bs =>
    match elB bs k E, szT tab T with
    | some (xs, none, _), some n =>
      if off + n ≤ E.sz then
        match openN E xs i k (listCells (((cellsT E (getE E xs i)).drop off).take n) off (8 * d)) (List.replicate E.sz none) (setB bs k (.hol E xs i (List.replicate E.sz none))) with
        | some bs' => K (({ σ with blk := bs' } : SS).put (some d) (wrapV tab T (valCells (((cellsT E (getE E xs i)).drop off).take n) (8 * d))))
        | none => False
      else False
    | _, _ => False
  | none => False

/-- a list that is told in other words -/
inductive Sv (E : ETy) (t : Unit → List E.α) (K : (Unit → List E.α) → Prop) : Prop where
  | mk (u : Unit → List E.α) (h : t () = u ()) (hk : K u)

theorem Sv.keep {E : ETy} {t : Unit → List E.α} {K : (Unit → List E.α) → Prop} (hk : K t) : Sv E t K := ⟨t, rfl, hk⟩

/-- cells of element i are others -/
def stE (σ : SS) (K : SS → Prop) (k : Nat) (E : ETy) (xs : Unit → List E.α) (i : Unit → Nat) (fs : List (Option Nat)) (off n : Nat) (ls : List Lf) (ks : List Nat) : Prop :=
  match toE E (spliceL (cellsT E (getE E xs i)) off ls) with
  | some x => if ls.length = n ∧ off + n ≤ E.sz ∧ nodupB (k :: ks) = true then Sv E (fun _ => (xs ()).set (i ()) (x ())) fun ys => K { σ with blk := setB (killL σ.blk (k :: ks)) k (mkHol E ys i (clearF fs off ls.length)) } else False
  | none => False

def vcStoreE (tab : Tab) (σ : SS) (K : SS → Prop) (T : TypeId) (k : Nat) (E : ETy) (i : Unit → Nat) (off : Nat) (v : V) : Prop :=
  match elB σ.blk k E, szT tab T, cellsV v with
  | some (xs, oi, fs), some n, some cs =>
    match mkCells σ.blk (((zOf E).drop off).take n) cs with
    | some (ls, ks) =>
      match oi with
      | none => stE σ K k E xs i fs off n ls ks
      | some i' => Ob (fun _ => i () = i' ()) fun _ => stE σ K k E xs i' fs off n ls ks
    | none => False
  | _, _, _ => False

section
variable {P : Program} {tab : Tab} (hT : tabB P tab = true) {Γ : Ctx} {H : Hp}

theorem lf_list {E E' : ETy} {t : Unit → List E'.α} {u : Unit → List E.α} (h : Lf.list E' t = Lf.list E u) {B : (E : ETy) → (Unit → List E.α) → Prop} (hB : B E' t) : B E u := by
  injection h with h1 h2
  subst h1
  have := eq_of_heq h2
  subst this
  exact hB

/-- an owned list's elements, seen as a list of which cells of one element may be open -/
theorem elB_ok {w : World} {bs : List (Nat × Blk)} {ρ : Rho} {D : Nat → Prop} {k : Nat} {E : ETy} {xs : Unit → List E.α} {oi : Option (Unit → Nat)} {fs : List (Option Nat)} (h : elB bs k E = some (xs, oi, fs))
    (hb : ∀ B, getB bs k = some B → BlkR w.heap H ρ D B (ρ k)) {i : Unit → Nat} {b o n c : Nat} (hv : (ρ k).1 = .slice (some ⟨b, o, none⟩) n c) (hi : i () < n) :
    BlkR w.heap H ρ D (.hol E xs (oi.getD i) fs) (ρ k) ∧ n = (xs ()).length ∧ (∃ B, getB bs k = some B ∧ ∀ x, 0 < (ρ k).2 x → Top B (ρ k) x) ∧ (oi = none → fs = List.replicate E.sz none ∧ getB bs k = some (.own E xs false)) := by
  unfold elB at h
  split at h
  · rename_i E' xs' hg
    split at h
    · rename_i ys hc
      simp only [Option.some.injEq, Prod.mk.injEq] at h
      obtain ⟨rfl, rfl, rfl⟩ := h
      have h0 := hb _ hg
      have hlf := castL_ok hc
      have hn : n = (ys ()).length ∧ BlkR w.heap H ρ D (.own E ys false) (ρ k) := by
        have h1 : BlkR w.heap H ρ D (.own E ys false) (ρ k) := lf_list hlf (B := fun E u => BlkR w.heap H ρ D (.own E u false) (ρ k)) h0
        have h2 : OwnL w.heap (.list E ys) (ρ k).1 (ρ k).2 := h1
        obtain ⟨b', c', h3, _⟩ := OwnL.slice h2
        rw [hv] at h3
        simp only [Value.slice.injEq] at h3
        exact ⟨h3.2.1, h1⟩
      obtain ⟨rfl, h1⟩ := hn
      have hgo : getB bs k = some (.own E ys false) := by
        rw [hg]
        exact lf_list hlf (B := fun E u => some (Blk.own E' xs' false) = some (Blk.own E u false)) rfl
      exact ⟨own_hol h1 hi (by simp), rfl, ⟨_, hg, fun x hx => hx⟩, fun _ => ⟨rfl, hgo⟩⟩
    · cases h
  · rename_i E' xs' i' fs' hg
    split at h
    · rename_i ys hc
      simp only [Option.some.injEq, Prod.mk.injEq] at h
      obtain ⟨rfl, rfl, rfl⟩ := h
      have h0 := hb _ hg
      have h1 : BlkR w.heap H ρ D (.hol E ys i' fs') (ρ k) := lf_list (castL_ok hc) (B := fun E u => BlkR w.heap H ρ D (.hol E u i' fs') (ρ k)) h0
      have hn : n = (ys ()).length := by
        obtain ⟨b', o', c', _, _, _, _, h3, _⟩ := h1
        rw [hv] at h3
        simp only [Value.slice.injEq] at h3
        exact h3.2.1
      exact ⟨h1, hn, ⟨_, hg, fun x hx => hx⟩, fun h => by cases h⟩
    · cases h
  · cases h

/-- cells of an element get names -/
theorem openN_ok (hd0 : Γ.hd = []) {E : ETy} {xs : Unit → List E.α} {i : Unit → Nat} {k : Nat} {env : List V} {a : Act} {w : World} : ∀ {l : List (Nat × Nat)} {fs : List (Option Nat)} {bs bs' : List (Nat × Blk)} {ρ : Rho},
    openN E xs i k l fs bs = some bs' → RelH Γ H ρ { env := env, blk := bs } a w → getB bs k = some (.hol E xs i fs) →
    ∃ ρ', RelH Γ H ρ' { env := env, blk := bs' } a w ∧ (∀ q, dom bs q → dom bs' q ∧ (ρ' q).1 = (ρ q).1) ∧
      ∀ p ∈ l, dom bs' p.2 ∧ ∃ b o n c cs e fz, (ρ k).1 = .slice (some ⟨b, o, none⟩) n c ∧ w.heap[b]? = some (.cells cs e fz) ∧ (ρ' p.2).1 = cs.getD (o + (i () * E.sz + p.1)) Go.undef
  | [], fs, bs, bs', ρ, h, r, hk => by
    simp only [openN, Option.some.injEq] at h
    subst h
    exact ⟨ρ, r, fun q hq => ⟨hq, rfl⟩, fun p hp => by cases hp⟩
  | (j, kk) :: l, fs, bs, bs', ρ, h, r, hk => by
    simp only [openN] at h
    split at h
    · rename_i E' ys hj hf hkk
      obtain ⟨ρ1, r1, g1, g2⟩ := RelH.open1 hd0 r hk hkk hj hf
      have hkd : dom bs k := getB_dom hk
      have hk1 : getB (setB (insB (setB bs k .dead) kk (.own E' ys false)) k (.hol E xs i (fs.set j (some kk)))) k = some (.hol E xs i (fs.set j (some kk))) := getB_setB_same (dom_insB.2 (.inr (dom_setB.2 hkd)))
      obtain ⟨ρ2, r2, g3, g4⟩ := openN_ok hd0 h r1 hk1
      have hd1 : ∀ q, dom bs q → dom (setB (insB (setB bs k .dead) kk (.own E' ys false)) k (.hol E xs i (fs.set j (some kk)))) q := fun q hq => dom_setB.2 (dom_insB.2 (.inr (dom_setB.2 hq)))
      refine ⟨ρ2, r2, fun q hq => ⟨(g3 q (hd1 q hq)).1, by rw [(g3 q (hd1 q hq)).2, g1 q hq]⟩, fun p hp => ?_⟩
      rcases List.mem_cons.1 hp with rfl | hp
      · have hq := g3 kk (dom_setB.2 (dom_insB.2 (.inl rfl)))
        obtain ⟨b, o, n, c, cs, e, fz, q1, q2, q3⟩ := g2
        exact ⟨hq.1, b, o, n, c, cs, e, fz, q1, q2, by rw [hq.2]; exact q3⟩
      · obtain ⟨q0, b, o, n, c, cs, e, fz, q1, q2, q3⟩ := g4 p hp
        exact ⟨q0, b, o, n, c, cs, e, fz, by rw [← g1 k hkd]; exact q1, q2, q3⟩
    · cases h

include hT in
theorem szT_info {T : TypeId} {n : Nat} (hsz : szT tab T = some n) : ∃ i, P.info? T = some i ∧ i.size = n := by
  unfold szT at hsz
  split at hsz
  · rename_i hti; cases hsz
    obtain ⟨fields, _, _, i, cs, h1, h2, _⟩ := ti_st (tget_ok hT hti)
    exact ⟨i, h1, h2⟩
  · rename_i ti hne hti; cases hsz
    have sc : ∀ {t : TypeId} {z : Z}, tiB P t (.sc z) = true → ∃ i, P.info? t = some i ∧ i.size = 1 := fun {t z} h => by
      obtain ⟨_, i, v, h1, h2, _⟩ := ti_sc h; exact ⟨i, h1, h2⟩
    have ht := tget_ok hT hti
    cases ti with
    | st n fs z q => exact (hne _ _ _ _ rfl).elim
    | sl E elem bytes => exact sc (ti_sl' ht)
    | sc z => exact sc ht
    | it k => exact sc (ti_it ht).2
    | bt => exact sc (ti_bt ht).2
    | ss => exact sc (ti_ss ht).2
  · cases hsz

section
variable {ρ : Rho} {σ : SS} {a : Act} {w : World} (r : RelH Γ H ρ σ a w)
include hT r

theorem vcLoadE_ok (hd0 : Γ.hd = []) {K : SS → Prop} {T : TypeId} {d k : Nat} {E : ETy} {i : Unit → Nat} {off : Nat} {p : Value} (h : vcLoadE tab σ K T d k E i off) (hp : RV H ρ (dom σ.blk) (.c (.oel k E i off)) p) :
    ∃ σ' y ρ', K σ' ∧ RelH Γ H ρ' σ' (a.put (some d) y) w ∧ (Instr.loadAt T p).run P w = .ok y w := by
  unfold vcLoadE at h
  split at h
  · rename_i bs hcl
    split at h
    · rename_i xs fs n hel hsz
      split at h
      · rename_i hoff
        split at h
        · rename_i bs' hop
          obtain ⟨ρ1, r1, f1⟩ := RelH.close hd0 r hcl
          obtain ⟨_, b, o, n', c, hv, hi, rfl⟩ := hp
          have hv1 : (ρ1 k).1 = .slice (some ⟨b, o, none⟩) n' c := by rw [f1]; exact hv
          obtain ⟨hB, rfl, ⟨B, hgB, hBt⟩, hown⟩ := elB_ok (i := i) hel (fun B hB => r1.b.blk k B (getB_mem hB)) hv1 hi
          obtain ⟨rfl, hgo⟩ := hown rfl
          have hB : BlkR w.heap H ρ1 (dom bs) (.hol E xs i (List.replicate E.sz none)) (ρ1 k) := hB
          have hkd : dom bs k := getB_dom hgo
          -- the list with an element that may be opened
          have r2 : RelH Γ H ρ1 { env := σ.env, blk := setB bs k (.hol E xs i (List.replicate E.sz none)) } a w :=
            RelH.setBlk (σ := { env := σ.env, blk := bs }) r1 hgo (fun _ _ => rfl) (Ext.refl _) hB (fun x hx => hx) (fun x hx => hx)
          obtain ⟨ρ3, r3, g3, g4⟩ := openN_ok hd0 hop r2 (getB_setB_same hkd)
          obtain ⟨b', o', c', cs, e, fz, S, h1, h2, h3, h4, h5, h6, h7, h8, h9⟩ := hB
          rw [hv1] at h1
          simp only [Value.slice.injEq, Option.some.injEq, Addr.mk.injEq, and_true] at h1
          obtain ⟨⟨rfl, rfl⟩, _, rfl⟩ := h1
          have hxi : (xs ())[i ()]? = some (getE E xs i ()) := by
            simp only [getE, List.getD_eq_getElem?_getD, List.getElem?_eq_getElem h8, Option.getD_some]
          have hin : i () * E.sz + E.sz ≤ (xs ()).length * E.sz := by
            have := Nat.mul_le_mul_right E.sz (show i () + 1 ≤ (xs ()).length from h8)
            rwa [Nat.add_mul, Nat.one_mul] at this
          have hcap := Nat.mul_le_mul_right E.sz h5
          have hval : ∀ (m : Nat) cv, (valCells (((cellsT E (getE E xs i)).drop off).take n) (8 * d))[m]? = some cv → RC H ρ3 (dom bs') cv (cs.getD (o + i () * E.sz + off + m) Go.undef) := fun m cv hm => by
            obtain ⟨l, q1, q2⟩ := valCells_get (j := off) hm
            rw [List.getElem?_take, List.getElem?_drop] at q1
            split at q1
            · rename_i hmn
              rcases q2 with ⟨q2, rfl⟩ | ⟨q, rfl, q3⟩
              · have q4 := h9 (i ()) _ hxi (off + m) l q1
                rw [filled_none (by simp)] at q4
                have q5 : OwnL w.heap l (cs.getD (o + (i () * E.sz + (off + m))) Go.undef) (S (i ()) (off + m)) := q4
                rw [show o + i () * E.sz + off + m = o + (i () * E.sz + (off + m)) by omega]
                exact q5.rl_sc q2
              · obtain ⟨q4, b2, o2, n2, c2, cs2, e2, fz2, q5, q6, q7⟩ := g4 _ q3
                rw [hv1] at q5
                simp only [Value.slice.injEq, Option.some.injEq, Addr.mk.injEq, and_true] at q5
                obtain ⟨⟨rfl, rfl⟩, _, _⟩ := q5
                rw [h3] at q6
                cases q6
                refine ⟨q4, ?_⟩
                rw [q7, show o + i () * E.sz + off + m = o + (i () * E.sz + (off + m)) by omega]
            · cases q1
          have hlen : (((cellsT E (getE E xs i)).drop off).take n).length = n := by
            rw [List.length_take, List.length_drop, cellsT_len]; omega
          unfold szT at hsz
          unfold wrapV at h
          split at hsz
          · rename_i m fs' z q hti
            have hsz : m = n := by simpa using hsz
            subst hsz
            rw [hti] at h
            obtain ⟨dd, ii, h10, h11, h12, h13⟩ := ti_agg (tget_ok hT hti)
            refine ⟨_, .agg ((List.range ii.size).map fun j => cs.getD (o + i () * E.sz + off + j) Go.undef).toArray, ρ3, h, RelH.put (v := .agg (valCells (((cellsT E (getE E xs i)).drop off).take m) (8 * d))) r3 (x := .agg ((List.range ii.size).map fun j => cs.getD (o + i () * E.sz + off + j) Go.undef).toArray) ⟨_, rfl, ?_⟩ (some d), run_loadAgg h10 h11 h12 h3 (by rw [h13]; omega)⟩
            refine ⟨by simp [valCells_len, hlen, h13], fun m cv hm => ?_⟩
            have hmn : m < ii.size := by have := lt_of_get hm; rw [valCells_len, hlen] at this; omega
            rw [Array.getD_eq_getD_getElem?]
            simp only [List.getElem?_toArray, List.getElem?_map, List.getElem?_range hmn, Option.map_some, Option.getD_some]
            exact hval m cv hm
          · rename_i ti hne hti
            simp only [Option.some.injEq] at hsz
            subst hsz
            rw [hti] at h
            obtain ⟨dd, ii, h10, h11⟩ := ti_agg (tget_ok hT hti)
            have h11 : aggD dd = false := by
              split at h11
              · exact (hne _ _ _ _ rfl).elim
              · exact h11
            have hlt : o + i () * E.sz + off < cs.size := by omega
            refine ⟨_, cs.getD (o + i () * E.sz + off) Go.undef, ρ3, h, RelH.put r3 ?_ (some d), run_loadSc h10 h11 h3 (getD_some hlt)⟩
            split
            · rename_i heq
              cases heq
              exact (hne _ _ _ _ rfl).elim
            · split
              · rename_i cv hcv
                exact hval 0 cv (by rw [hcv]; rfl)
              · trivial
            · rename_i hh; cases hh
          · cases hsz
        · cases h
      · cases h
    · cases h
  · cases h


theorem vcStoreE_ok (hd0 : Γ.hd = []) {K : SS → Prop} {T : TypeId} {k : Nat} {E : ETy} {i : Unit → Nat} {off : Nat} {v : V} {p u : Value} (h : vcStoreE tab σ K T k E i off v) (hp : RV H ρ (dom σ.blk) (.c (.oel k E i off)) p) (hv : RV H ρ (dom σ.blk) v u) :
    ∃ σ' w' ρ', K σ' ∧ RelH Γ H ρ' σ' a w' ∧ (Instr.storeAt T p u).run P w = .ok () w' := by
  have key : ∀ {xs : Unit → List E.α} {i' : Unit → Nat} {fs : List (Option Nat)} {n : Nat} {ls : List Lf} {ks : List Nat} {cs : List C} {b o n' c : Nat}, (ρ k).1 = .slice (some ⟨b, o, none⟩) n' c → i () = i' () → p = .pointer (some ⟨b, o + i () * E.sz + off, none⟩) → dom σ.blk k →
      BlkR w.heap H ρ (dom σ.blk) (.hol E xs i' fs) (ρ k) → (∀ x, 0 < (ρ k).2 x → H x = none) → szT tab T = some n → cellsV v = some cs → mkCells σ.blk (((zOf E).drop off).take n) cs = some (ls, ks) → stE σ K k E xs i' fs off n ls ks →
      ∃ σ' w' ρ', K σ' ∧ RelH Γ H ρ' σ' a w' ∧ (Instr.storeAt T p u).run P w = .ok () w' := by
    intro xs i' fs n ls ks cs b o n' c hhd hii hpv hkd hB hHk hsz hcs hmk hst
    unfold stE at hst
    split at hst
    · rename_i x hx
      split at hst
      · rename_i hcond
        obtain ⟨hln, hoff, hn⟩ := hcond
        have hc := hv.cells hcs fun k hk => by
          rw [hk] at hv
          exact own_one r hv
        obtain ⟨S, g1, g2, g3, g4, g5⟩ := mkCells_ok r hmk (f := fun j => u.cells.getD j Go.undef) hc.2
        have hu : u.cells.toList.length = ls.length := by rw [Array.length_toList, hc.1, g2]
        have hcell : cellsT E x = spliceL (cellsT E (getE E xs i')) off ls := toE_ok hx fun t ht => by
          have hsl : (spliceL (cellsT E (getE E xs i')) off ls).length = E.sz := by
            simp only [spliceL, List.length_append, List.length_take, List.length_drop, cellsT_len]; omega
          have h1 : E.sz = 1 := by rw [← hsl, ht]; rfl
          have hint : ∀ (v : Value) (T : Nat → Nat), OwnL w.heap (.int .u8 t) v T → IntKind.u8.has (t ()) := fun v T h => by
            cases h with
            | int hr => exact hr
          have h0 : (spliceL (cellsT E (getE E xs i')) off ls)[0]? = some (.int .u8 t) := by rw [ht]; rfl
          rw [splice_get (by rw [cellsT_len]; omega)] at h0
          split at h0
          · exact hint _ _ (g5 _ _ h0)
          · obtain ⟨b', o', c', cs', e, fz, S', h1', h2, h3, h4, h5, h6, h7, h8, h9⟩ := hB
            have hxi : (xs ())[i' ()]? = some (getE E xs i' ()) := by
              simp only [getE, List.getD_eq_getElem?_getD, List.getElem?_eq_getElem h8, Option.getD_some]
            have hcE : IntKind.u8.has (t ()) := by
              cases E <;> first | (exfalso; simp only [ETy.sz] at h1; omega) | skip
              · simp [cellsT] at h0
              · simp only [cellsT, List.getElem?_cons_zero, Option.some.injEq, Lf.int.injEq, true_and] at h0
                subst h0
                refine has_u8.2 ⟨?_, ?_⟩
                · show (0 : Int) ≤ ((getE .byte xs i' ()).toNat : Int)
                  omega
                · show ((getE .byte xs i' ()).toNat : Int) ≤ 255
                  have := (getE .byte xs i' ()).toNat_lt
                  omega
              · simp [cellsT] at h0
              · simp [cellsT] at h0
            exact hcE
        obtain ⟨w', g6, ρ', g7⟩ := r.storeHol (P := P) hd0 hn hkd hB hHk g3 hhd hu (by omega) (T := fun j => S.getD j fun _ => 0) (fun j l hj => by
            have := g5 j l hj
            rw [List.getD_eq_getElem?_getD, Array.getElem?_toList, ← Array.getD_eq_getD_getElem?]
            exact this) (fun y => by rw [← g4 y, ← sumF_eq, g1]) hcell
        obtain ⟨ii, hii', his⟩ := szT_info hT hsz
        obtain ⟨u', hu', hst⟩ := hst
        have he : (fun _ => (xs ()).set (i' ()) (x ())) = u' := funext fun _ => hu'
        rw [he] at g7
        refine ⟨_, w', ρ', hst, g7, ?_⟩
        have hcs' : ¬ (u.cells.size ≠ ii.size) := by rw [hc.1, ← g2, hln, his]; simp
        rw [← hii] at g6
        simp only [hpv, Instr.storeAt, Instr.sureAddr, storeVar, Sem.run_bind, Sem.run_pure, Result.andThen_ok, run_szOf w hii']
        rw [if_neg hcs']
        exact g6
      · cases hst
    · cases hst
  unfold vcStoreE at h
  obtain ⟨_, b, o, n', c, hhd, hi, hpv⟩ := hp
  split at h
  · rename_i xs oi fs n cs hel hsz hcs
    obtain ⟨hB, rfl, ⟨B, hgB, hBt⟩, hown⟩ := elB_ok (i := i) hel (fun B hB => r.b.blk k B (getB_mem hB)) hhd hi
    have hHk : ∀ x, 0 < (ρ k).2 x → H x = none := fun x hx => r.b.tops k B (getB_mem hgB) x (hBt x hx)
    split at h
    · rename_i ls ks hmk
      split at h
      · exact key hhd rfl hpv (getB_dom hgB) hB hHk hsz hcs hmk h
      · rename_i i'
        obtain ⟨hii, h⟩ := h
        exact key hhd hii hpv (getB_dom hgB) hB hHk hsz hcs hmk h
    · cases h
  · cases h

end
end

end Go.Proofs.Ytnmdhpaobmjefaa
