/- Parts of a proof. No conditions. -/

import Derived.Test.YtlochjpjlhkjaaaG09
import Derived.Test.YtlochjpjlhkjaaaG10
set_option linter.unusedSimpArgs false
set_option linter.unusedVariables false
namespace Go.Proofs.Ytlochjpjlhkjaaa
open Go
set_option maxRecDepth 100000
def allP (w : List (List Pin)) : List Pin := w.flatten
structure WhG (w : List (List Pin)) : Prop where
  len : w.length = 9
  few : (allP w).length ≤ 10
  ok : ∀ p ∈ allP w, pinOkB p = true
  ne : (allP w).Pairwise fun a b => a.pid ≠ b.pid
  at_ : ∀ (k : Nat) l, w[k]? = some l → ∀ p ∈ l, p.tm.tmod 9 = (k : Int)
  srt : ∀ l ∈ w, l.Pairwise fun a b => pinLt a b = true
instance (w : List (List Pin)) : Decidable (∀ (k : Nat) l, w[k]? = some l → ∀ p ∈ l, p.tm.tmod 9 = (k : Int)) :=
  decidable_of_iff (∀ k : Fin w.length, ∀ p ∈ w[k], p.tm.tmod 9 = (k.1 : Int)) ⟨fun h k l hl p hp => by
    have hk := lt_of_get hl
    have := h ⟨k, hk⟩ p
    rw [List.getElem?_eq_getElem hk] at hl
    cases hl
    exact this hp, fun h k p hp => h k.1 w[k] (List.getElem?_eq_getElem k.2) p hp⟩
instance (w : List (List Pin)) : Decidable (WhG w) :=
  decidable_of_iff (w.length = 9 ∧ (allP w).length ≤ 10 ∧ (∀ p ∈ allP w, pinOkB p = true) ∧ ((allP w).Pairwise fun a b => a.pid ≠ b.pid) ∧ (∀ (k : Nat) l, w[k]? = some l → ∀ p ∈ l, p.tm.tmod 9 = (k : Int)) ∧ ∀ l ∈ w, l.Pairwise fun a b => pinLt a b = true)
    ⟨fun ⟨a, b, c, d, e, f⟩ => ⟨a, b, c, d, e, f⟩, fun ⟨a, b, c, d, e, f⟩ => ⟨a, b, c, d, e, f⟩⟩
def wheelOkB (w : List (List Pin)) : Bool := decide (WhG w)
def wheelPins (w : List (List Pin)) : List Pin := if wheelOkB w = true then sortR pinLt (allP w) else []
theorem flat_take {w : List (List Pin)} {i : Nat} (h : i < w.length) : (w.take (i + 1)).flatten = (w.take i).flatten ++ w[i] := by
  rw [List.take_add_one, List.getElem?_eq_getElem h, List.flatten_append]; simp
theorem flat_len_le {w : List (List Pin)} (i : Nat) : (w.take i).flatten.length ≤ w.flatten.length := by
  have h : (w.take i ++ w.drop i).flatten = w.flatten := by rw [List.take_append_drop]
  rw [List.flatten_append] at h
  have := congrArg List.length h
  rw [List.length_append] at this
  omega
theorem flat_big {w : List (List Pin)} (n : Nat) (h : ∀ x ∈ w, x.length ≤ n) : w.flatten.length ≤ w.length * n := by
  induction w with
  | nil => simp
  | cons a w ih =>
    have h1 := h a List.mem_cons_self
    have h2 := ih fun x hx => h x (List.mem_cons_of_mem _ hx)
    simp only [List.flatten_cons, List.length_append, List.length_cons, Nat.add_mul]
    omega
def SmP (w : List (List Pin)) : Prop := w.length ≤ bigN ∧ (allP w).length ≤ 1099511627776
theorem SmP.of {w : List (List Pin)} (h : w.length ≤ bigN) (h1 : ∀ x ∈ w, x.length ≤ bigN) : SmP w := by
  refine ⟨h, Nat.le_trans (flat_big _ h1) ?_⟩
  exact Nat.mul_le_mul h (Nat.le_refl bigN)
theorem l9All_ok (w : List (List Pin)) (hw : SmP w) : Spec Try.prog 70 [whA w] (Ret (lR .pin fun _ => allP w)) := by
  refine spec_of tabOk Try.func70 rfl rfl (fr := true) (fun _ => by kernel_rfl) fun P hP hA => ?_
  have hl : w.length ≤ 1048576 := hw.1
  have hp : w.flatten.length ≤ 1099511627776 := hw.2
  cbv
  repeat (refine Pz.mk ?_; cbv)
  refine LoopE.by (X := Nat) (fun i => [(1, pN 0), (3, oN 1), (4, nT fun _ => i)]) (fun i => [(0, .box [.lf (.list .spk fun _ => w)]), (1, ownB' .pin fun _ => (w.take i).flatten)]) (fun i => i ≤ w.length) (fun i _ => w.length - i) 0 (Nat.zero_le _) ?_ ?_
  · cbv
    repeat (refine Pz.mk ?_; cbv)
    repeat' first | exact trivial | refine ⟨rfl, ?_⟩ | fail
  · intro i hi
    cbv
    repeat (refine Pz.mk ?_; cbv)
    refine Br.dec (fun h2 => ?_) (fun h2 => ?_) <;> (cbv; repeat (refine Pz.mk ?_; cbv))
    · have h2 : i < w.length := by simpa using h2
      refine ⟨w[i], by simp, get_cast w h2, ?_⟩
      cbv
      repeat (refine Pz.mk ?_; cbv)
      refine ⟨?_, ?_⟩
      · show (List.length (w.take i).flatten + List.length w[i]) * 16 ≤ 140737488355328
        have h3 := flat_len_le (w := w) (i + 1)
        rw [flat_take h2, List.length_append] at h3
        omega
      cbv
      repeat (refine Pz.mk ?_; cbv)
      refine Ar.exact (by (try simp only [nc] at *); omega) (by (try simp only [nc] at *); omega) ?_
      cbv
      repeat (refine Pz.mk ?_; cbv)
      refine NextE.by (i + 1) ?_ ?_ ?_
      · show w.length - (i + 1) < w.length - i
        omega
      · exact h2
      · cbv
        repeat (refine Pz.mk ?_; cbv)
        repeat' first | exact trivial | refine ⟨rfl, ?_⟩ | fail
        refine ⟨(flat_take h2).symm, trivial⟩
    · have h2 : w.length ≤ i := by simp at h2; omega
      refine ⟨?_, trivial⟩
      show (w.take i).flatten = allP w
      rw [List.take_of_length_le h2]; rfl
theorem wh_no {w : List (List Pin)} (h : ¬ WhG w) : wheelOkB w = false := by simp [wheelOkB, h]
structure PPre (l : List Pin) (i : Nat) : Prop where
  ok : ∀ p ∈ l.take i, pinOkB p = true
  ne : (l.take i).Pairwise fun a b => a.pid ≠ b.pid
theorem PPre.snoc {l : List Pin} {i : Nat} (hi : i < l.length) (h : PPre l i) (ok : pinOkB l[i] = true) (ne : ∀ (j : Nat) x, j < i → l[j]? = some x → (x.pid == l[i].pid) = false) : PPre l (i + 1) := by
  have e : l.take (i + 1) = l.take i ++ [l[i]] := by rw [List.take_add_one, List.getElem?_eq_getElem hi]; rfl
  constructor
  · intro p hp
    rw [e, List.mem_append] at hp
    rcases hp with hp | hp
    · exact h.ok p hp
    · cases List.mem_singleton.1 hp; exact ok
  · rw [e, List.pairwise_append]
    refine ⟨h.ne, List.pairwise_singleton _ _, fun a ha b hb => ?_⟩
    cases List.mem_singleton.1 hb
    obtain ⟨j, hj⟩ := List.mem_iff_getElem?.1 ha
    rw [List.getElem?_take] at hj
    split at hj
    · have := ne j a (by assumption) hj
      simpa using this
    · cases hj
theorem ne_at {l : List Pin} (h : l.Pairwise fun a b => a.pid ≠ b.pid) {i : Nat} (hi : i < l.length) {j : Nat} {x : Pin} (hj : j < i) (hx : l[j]? = some x) : (x.pid == l[i].pid) = false := by
  have := (List.pairwise_iff_getElem.1 h) j i (by omega) hi hj
  rw [List.getElem?_eq_getElem (by omega)] at hx
  cases hx
  simpa using this
structure SPre (w : List (List Pin)) (i : Nat) : Prop where
  at_ : ∀ (k : Nat) l, k < i → w[k]? = some l → ∀ p ∈ l, p.tm.tmod 9 = (k : Int)
  srt : ∀ (k : Nat) l, k < i → w[k]? = some l → l.Pairwise fun a b => pinLt a b = true
structure RPre (l : List Pin) (k j : Nat) : Prop where
  at_ : ∀ p ∈ l.take j, p.tm.tmod 9 = (k : Int)
  srt : (l.take j).Pairwise fun a b => pinLt a b = true
theorem RPre.zero (l : List Pin) (k : Nat) : RPre l k 0 := ⟨fun p hp => by simp at hp, by simp⟩
theorem RPre.snoc {l : List Pin} {k j : Nat} (hj : j < l.length) (h : RPre l k j) (ok : l[j].tm.tmod 9 = (k : Int)) (lt : 0 < j → pinLt (l[j - 1]'(by omega)) l[j] = true) : RPre l k (j + 1) := by
  have e : l.take (j + 1) = l.take j ++ [l[j]] := by rw [List.take_add_one, List.getElem?_eq_getElem hj]; rfl
  constructor
  · intro p hp
    rw [e, List.mem_append] at hp
    rcases hp with hp | hp
    · exact h.at_ p hp
    · cases List.mem_singleton.1 hp; exact ok
  · rw [e, List.pairwise_append]
    refine ⟨h.srt, List.pairwise_singleton _ _, fun a ha b hb => ?_⟩
    cases List.mem_singleton.1 hb
    obtain ⟨m, hm⟩ := List.mem_iff_getElem?.1 ha
    rw [List.getElem?_take] at hm
    split at hm
    · rename_i hmj
      have hl := lt (by omega)
      rcases Nat.lt_or_ge m (j - 1) with h1 | h1
      · have h2 := (List.pairwise_iff_getElem.1 h.srt) m (j - 1) (by rw [List.length_take]; omega) (by rw [List.length_take]; omega) h1
        simp only [List.getElem_take] at h2
        rw [List.getElem?_eq_getElem (by omega)] at hm
        cases hm
        exact pinSWO.tr _ _ _ h2 hl
      · obtain rfl : m = j - 1 := by omega
        rw [List.getElem?_eq_getElem (by omega)] at hm
        cases hm; exact hl
    · cases hm
theorem SPre.snoc {w : List (List Pin)} {i : Nat} (hi : i < w.length) (h : SPre w i) (hr : RPre w[i] i w[i].length) : SPre w (i + 1) := by
  have e : w[i].take w[i].length = w[i] := List.take_length
  constructor
  · intro k l hk hl
    rcases Nat.lt_or_ge k i with h1 | h1
    · exact h.at_ k l h1 hl
    · obtain rfl : k = i := by omega
      rw [List.getElem?_eq_getElem hi] at hl
      cases hl
      have := hr.at_
      rwa [e] at this
  · intro k l hk hl
    rcases Nat.lt_or_ge k i with h1 | h1
    · exact h.srt k l h1 hl
    · obtain rfl : k = i := by omega
      rw [List.getElem?_eq_getElem hi] at hl
      cases hl
      have := hr.srt
      rwa [e] at this
theorem wh_yes {w : List (List Pin)} (h9 : w.length = 9) (few : (allP w).length ≤ 10) (hp : PPre (allP w) (allP w).length) (hs : SPre w w.length) : wheelOkB w = true := by
  have h1 := hp.ok
  have h2 := hp.ne
  rw [List.take_length] at h1 h2
  have : WhG w := ⟨h9, few, h1, h2, fun k l hl => hs.at_ k l (lt_of_get hl) hl, fun l hl => by
    obtain ⟨k, hk⟩ := List.mem_iff_getElem?.1 hl
    exact hs.srt k l (lt_of_get hk) hk⟩
  simp [wheelOkB, this]
theorem WhG.row {w : List (List Pin)} (h : WhG w) {k : Nat} (hk : k < w.length) {j : Nat} (hj : j < w[k].length) : w[k][j].tm.tmod 9 = (k : Int) ∧ (0 < j → pinLt (w[k][j - 1]'(by omega)) w[k][j] = true) := by
  refine ⟨h.at_ k w[k] (List.getElem?_eq_getElem hk) _ (List.getElem_mem hj), fun h0 => ?_⟩
  exact (List.pairwise_iff_getElem.1 (h.srt w[k] (List.getElem_mem hk))) (j - 1) j (by omega) hj (by omega)
set_option maxHeartbeats 1000000 in
theorem specWheelOk_ok (w : List (List Pin)) (hw : SmP w) (b : Bool) (hb : b = wheelOkB w) : Spec Try.prog 63 [whA w] (Ret (bR fun _ => b)) := by
  refine spec_of tabOk Try.func63 rfl rfl (fr := true) (fun _ => by kernel_rfl) fun P hP hA => ?_
  have hl : w.length ≤ 1048576 := hw.1
  have hpl : (allP w).length ≤ 1099511627776 := hw.2
  obtain ⟨⟨⟨ha, hb'⟩, _⟩, _⟩ := hA
  have hb' : ∀ x ∈ w, x.length ≤ 9223372036854775807 := hb'
  have no : ¬ WhG w → b = false := fun h => hb.trans (wh_no h)
  cbv
  repeat (refine Pz.mk ?_; cbv)
  refine CallA.by hP (l9All_ok w hw) ?_
  cbv
  repeat (refine Pz.mk ?_; cbv)
  refine Br.split (fun h9 => ?_) (fun h9 => ?_) <;> (cbv; repeat (refine Pz.mk ?_; cbv))
  · refine ⟨?_, trivial⟩
    exact (no (fun h => by have := h.len; simp [this] at h9)).symm
  have h9 : ((w.length : Int) != 9) = false := h9
  have h9 : w.length = 9 := by simp at h9; omega
  refine Br.dec (fun h10 => ?_) (fun h10 => ?_) <;> (cbv; repeat (refine Pz.mk ?_; cbv))
  · have h10 : ((allP w).length : Int) > 10 := h10
    refine ⟨?_, trivial⟩
    exact (no (fun h => by have := h.few; omega)).symm
  have h10 : ¬ ((allP w).length : Int) > 10 := h10
  have h10 : (allP w).length ≤ 10 := by omega
  refine LoopE.by (X := Nat) (fun i => [(1, pN 0), (3, oN 1), (4, nT fun _ => i)]) (fun i => [(0, .box [.lf (.list .spk fun _ => w)]), (1, ownB' .pin fun _ => allP w)]) (fun i => i ≤ (allP w).length ∧ PPre (allP w) i) (fun i _ => (allP w).length - i) 0 ⟨Nat.zero_le _, ⟨fun p hp => by simp at hp, by simp⟩⟩ ?_ ?_
  · cbv
    repeat (refine Pz.mk ?_; cbv)
    repeat' first | exact trivial | refine ⟨rfl, ?_⟩ | fail
  · intro i ⟨hi, hp⟩
    cbv
    repeat (refine Pz.mk ?_; cbv)
    refine Br.dec (fun h2 => ?_) (fun h2 => ?_) <;> (cbv; repeat (refine Pz.mk ?_; cbv))
    · have h2 : i < (allP w).length := by simpa using h2
      have gi : (allP w).getD ((i : Int)).toNat default = (allP w)[i] := by rw [Int.toNat_natCast, List.getD_eq_getElem?_getD, List.getElem?_eq_getElem h2]; rfl
      have oi : 0 ≤ (i : Int) ∧ (i : Int) < ((allP w).length : Int) := by omega
      refine ⟨oi, ?_⟩
      cbv
      repeat (refine Pz.mk ?_; cbv)
      refine CallA.by hP (l1InB_ok ((allP w).getD ((i : Int)).toNat default).tm 1 1000008) ?_
      cbv
      repeat (refine Pz.mk ?_; cbv)
      refine Br.split (fun k0 => ?_) (fun k0 => ?_) <;> (cbv; repeat (refine Pz.mk ?_; cbv))
      · refine ⟨?_, trivial⟩
        have k0 : (!isIn ((allP w).getD ((i : Int)).toNat default).tm 1 1000008) = true := k0
        rw [gi] at k0
        exact (no (fun h => by have := h.ok _ (List.getElem_mem h2); simp_all [pinOkB])).symm
      refine ⟨oi, ?_⟩
      cbv
      repeat (refine Pz.mk ?_; cbv)
      refine CallA.by hP (l1InB_ok ((allP w).getD ((i : Int)).toNat default).pid 1 999) ?_
      cbv
      repeat (refine Pz.mk ?_; cbv)
      refine Br.split (fun k1 => ?_) (fun k1 => ?_) <;> (cbv; repeat (refine Pz.mk ?_; cbv))
      · refine ⟨?_, trivial⟩
        have k1 : (!isIn ((allP w).getD ((i : Int)).toNat default).pid 1 999) = true := k1
        rw [gi] at k1
        exact (no (fun h => by have := h.ok _ (List.getElem_mem h2); simp_all [pinOkB])).symm
      have ok : pinOkB (allP w)[i] = true := by
        have k0 : (!isIn ((allP w).getD ((i : Int)).toNat default).tm 1 1000008) = false := k0
        have k1 : (!isIn ((allP w).getD ((i : Int)).toNat default).pid 1 999) = false := k1
        rw [gi] at k0 k1
        simp_all [pinOkB]
      clear k0 k1
      refine LoopE.by (X := Nat) (fun j => [(1, pN 0), (3, oN 1), (4, nT fun _ => i), (5, nT fun _ => j)]) (fun j => [(0, .box [.lf (.list .spk fun _ => w)]), (1, ownB' .pin fun _ => allP w)]) (fun j => j ≤ i ∧ ∀ (m : Nat) x, m < j → (allP w)[m]? = some x → (x.pid == (allP w)[i].pid) = false) (fun j _ => i - j) 0 ⟨Nat.zero_le _, fun m x hm => by omega⟩ ?_ ?_
      · cbv
        repeat (refine Pz.mk ?_; cbv)
        repeat' first | exact trivial | refine ⟨rfl, ?_⟩ | fail
      · intro j ⟨hj, hn⟩
        cbv
        repeat (refine Pz.mk ?_; cbv)
        refine Br.dec (fun h3 => ?_) (fun h3 => ?_) <;> (cbv; repeat (refine Pz.mk ?_; cbv))
        · have h3 : j < i := by simpa using h3
          have hjl : j < (allP w).length := by omega
          have gj : (allP w).getD ((j : Int)).toNat default = (allP w)[j] := by rw [Int.toNat_natCast, List.getD_eq_getElem?_getD, List.getElem?_eq_getElem hjl]; rfl
          have oj : 0 ≤ (j : Int) ∧ (j : Int) < ((allP w).length : Int) := by omega
          repeat' first
            | (refine Ob.mk (by first | exact oi | exact oj) ?_; cbv; repeat (refine Pz.mk ?_; cbv))
            | refine And.intro ?_ ?_
            | fail
          all_goals
            refine Br.split (fun k2 => ?_) (fun k2 => ?_) <;> (cbv; repeat (refine Pz.mk ?_; cbv))
            · refine ⟨?_, trivial⟩
              have k2 : (((allP w).getD ((j : Int)).toNat default).pid == ((allP w).getD ((i : Int)).toNat default).pid) = true := k2
              rw [gi, gj] at k2
              exact (no (fun h => by have := ne_at h.ne h2 h3 (List.getElem?_eq_getElem hjl); rw [this] at k2; cases k2)).symm
            have k2 : (((allP w).getD ((j : Int)).toNat default).pid == ((allP w).getD ((i : Int)).toNat default).pid) = false := k2
            rw [gi, gj] at k2
            refine Ar.exact (by (try simp only [nc] at *); omega) (by (try simp only [nc] at *); omega) ?_
            cbv
            repeat (refine Pz.mk ?_; cbv)
            refine NextE.by (j + 1) ?_ ?_ ?_
            · show i - (j + 1) < i - j
              omega
            · exact ⟨h3, pre_step hjl hn k2⟩
            · cbv
              repeat (refine Pz.mk ?_; cbv)
              repeat' first | exact trivial | refine ⟨rfl, ?_⟩ | fail
        · have h3 : i ≤ j := by simp at h3; omega
          refine Ar.exact (by (try simp only [nc] at *); omega) (by (try simp only [nc] at *); omega) ?_
          cbv
          repeat (refine Pz.mk ?_; cbv)
          refine NextE.by (i + 1) ?_ ?_ ?_
          · show (allP w).length - (i + 1) < (allP w).length - i
            omega
          · exact ⟨h2, hp.snoc h2 ok fun m x hm => hn m x (by omega)⟩
          · cbv
            repeat (refine Pz.mk ?_; cbv)
            repeat' first | exact trivial | refine ⟨rfl, ?_⟩ | fail
    · have h2 : (allP w).length ≤ i := by simp at h2; omega
      have hi' : i ≤ (allP w).length := hi
      obtain rfl : i = (allP w).length := by omega
      clear h2
      refine LoopE.by (X := Nat) (fun i => [(1, pN 0), (6, nT fun _ => i)]) (fun i => [(0, .box [.lf (.list .spk fun _ => w)])]) (fun i => i ≤ w.length ∧ SPre w i) (fun i _ => w.length - i) 0 ⟨Nat.zero_le _, ⟨fun k l hk => by omega, fun k l hk => by omega⟩⟩ ?_ ?_
      · cbv
        repeat (refine Pz.mk ?_; cbv)
        repeat' first | exact trivial | refine ⟨rfl, ?_⟩ | fail
      · intro i ⟨hi, hs⟩
        cbv
        repeat (refine Pz.mk ?_; cbv)
        refine Br.dec (fun h2 => ?_) (fun h2 => ?_) <;> (cbv; repeat (refine Pz.mk ?_; cbv))
        rotate_left
        · have h2 : w.length ≤ i := by simp at h2; omega
          have hi' : i ≤ w.length := hi
          obtain rfl : i = w.length := by omega
          refine ⟨?_, trivial⟩
          exact (hb.trans (wh_yes h9 h10 hp hs)).symm
        have h2 : i < w.length := by simpa using h2
        have hwi : (w[i]).length ≤ 9223372036854775807 := hb' _ (List.getElem_mem h2)
        refine LoopE.by (X := Nat) (fun j => [(1, pN 0), (6, nT fun _ => i), (7, nT fun _ => j)]) (fun j => [(0, .box [.lf (.list .spk fun _ => w)])]) (fun j => j ≤ w[i].length ∧ RPre w[i] i j) (fun j _ => w[i].length - j) 0 ⟨Nat.zero_le _, RPre.zero _ _⟩ ?_ ?_
        · cbv
          repeat (refine Pz.mk ?_; cbv)
          repeat' first | exact trivial | refine ⟨rfl, ?_⟩ | fail
        · intro j ⟨hj, hr⟩
          cbv
          repeat (refine Pz.mk ?_; cbv)
          refine ⟨w[i], by simp, get_cast w h2, ?_⟩
          cbv
          repeat (refine Pz.mk ?_; cbv)
          refine Br.dec (fun h3 => ?_) (fun h3 => ?_) <;> (cbv; repeat (refine Pz.mk ?_; cbv))
          rotate_left
          · have h3 : w[i].length ≤ j := by simp at h3; omega
            have hj' : j ≤ w[i].length := hj
            obtain rfl : j = w[i].length := by omega
            refine Ar.exact (by (try simp only [nc] at *); omega) (by (try simp only [nc] at *); omega) ?_
            cbv
            repeat (refine Pz.mk ?_; cbv)
            refine NextE.by (i + 1) ?_ ?_ ?_
            · show w.length - (i + 1) < w.length - i
              omega
            · exact ⟨h2, hs.snoc h2 hr⟩
            · cbv
              repeat (refine Pz.mk ?_; cbv)
              repeat' first | exact trivial | refine ⟨rfl, ?_⟩ | fail
          have h3 : j < w[i].length := by simpa using h3
          refine ⟨w[i], by simp, get_cast w h2, ?_⟩
          cbv
          repeat (refine Pz.mk ?_; cbv)
          refine ⟨w[i][j], by simp, get_cast w[i] h3, ?_⟩
          cbv
          repeat (refine Pz.mk ?_; cbv)
          refine ⟨by decide, ?_⟩
          cbv
          repeat (refine Pz.mk ?_; cbv)
          refine Br.split (fun k0 => ?_) (fun k0 => ?_) <;> (cbv; repeat (refine Pz.mk ?_; cbv))
          · refine ⟨?_, trivial⟩
            have k0 : (w[i][j].tm.tmod 9 != (i : Int)) = true := k0
            exact (no (fun h => by have := (h.row h2 h3).1; rw [this] at k0; simp at k0)).symm
          have k0 : (w[i][j].tm.tmod 9 != (i : Int)) = false := k0
          have k0 : w[i][j].tm.tmod 9 = (i : Int) := by simpa using k0
          refine Br.dec (fun k1 => ?_) (fun k1 => ?_) <;> (cbv; repeat (refine Pz.mk ?_; cbv))
          · have k1 : 0 < j := by simpa using k1
            have h4 : j - 1 < w[i].length := by omega
            have oj : 0 ≤ (j : Int) - 1 := by omega
            have gj : w[i][((j : Int) - 1).toNat]? = some w[i][j - 1] := by rw [show ((j : Int) - 1).toNat = j - 1 by omega]; exact List.getElem?_eq_getElem h4
            repeat' first
              | (refine Ix.mk w[i] (by simp) (get_cast w h2) ?_; cbv; repeat (refine Pz.mk ?_; cbv))
              | (refine Ix.mk w[i][j] (by simp) (get_cast w[i] h3) ?_; cbv; repeat (refine Pz.mk ?_; cbv))
              | (refine Ix.mk w[i][j - 1] oj gj ?_; cbv; repeat (refine Pz.mk ?_; cbv))
              | (refine Ar.exact (by (try simp only [nc] at *); omega) (by (try simp only [nc] at *); omega) ?_; cbv; repeat (refine Pz.mk ?_; cbv))
              | refine And.intro ?_ ?_
              | fail
            all_goals
              refine CallA.by hP (l9Less_ok w[i][j - 1] w[i][j]) ?_
              cbv
              repeat (refine Pz.mk ?_; cbv)
              refine Br.split (fun k2 => ?_) (fun k2 => ?_) <;> (cbv; repeat (refine Pz.mk ?_; cbv))
              · refine ⟨?_, trivial⟩
                exact (no (fun h => by have := (h.row h2 h3).2 k1; rw [this] at k2; simp at k2)).symm
              have k2 : pinLt w[i][j - 1] w[i][j] = true := by simpa using k2
              refine Ar.exact (by (try simp only [nc] at *); omega) (by (try simp only [nc] at *); omega) ?_
              cbv
              repeat (refine Pz.mk ?_; cbv)
              refine NextE.by (j + 1) ?_ ?_ ?_
              · show w[i].length - (j + 1) < w[i].length - j
                omega
              · exact ⟨h3, hr.snoc h3 k0 fun _ => k2⟩
              · cbv
                repeat (refine Pz.mk ?_; cbv)
                repeat' first | exact trivial | refine ⟨rfl, ?_⟩ | fail
          · have k1 : ¬ 0 < j := by simpa using k1
            refine Ar.exact (by (try simp only [nc] at *); omega) (by (try simp only [nc] at *); omega) ?_
            cbv
            repeat (refine Pz.mk ?_; cbv)
            refine NextE.by (j + 1) ?_ ?_ ?_
            · show w[i].length - (j + 1) < w[i].length - j
              omega
            · exact ⟨h3, hr.snoc h3 k0 fun h => absurd h k1⟩
            · cbv
              repeat (refine Pz.mk ?_; cbv)
              repeat' first | exact trivial | refine ⟨rfl, ?_⟩ | fail
end Go.Proofs.Ytlochjpjlhkjaaa
namespace Go.Proofs.Ytlochjpjlhkjaaa
open Go
set_option maxRecDepth 100000
structure RPn (l : List Pin) (k j : Nat) : Prop where
  ok : ∀ p ∈ l.take j, pinOkB p = true
  at_ : ∀ p ∈ l.take j, p.tm.tmod 9 = (k : Int)
  srt : (l.take j).Pairwise fun a b => pinLt b a = false
theorem RPn.zero (l : List Pin) (k : Nat) : RPn l k 0 := ⟨fun p hp => by simp at hp, fun p hp => by simp at hp, by simp⟩
theorem RPn.snoc {l : List Pin} {k j : Nat} (hj : j < l.length) (h : RPn l k j) (ok : pinOkB l[j] = true) (at1 : l[j].tm.tmod 9 = (k : Int)) (lt : 0 < j → pinLt l[j] (l[j - 1]'(by omega)) = false) : RPn l k (j + 1) := by
  have e : l.take (j + 1) = l.take j ++ [l[j]] := by rw [List.take_add_one, List.getElem?_eq_getElem hj]; rfl
  refine ⟨?_, ?_, ?_⟩
  · intro p hp
    rw [e, List.mem_append] at hp
    rcases hp with hp | hp
    · exact h.ok p hp
    · cases List.mem_singleton.1 hp; exact ok
  · intro p hp
    rw [e, List.mem_append] at hp
    rcases hp with hp | hp
    · exact h.at_ p hp
    · cases List.mem_singleton.1 hp; exact at1
  · rw [e, List.pairwise_append]
    refine ⟨h.srt, List.pairwise_singleton _ _, fun a ha b hb => ?_⟩
    cases List.mem_singleton.1 hb
    obtain ⟨m, hm⟩ := List.mem_iff_getElem?.1 ha
    rw [List.getElem?_take] at hm
    split at hm
    · rename_i hmj
      have hl := lt (by omega)
      rcases Nat.lt_or_ge m (j - 1) with h1 | h1
      · have h2 := (List.pairwise_iff_getElem.1 h.srt) m (j - 1) (by rw [List.length_take]; omega) (by rw [List.length_take]; omega) h1
        simp only [List.getElem_take] at h2
        rw [List.getElem?_eq_getElem (by omega)] at hm
        cases hm
        exact pinSWO.ng _ _ _ hl h2
      · obtain rfl : m = j - 1 := by omega
        rw [List.getElem?_eq_getElem (by omega)] at hm
        cases hm; exact hl
    · cases hm
def SPn (w : List (List Pin)) (k : Nat) : Prop := ∀ (m : Nat) l, m < k → w[m]? = some l → RPn l m l.length
theorem SPn.snoc {w : List (List Pin)} {k : Nat} (hk : k < w.length) (h : SPn w k) (hr : RPn w[k] k w[k].length) : SPn w (k + 1) := by
  intro m l hm hl
  rcases Nat.lt_or_ge m k with h1 | h1
  · exact h m l h1 hl
  · obtain rfl : m = k := by omega
    rw [List.getElem?_eq_getElem hk] at hl
    cases hl
    exact hr
end Go.Proofs.Ytlochjpjlhkjaaa
namespace Go.Proofs.Ytlochjpjlhkjaaa
open Go
set_option maxRecDepth 100000
def cabinOkB (c : Cabin) : Bool := ledOkB c.seats && (queueOkB c.row && wheelOkB c.spoke)
def agreesB (R : Rules) (c : Cabin) (l : List Party) (k now : Int) : Bool :=
  cabinOkB c && (decide (c.row = queueOf R l k now) && (decide (wheelPins c.spoke = pinsIn l k) && ((c.seats.held == ((zAll (heldZ k) l : Nat) : Int)) && (c.seats.tied == ((zAll (tiedZ k) l : Nat) : Int)))))
end Go.Proofs.Ytlochjpjlhkjaaa

