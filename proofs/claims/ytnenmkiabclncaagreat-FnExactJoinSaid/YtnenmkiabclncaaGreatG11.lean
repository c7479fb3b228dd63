/- Parts of a proof. No conditions. -/

import Derived.Test.YtnenmkiabclncaaGreatG09
import Derived.Test.YtnenmkiabclncaaGreatG10
set_option linter.unusedSimpArgs false
set_option linter.unusedVariables false
namespace Go.Proofs.YtnenmkiabclncaaGreat
open Go
set_option maxRecDepth 100000
def allP (w : List (List Pin)) : List Pin := w.flatten
structure WhG (w : List (List Pin)) : Prop where
  len : w.length = 9
  few : (allP w).length ≤ 10
  ok : ∀ p ∈ allP w, pinOkB p = true
  ne : (allP w).Pairwise fun a b => a.pid ≠ b.pid
  at_ : ∀ (k : Nat) l, w[k]? = some l → ∀ p ∈ l, p.tm.tmod 9 = (k : Int)
  srt : ∀ l ∈ w, l.Pairwise fun a b => pinLt a b = true
instance (w : List (List Pin)) : Decidable (∀ (k : Nat) l, w[k]? = some l → ∀ p ∈ l, p.tm.tmod 9 = (k : Int)) :=
  decidable_of_iff (∀ k : Fin w.length, ∀ p ∈ w[k], p.tm.tmod 9 = (k.1 : Int)) ⟨fun h k l hl p hp => by
    have hk := lt_of_get hl
    have := h ⟨k, hk⟩ p
    rw [List.getElem?_eq_getElem hk] at hl
    cases hl
    exact this hp, fun h k p hp => h k.1 w[k] (List.getElem?_eq_getElem k.2) p hp⟩
instance (w : List (List Pin)) : Decidable (WhG w) :=
  decidable_of_iff (w.length = 9 ∧ (allP w).length ≤ 10 ∧ (∀ p ∈ allP w, pinOkB p = true) ∧ ((allP w).Pairwise fun a b => a.pid ≠ b.pid) ∧ (∀ (k : Nat) l, w[k]? = some l → ∀ p ∈ l, p.tm.tmod 9 = (k : Int)) ∧ ∀ l ∈ w, l.Pairwise fun a b => pinLt a b = true)
    ⟨fun ⟨a, b, c, d, e, f⟩ => ⟨a, b, c, d, e, f⟩, fun ⟨a, b, c, d, e, f⟩ => ⟨a, b, c, d, e, f⟩⟩
def wheelOkB (w : List (List Pin)) : Bool := decide (WhG w)
def wheelPins (w : List (List Pin)) : List Pin := if wheelOkB w = true then sortR pinLt (allP w) else []
theorem flat_take {w : List (List Pin)} {i : Nat} (h : i < w.length) : (w.take (i + 1)).flatten = (w.take i).flatten ++ w[i] := by
  rw [List.take_add_one, List.getElem?_eq_getElem h, List.flatten_append]; simp
theorem flat_len_le {w : List (List Pin)} (i : Nat) : (w.take i).flatten.length ≤ w.flatten.length := by
  have h : (w.take i ++ w.drop i).flatten = w.flatten := by rw [List.take_append_drop]
  rw [List.flatten_append] at h
  have := congrArg List.length h
  rw [List.length_append] at this
  omega
theorem flat_big {w : List (List Pin)} (n : Nat) (h : ∀ x ∈ w, x.length ≤ n) : w.flatten.length ≤ w.length * n := by
  induction w with
  | nil => simp
  | cons a w ih =>
    have h1 := h a List.mem_cons_self
    have h2 := ih fun x hx => h x (List.mem_cons_of_mem _ hx)
    simp only [List.flatten_cons, List.length_append, List.length_cons, Nat.add_mul]
    omega
def SmP (w : List (List Pin)) : Prop := w.length ≤ bigN ∧ (allP w).length ≤ 1099511627776
theorem SmP.of {w : List (List Pin)} (h : w.length ≤ bigN) (h1 : ∀ x ∈ w, x.length ≤ bigN) : SmP w := by
  refine ⟨h, Nat.le_trans (flat_big _ h1) ?_⟩
  exact Nat.mul_le_mul h (Nat.le_refl bigN)
theorem l9All_ok (w : List (List Pin)) (hw : SmP w) : Spec Tryz.prog 237 [whA w] (Ret (lR .pin fun _ => allP w)) := by
  refine spec_of tabOk Tryz.func237 rfl rfl (fr := true) (fun _ => by kernel_rfl) fun P hP hA => ?_
  have hl : w.length ≤ 1048576 := hw.1
  have hp : w.flatten.length ≤ 1099511627776 := hw.2
  cbv
  repeat (refine Pz.mk ?_; cbv)
  refine LoopE.by (X := Nat) (fun i => [(1, pN 0), (3, oN 1), (4, nT fun _ => i)]) (fun i => [(0, .box [.lf (.list .spk fun _ => w)]), (1, ownB' .pin fun _ => (w.take i).flatten)]) (fun i => i ≤ w.length) (fun i _ => w.length - i) 0 (Nat.zero_le _) ?_ ?_
  · cbv
    repeat (refine Pz.mk ?_; cbv)
    repeat' first | exact trivial | refine ⟨rfl, ?_⟩ | fail
  · intro i hi
    cbv
    repeat (refine Pz.mk ?_; cbv)
    refine Br.dec (fun h2 => ?_) (fun h2 => ?_) <;> (cbv; repeat (refine Pz.mk ?_; cbv))
    · have h2 : i < w.length := by simpa using h2
      refine ⟨w[i], by simp, get_cast w h2, ?_⟩
      cbv
      repeat (refine Pz.mk ?_; cbv)
      refine ⟨?_, ?_⟩
      · show (List.length (w.take i).flatten + List.length w[i]) * 16 ≤ 140737488355328
        have h3 := flat_len_le (w := w) (i + 1)
        rw [flat_take h2, List.length_append] at h3
        omega
      cbv
      repeat (refine Pz.mk ?_; cbv)
      refine Ar.exact (by (try simp only [nc] at *); omega) (by (try simp only [nc] at *); omega) ?_
      cbv
      repeat (refine Pz.mk ?_; cbv)
      refine NextE.by (i + 1) ?_ ?_ ?_
      · show w.length - (i + 1) < w.length - i
        omega
      · exact h2
      · cbv
        repeat (refine Pz.mk ?_; cbv)
        repeat' first | exact trivial | refine ⟨rfl, ?_⟩ | fail
        refine ⟨(flat_take h2).symm, trivial⟩
    · have h2 : w.length ≤ i := by simp at h2; omega
      refine ⟨?_, trivial⟩
      show (w.take i).flatten = allP w
      rw [List.take_of_length_le h2]; rfl
theorem wh_no {w : List (List Pin)} (h : ¬ WhG w) : wheelOkB w = false := by simp [wheelOkB, h]
structure PPre (l : List Pin) (i : Nat) : Prop where
  ok : ∀ p ∈ l.take i, pinOkB p = true
  ne : (l.take i).Pairwise fun a b => a.pid ≠ b.pid
theorem PPre.snoc {l : List Pin} {i : Nat} (hi : i < l.length) (h : PPre l i) (ok : pinOkB l[i] = true) (ne : ∀ (j : Nat) x, j < i → l[j]? = some x → (x.pid == l[i].pid) = false) : PPre l (i + 1) := by
  have e : l.take (i + 1) = l.take i ++ [l[i]] := by rw [List.take_add_one, List.getElem?_eq_getElem hi]; rfl
  constructor
  · intro p hp
    rw [e, List.mem_append] at hp
    rcases hp with hp | hp
    · exact h.ok p hp
    · cases List.mem_singleton.1 hp; exact ok
  · rw [e, List.pairwise_append]
    refine ⟨h.ne, List.pairwise_singleton _ _, fun a ha b hb => ?_⟩
    cases List.mem_singleton.1 hb
    obtain ⟨j, hj⟩ := List.mem_iff_getElem?.1 ha
    rw [List.getElem?_take] at hj
    split at hj
    · have := ne j a (by assumption) hj
      simpa using this
    · cases hj
theorem ne_at {l : List Pin} (h : l.Pairwise fun a b => a.pid ≠ b.pid) {i : Nat} (hi : i < l.length) {j : Nat} {x : Pin} (hj : j < i) (hx : l[j]? = some x) : (x.pid == l[i].pid) = false := by
  have := (List.pairwise_iff_getElem.1 h) j i (by omega) hi hj
  rw [List.getElem?_eq_getElem (by omega)] at hx
  cases hx
  simpa using this
structure SPre (w : List (List Pin)) (i : Nat) : Prop where
  at_ : ∀ (k : Nat) l, k < i → w[k]? = some l → ∀ p ∈ l, p.tm.tmod 9 = (k : Int)
  srt : ∀ (k : Nat) l, k < i → w[k]? = some l → l.Pairwise fun a b => pinLt a b = true
structure RPre (l : List Pin) (k j : Nat) : Prop where
  at_ : ∀ p ∈ l.take j, p.tm.tmod 9 = (k : Int)
  srt : (l.take j).Pairwise fun a b => pinLt a b = true
theorem RPre.zero (l : List Pin) (k : Nat) : RPre l k 0 := ⟨fun p hp => by simp at hp, by simp⟩
theorem RPre.snoc {l : List Pin} {k j : Nat} (hj : j < l.length) (h : RPre l k j) (ok : l[j].tm.tmod 9 = (k : Int)) (lt : 0 < j → pinLt (l[j - 1]'(by omega)) l[j] = true) : RPre l k (j + 1) := by
  have e : l.take (j + 1) = l.take j ++ [l[j]] := by rw [List.take_add_one, List.getElem?_eq_getElem hj]; rfl
  constructor
  · intro p hp
    rw [e, List.mem_append] at hp
    rcases hp with hp | hp
    · exact h.at_ p hp
    · cases List.mem_singleton.1 hp; exact ok
  · rw [e, List.pairwise_append]
    refine ⟨h.srt, List.pairwise_singleton _ _, fun a ha b hb => ?_⟩
    cases List.mem_singleton.1 hb
    obtain ⟨m, hm⟩ := List.mem_iff_getElem?.1 ha
    rw [List.getElem?_take] at hm
    split at hm
    · rename_i hmj
      have hl := lt (by omega)
      rcases Nat.lt_or_ge m (j - 1) with h1 | h1
      · have h2 := (List.pairwise_iff_getElem.1 h.srt) m (j - 1) (by rw [List.length_take]; omega) (by rw [List.length_take]; omega) h1
        simp only [List.getElem_take] at h2
        rw [List.getElem?_eq_getElem (by omega)] at hm
        cases hm
        exact pinSWO.tr _ _ _ h2 hl
      · obtain rfl : m = j - 1 := by omega
        rw [List.getElem?_eq_getElem (by omega)] at hm
        cases hm; exact hl
    · cases hm
theorem SPre.snoc {w : List (List Pin)} {i : Nat} (hi : i < w.length) (h : SPre w i) (hr : RPre w[i] i w[i].length) : SPre w (i + 1) := by
  have e : w[i].take w[i].length = w[i] := List.take_length
  constructor
  · intro k l hk hl
    rcases Nat.lt_or_ge k i with h1 | h1
    · exact h.at_ k l h1 hl
    · obtain rfl : k = i := by omega
      rw [List.getElem?_eq_getElem hi] at hl
      cases hl
      have := hr.at_
      rwa [e] at this
  · intro k l hk hl
    rcases Nat.lt_or_ge k i with h1 | h1
    · exact h.srt k l h1 hl
    · obtain rfl : k = i := by omega
      rw [List.getElem?_eq_getElem hi] at hl
      cases hl
      have := hr.srt
      rwa [e] at this
theorem wh_yes {w : List (List Pin)} (h9 : w.length = 9) (few : (allP w).length ≤ 10) (hp : PPre (allP w) (allP w).length) (hs : SPre w w.length) : wheelOkB w = true := by
  have h1 := hp.ok
  have h2 := hp.ne
  rw [List.take_length] at h1 h2
  have : WhG w := ⟨h9, few, h1, h2, fun k l hl => hs.at_ k l (lt_of_get hl) hl, fun l hl => by
    obtain ⟨k, hk⟩ := List.mem_iff_getElem?.1 hl
    exact hs.srt k l (lt_of_get hk) hk⟩
  simp [wheelOkB, this]
theorem WhG.row {w : List (List Pin)} (h : WhG w) {k : Nat} (hk : k < w.length) {j : Nat} (hj : j < w[k].length) : w[k][j].tm.tmod 9 = (k : Int) ∧ (0 < j → pinLt (w[k][j - 1]'(by omega)) w[k][j] = true) := by
  refine ⟨h.at_ k w[k] (List.getElem?_eq_getElem hk) _ (List.getElem_mem hj), fun h0 => ?_⟩
  exact (List.pairwise_iff_getElem.1 (h.srt w[k] (List.getElem_mem hk))) (j - 1) j (by omega) hj (by omega)
set_option maxHeartbeats 1000000 in
theorem specWheelOk_ok (w : List (List Pin)) (hw : SmP w) (b : Bool) (hb : b = wheelOkB w) : Spec Tryz.prog 176 [whA w] (Ret (bR fun _ => b)) := by
  refine spec_of tabOk Tryz.func176 rfl rfl (fr := true) (fun _ => by kernel_rfl) fun P hP hA => ?_
  have hl : w.length ≤ 1048576 := hw.1
  have hpl : (allP w).length ≤ 1099511627776 := hw.2
  obtain ⟨⟨⟨ha, hb'⟩, _⟩, _⟩ := hA
  have hb' : ∀ x ∈ w, x.length ≤ 9223372036854775807 := hb'
  have no : ¬ WhG w → b = false := fun h => hb.trans (wh_no h)
  cbv
  repeat (refine Pz.mk ?_; cbv)
  refine CallA.by hP (l9All_ok w hw) ?_
  cbv
  repeat (refine Pz.mk ?_; cbv)
  refine Br.split (fun h9 => ?_) (fun h9 => ?_) <;> (cbv; repeat (refine Pz.mk ?_; cbv))
  · refine ⟨?_, trivial⟩
    exact (no (fun h => by have := h.len; simp [this] at h9)).symm
  have h9 : ((w.length : Int) != 9) = false := h9
  have h9 : w.length = 9 := by simp at h9; omega
  refine Br.dec (fun h10 => ?_) (fun h10 => ?_) <;> (cbv; repeat (refine Pz.mk ?_; cbv))
  · have h10 : ((allP w).length : Int) > 10 := h10
    refine ⟨?_, trivial⟩
    exact (no (fun h => by have := h.few; omega)).symm
  have h10 : ¬ ((allP w).length : Int) > 10 := h10
  have h10 : (allP w).length ≤ 10 := by omega
  refine LoopE.by (X := Nat) (fun i => [(1, pN 0), (3, oN 1), (4, nT fun _ => i)]) (fun i => [(0, .box [.lf (.list .spk fun _ => w)]), (1, ownB' .pin fun _ => allP w)]) (fun i => i ≤ (allP w).length ∧ PPre (allP w) i) (fun i _ => (allP w).length - i) 0 ⟨Nat.zero_le _, ⟨fun p hp => by simp at hp, by simp⟩⟩ ?_ ?_
  · cbv
    repeat (refine Pz.mk ?_; cbv)
    repeat' first | exact trivial | refine ⟨rfl, ?_⟩ | fail
  · intro i ⟨hi, hp⟩
    cbv
    repeat (refine Pz.mk ?_; cbv)
    refine Br.dec (fun h2 => ?_) (fun h2 => ?_) <;> (cbv; repeat (refine Pz.mk ?_; cbv))
    · have h2 : i < (allP w).length := by simpa using h2
      have gi : (allP w).getD ((i : Int)).toNat default = (allP w)[i] := by rw [Int.toNat_natCast, List.getD_eq_getElem?_getD, List.getElem?_eq_getElem h2]; rfl
      have oi : 0 ≤ (i : Int) ∧ (i : Int) < ((allP w).length : Int) := by omega
      refine ⟨oi, ?_⟩
      cbv
      repeat (refine Pz.mk ?_; cbv)
      refine CallA.by hP (l1InB_ok ((allP w).getD ((i : Int)).toNat default).tm 1 1000008) ?_
      cbv
      repeat (refine Pz.mk ?_; cbv)
      refine Br.split (fun k0 => ?_) (fun k0 => ?_) <;> (cbv; repeat (refine Pz.mk ?_; cbv))
      · refine ⟨?_, trivial⟩
        have k0 : (!isIn ((allP w).getD ((i : Int)).toNat default).tm 1 1000008) = true := k0
        rw [gi] at k0
        exact (no (fun h => by have := h.ok _ (List.getElem_mem h2); simp_all [pinOkB])).symm
      refine ⟨oi, ?_⟩
      cbv
      repeat (refine Pz.mk ?_; cbv)
      refine CallA.by hP (l1InB_ok ((allP w).getD ((i : Int)).toNat default).pid 1 999) ?_
      cbv
      repeat (refine Pz.mk ?_; cbv)
      refine Br.split (fun k1 => ?_) (fun k1 => ?_) <;> (cbv; repeat (refine Pz.mk ?_; cbv))
      · refine ⟨?_, trivial⟩
        have k1 : (!isIn ((allP w).getD ((i : Int)).toNat default).pid 1 999) = true := k1
        rw [gi] at k1
        exact (no (fun h => by have := h.ok _ (List.getElem_mem h2); simp_all [pinOkB])).symm
      have ok : pinOkB (allP w)[i] = true := by
        have k0 : (!isIn ((allP w).getD ((i : Int)).toNat default).tm 1 1000008) = false := k0
        have k1 : (!isIn ((allP w).getD ((i : Int)).toNat default).pid 1 999) = false := k1
        rw [gi] at k0 k1
        simp_all [pinOkB]
      clear k0 k1
      refine LoopE.by (X := Nat) (fun j => [(1, pN 0), (3, oN 1), (4, nT fun _ => i), (5, nT fun _ => j)]) (fun j => [(0, .box [.lf (.list .spk fun _ => w)]), (1, ownB' .pin fun _ => allP w)]) (fun j => j ≤ i ∧ ∀ (m : Nat) x, m < j → (allP w)[m]? = some x → (x.pid == (allP w)[i].pid) = false) (fun j _ => i - j) 0 ⟨Nat.zero_le _, fun m x hm => by omega⟩ ?_ ?_
      · cbv
        repeat (refine Pz.mk ?_; cbv)
        repeat' first | exact trivial | refine ⟨rfl, ?_⟩ | fail
      · intro j ⟨hj, hn⟩
        cbv
        repeat (refine Pz.mk ?_; cbv)
        refine Br.dec (fun h3 => ?_) (fun h3 => ?_) <;> (cbv; repeat (refine Pz.mk ?_; cbv))
        · have h3 : j < i := by simpa using h3
          have hjl : j < (allP w).length := by omega
          have gj : (allP w).getD ((j : Int)).toNat default = (allP w)[j] := by rw [Int.toNat_natCast, List.getD_eq_getElem?_getD, List.getElem?_eq_getElem hjl]; rfl
          have oj : 0 ≤ (j : Int) ∧ (j : Int) < ((allP w).length : Int) := by omega
          repeat' first
            | (refine Ob.mk (by first | exact oi | exact oj) ?_; cbv; repeat (refine Pz.mk ?_; cbv))
            | refine And.intro ?_ ?_
            | fail
          all_goals
            refine Br.split (fun k2 => ?_) (fun k2 => ?_) <;> (cbv; repeat (refine Pz.mk ?_; cbv))
            · refine ⟨?_, trivial⟩
              have k2 : (((allP w).getD ((j : Int)).toNat default).pid == ((allP w).getD ((i : Int)).toNat default).pid) = true := k2
              rw [gi, gj] at k2
              exact (no (fun h => by have := ne_at h.ne h2 h3 (List.getElem?_eq_getElem hjl); rw [this] at k2; cases k2)).symm
            have k2 : (((allP w).getD ((j : Int)).toNat default).pid == ((allP w).getD ((i : Int)).toNat default).pid) = false := k2
            rw [gi, gj] at k2
            refine Ar.exact (by (try simp only [nc] at *); omega) (by (try simp only [nc] at *); omega) ?_
            cbv
            repeat (refine Pz.mk ?_; cbv)
            refine NextE.by (j + 1) ?_ ?_ ?_
            · show i - (j + 1) < i - j
              omega
            · exact ⟨h3, pre_step hjl hn k2⟩
            · cbv
              repeat (refine Pz.mk ?_; cbv)
              repeat' first | exact trivial | refine ⟨rfl, ?_⟩ | fail
        · have h3 : i ≤ j := by simp at h3; omega
          refine Ar.exact (by (try simp only [nc] at *); omega) (by (try simp only [nc] at *); omega) ?_
          cbv
          repeat (refine Pz.mk ?_; cbv)
          refine NextE.by (i + 1) ?_ ?_ ?_
          · show (allP w).length - (i + 1) < (allP w).length - i
            omega
          · exact ⟨h2, hp.snoc h2 ok fun m x hm => hn m x (by omega)⟩
          · cbv
            repeat (refine Pz.mk ?_; cbv)
            repeat' first | exact trivial | refine ⟨rfl, ?_⟩ | fail
    · have h2 : (allP w).length ≤ i := by simp at h2; omega
      have hi' : i ≤ (allP w).length := hi
      obtain rfl : i = (allP w).length := by omega
      clear h2
      refine LoopE.by (X := Nat) (fun i => [(1, pN 0), (6, nT fun _ => i)]) (fun i => [(0, .box [.lf (.list .spk fun _ => w)])]) (fun i => i ≤ w.length ∧ SPre w i) (fun i _ => w.length - i) 0 ⟨Nat.zero_le _, ⟨fun k l hk => by omega, fun k l hk => by omega⟩⟩ ?_ ?_
      · cbv
        repeat (refine Pz.mk ?_; cbv)
        repeat' first | exact trivial | refine ⟨rfl, ?_⟩ | fail
      · intro i ⟨hi, hs⟩
        cbv
        repeat (refine Pz.mk ?_; cbv)
        refine Br.dec (fun h2 => ?_) (fun h2 => ?_) <;> (cbv; repeat (refine Pz.mk ?_; cbv))
        rotate_left
        · have h2 : w.length ≤ i := by simp at h2; omega
          have hi' : i ≤ w.length := hi
          obtain rfl : i = w.length := by omega
          refine ⟨?_, trivial⟩
          exact (hb.trans (wh_yes h9 h10 hp hs)).symm
        have h2 : i < w.length := by simpa using h2
        have hwi : (w[i]).length ≤ 9223372036854775807 := hb' _ (List.getElem_mem h2)
        refine LoopE.by (X := Nat) (fun j => [(1, pN 0), (6, nT fun _ => i), (7, nT fun _ => j)]) (fun j => [(0, .box [.lf (.list .spk fun _ => w)])]) (fun j => j ≤ w[i].length ∧ RPre w[i] i j) (fun j _ => w[i].length - j) 0 ⟨Nat.zero_le _, RPre.zero _ _⟩ ?_ ?_
        · cbv
          repeat (refine Pz.mk ?_; cbv)
          repeat' first | exact trivial | refine ⟨rfl, ?_⟩ | fail
        · intro j ⟨hj, hr⟩
          cbv
          repeat (refine Pz.mk ?_; cbv)
          refine ⟨w[i], by simp, get_cast w h2, ?_⟩
          cbv
          repeat (refine Pz.mk ?_; cbv)
          refine Br.dec (fun h3 => ?_) (fun h3 => ?_) <;> (cbv; repeat (refine Pz.mk ?_; cbv))
          rotate_left
          · have h3 : w[i].length ≤ j := by simp at h3; omega
            have hj' : j ≤ w[i].length := hj
            obtain rfl : j = w[i].length := by omega
            refine Ar.exact (by (try simp only [nc] at *); omega) (by (try simp only [nc] at *); omega) ?_
            cbv
            repeat (refine Pz.mk ?_; cbv)
            refine NextE.by (i + 1) ?_ ?_ ?_
            · show w.length - (i + 1) < w.length - i
              omega
            · exact ⟨h2, hs.snoc h2 hr⟩
            · cbv
              repeat (refine Pz.mk ?_; cbv)
              repeat' first | exact trivial | refine ⟨rfl, ?_⟩ | fail
          have h3 : j < w[i].length := by simpa using h3
          refine ⟨w[i], by simp, get_cast w h2, ?_⟩
          cbv
          repeat (refine Pz.mk ?_; cbv)
          refine ⟨w[i][j], by simp, get_cast w[i] h3, ?_⟩
          cbv
          repeat (refine Pz.mk ?_; cbv)
          refine ⟨by decide, ?_⟩
          cbv
          repeat (refine Pz.mk ?_; cbv)
          refine Br.split (fun k0 => ?_) (fun k0 => ?_) <;> (cbv; repeat (refine Pz.mk ?_; cbv))
          · refine ⟨?_, trivial⟩
            have k0 : (w[i][j].tm.tmod 9 != (i : Int)) = true := k0
            exact (no (fun h => by have := (h.row h2 h3).1; rw [this] at k0; simp at k0)).symm
          have k0 : (w[i][j].tm.tmod 9 != (i : Int)) = false := k0
          have k0 : w[i][j].tm.tmod 9 = (i : Int) := by simpa using k0
          refine Br.dec (fun k1 => ?_) (fun k1 => ?_) <;> (cbv; repeat (refine Pz.mk ?_; cbv))
          · have k1 : 0 < j := by simpa using k1
            have h4 : j - 1 < w[i].length := by omega
            have oj : 0 ≤ (j : Int) - 1 := by omega
            have gj : w[i][((j : Int) - 1).toNat]? = some w[i][j - 1] := by rw [show ((j : Int) - 1).toNat = j - 1 by omega]; exact List.getElem?_eq_getElem h4
            repeat' first
              | (refine Ix.mk w[i] (by simp) (get_cast w h2) ?_; cbv; repeat (refine Pz.mk ?_; cbv))
              | (refine Ix.mk w[i][j] (by simp) (get_cast w[i] h3) ?_; cbv; repeat (refine Pz.mk ?_; cbv))
              | (refine Ix.mk w[i][j - 1] oj gj ?_; cbv; repeat (refine Pz.mk ?_; cbv))
              | (refine Ar.exact (by (try simp only [nc] at *); omega) (by (try simp only [nc] at *); omega) ?_; cbv; repeat (refine Pz.mk ?_; cbv))
              | refine And.intro ?_ ?_
              | fail
            all_goals
              refine CallA.by hP (l9Less_ok w[i][j - 1] w[i][j]) ?_
              cbv
              repeat (refine Pz.mk ?_; cbv)
              refine Br.split (fun k2 => ?_) (fun k2 => ?_) <;> (cbv; repeat (refine Pz.mk ?_; cbv))
              · refine ⟨?_, trivial⟩
                exact (no (fun h => by have := (h.row h2 h3).2 k1; rw [this] at k2; simp at k2)).symm
              have k2 : pinLt w[i][j - 1] w[i][j] = true := by simpa using k2
              refine Ar.exact (by (try simp only [nc] at *); omega) (by (try simp only [nc] at *); omega) ?_
              cbv
              repeat (refine Pz.mk ?_; cbv)
              refine NextE.by (j + 1) ?_ ?_ ?_
              · show w[i].length - (j + 1) < w[i].length - j
                omega
              · exact ⟨h3, hr.snoc h3 k0 fun _ => k2⟩
              · cbv
                repeat (refine Pz.mk ?_; cbv)
                repeat' first | exact trivial | refine ⟨rfl, ?_⟩ | fail
          · have k1 : ¬ 0 < j := by simpa using k1
            refine Ar.exact (by (try simp only [nc] at *); omega) (by (try simp only [nc] at *); omega) ?_
            cbv
            repeat (refine Pz.mk ?_; cbv)
            refine NextE.by (j + 1) ?_ ?_ ?_
            · show w[i].length - (j + 1) < w[i].length - j
              omega
            · exact ⟨h3, hr.snoc h3 k0 fun h => absurd h k1⟩
            · cbv
              repeat (refine Pz.mk ?_; cbv)
              repeat' first | exact trivial | refine ⟨rfl, ?_⟩ | fail
end Go.Proofs.YtnenmkiabclncaaGreat
namespace Go.Proofs.YtnenmkiabclncaaGreat
open Go
set_option maxRecDepth 100000
def cntM (P : List Pin) : List (Int × Int) := P.foldl (fun m p => mput m p.pid (mget m p.pid + 1)) []
theorem cntM_snoc (P : List Pin) (p : Pin) : cntM (P ++ [p]) = mput (cntM P) p.pid (mget (cntM P) p.pid + 1) := by simp [cntM]
theorem midx_none_iff : ∀ {m : List (Int × Int)} {k : Int}, midx m k = none ↔ ∀ q ∈ m, q.1 ≠ k
  | [], k => by simp [midx]
  | p :: m, k => by
    have ih := midx_none_iff (m := m) (k := k)
    simp only [midx]
    split
    · rename_i h
      simp [h]
    · rename_i h
      simp only [Option.map_eq_none_iff, ih, List.forall_mem_cons]
      exact ⟨fun h1 => ⟨fun h2 => h h2.symm, h1⟩, fun h1 => h1.2⟩
theorem mput_mem : ∀ {m : List (Int × Int)} {k v j : Int}, (∃ q ∈ mput m k v, q.1 = j) ↔ j = k ∨ ∃ q ∈ m, q.1 = j
  | [], k, v, j => by simp [mput, eq_comm]
  | p :: m, k, v, j => by
    have ih := mput_mem (m := m) (k := k) (v := v) (j := j)
    simp only [mput]
    split
    · rename_i h
      subst h
      simp only [List.mem_cons, exists_eq_or_imp]
      constructor
      · rintro (h | h)
        · exact .inl h.symm
        · exact .inr (.inr h)
      · rintro (h | h | h)
        · exact .inl h.symm
        · exact .inl h
        · exact .inr h
    · simp only [List.mem_cons, exists_eq_or_imp, ih]
      constructor
      · rintro (h | h | h)
        · exact .inr (.inl h)
        · exact .inl h
        · exact .inr (.inr h)
      · rintro (h | h | h)
        · exact .inr (.inl h)
        · exact .inl h
        · exact .inr (.inr h)
theorem mget_mput : ∀ {m : List (Int × Int)} {k v j : Int}, mget (mput m k v) j = if j = k then v else mget m j
  | [], k, v, j => by simp [mput, mget]
  | p :: m, k, v, j => by
    have ih := mget_mput (m := m) (k := k) (v := v) (j := j)
    simp only [mput]
    split
    · rename_i h
      subst h
      simp only [mget]
      split <;> rfl
    · rename_i h
      simp only [mget, ih]
      split
      · rename_i h1
        rw [if_neg (by rw [h1]; exact fun h2 => h h2.symm)]
      · rfl
structure CntP (P : List Pin) : Prop where
  mem : ∀ j, (∃ q ∈ cntM P, q.1 = j) ↔ ∃ p ∈ P, p.pid = j
  len : (cntM P).length ≤ P.length
  eq : (cntM P).length = P.length ↔ P.Pairwise fun a b => a.pid ≠ b.pid
  lo : ∀ j, 0 ≤ mget (cntM P) j
  hi : ∀ j, mget (cntM P) j ≤ P.length
theorem cntP (P : List Pin) : CntP P := by
  obtain ⟨n, hn⟩ : ∃ n, P.length = n := ⟨_, rfl⟩
  induction n generalizing P with
  | zero =>
    have : P = [] := List.length_eq_zero_iff.1 hn
    subst this
    exact ⟨by simp [cntM], by simp [cntM], by simp [cntM], by simp [cntM, mget], by simp [cntM, mget]⟩
  | succ n ih =>
    rcases List.eq_nil_or_concat P with rfl | ⟨P, p, rfl⟩
    · cases hn
    rw [List.concat_eq_append] at *
    have h := ih P (by simpa using hn)
    have hmem : ∀ j, (∃ q ∈ cntM (P ++ [p]), q.1 = j) ↔ ∃ q ∈ P ++ [p], q.pid = j := fun j => by
      rw [cntM_snoc, mput_mem, h.mem]
      constructor
      · rintro (rfl | ⟨q, hq, rfl⟩)
        · exact ⟨p, by simp, rfl⟩
        · exact ⟨q, by simp [hq], rfl⟩
      · rintro ⟨q, hq, rfl⟩
        rcases List.mem_append.1 hq with hq | hq
        · exact .inr ⟨q, hq, rfl⟩
        · cases List.mem_singleton.1 hq; exact .inl rfl
    have hlo : ∀ j, 0 ≤ mget (cntM (P ++ [p])) j := fun j => by
      rw [cntM_snoc, mget_mput]
      split
      · have := h.lo p.pid; omega
      · exact h.lo j
    have hhi : ∀ j, mget (cntM (P ++ [p])) j ≤ (P ++ [p]).length := fun j => by
      rw [cntM_snoc, mget_mput, List.length_append, List.length_singleton]
      split
      · have := h.hi p.pid; omega
      · have := h.hi j; omega
    have hpw : ((P ++ [p]).Pairwise fun a b => a.pid ≠ b.pid) ↔ (P.Pairwise fun a b => a.pid ≠ b.pid) ∧ ∀ a ∈ P, a.pid ≠ p.pid := by
      rw [List.pairwise_append]
      exact ⟨fun h => ⟨h.1, fun a ha => h.2.2 a ha p (by simp)⟩, fun h => ⟨h.1, List.pairwise_singleton _ _, fun a ha b hb => by cases List.mem_singleton.1 hb; exact h.2 a ha⟩⟩
    have hle := h.len
    cases hi : midx (cntM P) p.pid with
    | none =>
      have hl : (cntM (P ++ [p])).length = (cntM P).length + 1 := by rw [cntM_snoc, (midx_none hi).1]; simp
      have hnot : ∀ a ∈ P, a.pid ≠ p.pid := fun a ha he => by
        obtain ⟨q, hq, h1⟩ := (h.mem p.pid).2 ⟨a, ha, he⟩
        exact midx_none_iff.1 hi q hq h1
      refine ⟨hmem, by rw [hl, List.length_append, List.length_singleton]; omega, ?_, hlo, hhi⟩
      rw [hl, List.length_append, List.length_singleton, hpw, ← h.eq]
      exact ⟨fun h1 => ⟨by omega, hnot⟩, fun h1 => by omega⟩
    | some j =>
      have hl : (cntM (P ++ [p])).length = (cntM P).length := by rw [cntM_snoc, (midx_some hi).2]; simp
      refine ⟨hmem, by rw [hl, List.length_append, List.length_singleton]; omega, ?_, hlo, hhi⟩
      rw [hl, List.length_append, List.length_singleton, hpw]
      constructor
      · intro h1; omega
      · intro ⟨_, h1⟩
        exfalso
        have h2 := (midx_some (v := 0) hi).1
        obtain ⟨a, ha, h3⟩ := (h.mem p.pid).1 ⟨_, List.mem_of_getElem? h2, rfl⟩
        exact h1 a ha h3
theorem cmp_gt {x y : Pin} : ((if pinLt x y = true then (-1 : Int) else if pinLt y x = true then 1 else 0) > 0) ↔ pinLt y x = true := by
  cases h1 : pinLt x y <;> cases h2 : pinLt y x <;> simp
  have := pinSWO.as _ _ h1
  rw [h2] at this; cases this
def upTo (w : List (List Pin)) (k i : Nat) : List Pin := (w.take k).flatten ++ (w.getD k []).take i
theorem upTo_zero (w : List (List Pin)) (k : Nat) : upTo w k 0 = (w.take k).flatten := by simp [upTo]
theorem upTo_step {w : List (List Pin)} {k i : Nat} (hk : k < w.length) (hi : i < w[k].length) : upTo w k (i + 1) = upTo w k i ++ [w[k][i]] := by
  have e : w.getD k [] = w[k] := by rw [List.getD_eq_getElem?_getD, List.getElem?_eq_getElem hk]; rfl
  rw [upTo, upTo, e, List.take_add_one, List.getElem?_eq_getElem hi, List.append_assoc]; rfl
theorem upTo_all {w : List (List Pin)} {k i : Nat} (hk : k < w.length) (hi : w[k].length ≤ i) : upTo w k i = (w.take (k + 1)).flatten := by
  have e : w.getD k [] = w[k] := by rw [List.getD_eq_getElem?_getD, List.getElem?_eq_getElem hk]; rfl
  rw [upTo, e, List.take_of_length_le hi, flat_take hk]
theorem upTo_len {w : List (List Pin)} {k i : Nat} (hk : k < w.length) : (upTo w k i).length ≤ (allP w).length := by
  have e : w.getD k [] = w[k] := by rw [List.getD_eq_getElem?_getD, List.getElem?_eq_getElem hk]; rfl
  have h := flat_len_le (w := w) (k + 1)
  rw [flat_take hk, List.length_append] at h
  rw [upTo, e, List.length_append, List.length_take]
  show _ ≤ w.flatten.length
  omega
structure RPn (l : List Pin) (k j : Nat) : Prop where
  ok : ∀ p ∈ l.take j, pinOkB p = true
  at_ : ∀ p ∈ l.take j, p.tm.tmod 9 = (k : Int)
  srt : (l.take j).Pairwise fun a b => pinLt b a = false
theorem RPn.zero (l : List Pin) (k : Nat) : RPn l k 0 := ⟨fun p hp => by simp at hp, fun p hp => by simp at hp, by simp⟩
theorem RPn.snoc {l : List Pin} {k j : Nat} (hj : j < l.length) (h : RPn l k j) (ok : pinOkB l[j] = true) (at1 : l[j].tm.tmod 9 = (k : Int)) (lt : 0 < j → pinLt l[j] (l[j - 1]'(by omega)) = false) : RPn l k (j + 1) := by
  have e : l.take (j + 1) = l.take j ++ [l[j]] := by rw [List.take_add_one, List.getElem?_eq_getElem hj]; rfl
  refine ⟨?_, ?_, ?_⟩
  · intro p hp
    rw [e, List.mem_append] at hp
    rcases hp with hp | hp
    · exact h.ok p hp
    · cases List.mem_singleton.1 hp; exact ok
  · intro p hp
    rw [e, List.mem_append] at hp
    rcases hp with hp | hp
    · exact h.at_ p hp
    · cases List.mem_singleton.1 hp; exact at1
  · rw [e, List.pairwise_append]
    refine ⟨h.srt, List.pairwise_singleton _ _, fun a ha b hb => ?_⟩
    cases List.mem_singleton.1 hb
    obtain ⟨m, hm⟩ := List.mem_iff_getElem?.1 ha
    rw [List.getElem?_take] at hm
    split at hm
    · rename_i hmj
      have hl := lt (by omega)
      rcases Nat.lt_or_ge m (j - 1) with h1 | h1
      · have h2 := (List.pairwise_iff_getElem.1 h.srt) m (j - 1) (by rw [List.length_take]; omega) (by rw [List.length_take]; omega) h1
        simp only [List.getElem_take] at h2
        rw [List.getElem?_eq_getElem (by omega)] at hm
        cases hm
        exact pinSWO.ng _ _ _ hl h2
      · obtain rfl : m = j - 1 := by omega
        rw [List.getElem?_eq_getElem (by omega)] at hm
        cases hm; exact hl
    · cases hm
def SPn (w : List (List Pin)) (k : Nat) : Prop := ∀ (m : Nat) l, m < k → w[m]? = some l → RPn l m l.length
theorem SPn.snoc {w : List (List Pin)} {k : Nat} (hk : k < w.length) (h : SPn w k) (hr : RPn w[k] k w[k].length) : SPn w (k + 1) := by
  intro m l hm hl
  rcases Nat.lt_or_ge m k with h1 | h1
  · exact h m l h1 hl
  · obtain rfl : m = k := by omega
    rw [List.getElem?_eq_getElem hk] at hl
    cases hl
    exact hr
theorem WhG.rowN {w : List (List Pin)} (h : WhG w) {k : Nat} (hk : k < w.length) {j : Nat} (hj : j < w[k].length) : pinOkB w[k][j] = true ∧ w[k][j].tm.tmod 9 = (k : Int) ∧ (0 < j → pinLt w[k][j] (w[k][j - 1]'(by omega)) = false) := by
  obtain ⟨h1, h2⟩ := h.row hk hj
  refine ⟨h.ok _ ?_, h1, fun h0 => pinSWO.as _ _ (h2 h0)⟩
  exact List.mem_flatten.2 ⟨w[k], List.getElem_mem hk, List.getElem_mem hj⟩
theorem whN_eq {w : List (List Pin)} (h9 : w.length = 9) (hs : SPn w w.length) : wheelOkB w = (decide ((allP w).length ≤ 10) && (((cntM (allP w)).length : Int) == ((allP w).length : Int))) := by
  have hc := (cntP (allP w)).eq
  have key : WhG w ↔ (allP w).length ≤ 10 ∧ (cntM (allP w)).length = (allP w).length := by
    constructor
    · exact fun h => ⟨h.few, hc.2 h.ne⟩
    · intro ⟨h1, h2⟩
      have hne := hc.1 h2
      have get : ∀ l ∈ w, ∃ m, w[m]? = some l ∧ RPn l m l.length := fun l hl => by
        obtain ⟨m, hm⟩ := List.mem_iff_getElem?.1 hl
        exact ⟨m, hm, hs m l (lt_of_get hm) hm⟩
      refine ⟨h9, h1, fun p hp => ?_, hne, fun k l hl p hp => ?_, fun l hl => ?_⟩
      · obtain ⟨l, hl, hp⟩ := List.mem_flatten.1 hp
        obtain ⟨m, hm, hr⟩ := get l hl
        exact hr.ok p (by rw [List.take_length]; exact hp)
      · exact (hs k l (lt_of_get hl) hl).at_ p (by rw [List.take_length]; exact hp)
      · obtain ⟨m, hm, hr⟩ := get l hl
        have h3 := hr.srt
        rw [List.take_length] at h3
        have h4 := (List.pairwise_flatten.1 hne).1 l hl
        refine (h3.and h4).imp fun {a b} h => ?_
        cases h5 : pinLt a b with
        | true => rfl
        | false => exact absurd (congrArg Pin.pid (pin_anti a b h5 h.1)) h.2
  rw [Bool.eq_iff_iff]
  simp only [wheelOkB, decide_eq_true_eq, Bool.and_eq_true, beq_iff_eq]
  rw [key]
  constructor
  · intro ⟨h1, h2⟩; exact ⟨h1, by rw [h2]⟩
  · intro ⟨h1, h2⟩; exact ⟨h1, by omega⟩
set_option maxHeartbeats 1000000 in
theorem implWheelOk_ok (w : List (List Pin)) (hw : SmP w) (b : Bool) (hb : b = wheelOkB w) : Spec Tryz.prog 170 [whA w] (Ret (bR fun _ => b)) := by
  refine spec_of tabOk Tryz.func170 rfl rfl (fr := true) (fun _ => by kernel_rfl) fun P hP hA => ?_
  have hl : w.length ≤ 1048576 := hw.1
  have hpl : (allP w).length ≤ 1099511627776 := hw.2
  obtain ⟨⟨⟨ha, hb'⟩, _⟩, _⟩ := hA
  have hb' : ∀ x ∈ w, x.length ≤ 9223372036854775807 := hb'
  have no : ¬ WhG w → b = false := fun h => hb.trans (wh_no h)
  cbv
  repeat (refine Pz.mk ?_; cbv)
  refine Br.split (fun h9 => ?_) (fun h9 => ?_) <;> (cbv; repeat (refine Pz.mk ?_; cbv))
  · refine ⟨?_, trivial⟩
    exact (no (fun h => by have := h.len; simp [this] at h9)).symm
  have h9 : ((w.length : Int) != 9) = false := h9
  have h9 : w.length = 9 := by simp at h9; omega
  refine LoopE.by (X := Nat) (fun k => [(3, oN 0), (4, nT fun _ => (upTo w k 0).length), (15, lA .spk w), (16, nT fun _ => w.length), (17, nT fun _ => k)]) (fun k => [(0, .mp fun _ => cntM (upTo w k 0))]) (fun k => k ≤ w.length ∧ SPn w k) (fun k _ => w.length - k) 0 ⟨Nat.zero_le _, fun m l hm => by omega⟩ ?_ ?_
  · cbv
    repeat (refine Pz.mk ?_; cbv)
    repeat' first | exact trivial | refine ⟨rfl, ?_⟩ | fail
  · intro k ⟨hk, hs⟩
    cbv
    repeat (refine Pz.mk ?_; cbv)
    refine Br.dec (fun h2 => ?_) (fun h2 => ?_) <;> (cbv; repeat (refine Pz.mk ?_; cbv))
    rotate_left
    · have h2 : w.length ≤ k := by simp at h2; omega
      have hk' : k ≤ w.length := hk
      obtain rfl : k = w.length := by omega
      have ea : upTo w w.length 0 = allP w := by rw [upTo_zero, List.take_length]; rfl
      have hq := whN_eq h9 hs
      refine Br.dec (fun h3 => ?_) (fun h3 => ?_) <;> (cbv; repeat (refine Pz.mk ?_; cbv))
      · refine ⟨?_, trivial⟩
        have h3 : ((upTo w w.length 0).length : Int) ≤ 10 := h3
        show (((cntM (upTo w w.length 0)).length : Int) == ((upTo w w.length 0).length : Int)) = b
        rw [ea] at h3 ⊢
        rw [hb, hq, decide_eq_true (by omega), Bool.true_and]
      · refine ⟨?_, trivial⟩
        have h3 : ¬ ((upTo w w.length 0).length : Int) ≤ 10 := h3
        rw [ea] at h3
        rw [hb, hq, decide_eq_false (by omega), Bool.false_and]
    have h2 : k < w.length := by simpa using h2
    have hwk : (w[k]).length ≤ 9223372036854775807 := hb' _ (List.getElem_mem h2)
    refine ⟨w[k], by simp, get_cast w h2, ?_⟩
    cbv
    repeat (refine Pz.mk ?_; cbv)
    refine LoopE.by (X := Nat) (fun i => [(3, oN 0), (4, nT fun _ => (upTo w k i).length), (5, nT fun _ => k), (6, lT .pin fun _ => w[k]), (15, lA .spk w), (16, nT fun _ => w.length), (17, nT fun _ => k), (22, lT .pin fun _ => w[k]), (23, nT fun _ => w[k].length), (24, nT fun _ => i)]) (fun i => [(0, .mp fun _ => cntM (upTo w k i))]) (fun i => i ≤ w[k].length ∧ RPn w[k] k i) (fun i _ => w[k].length - i) 0 ⟨Nat.zero_le _, RPn.zero _ _⟩ ?_ ?_
    · cbv
      repeat (refine Pz.mk ?_; cbv)
      repeat' first | exact trivial | refine ⟨rfl, ?_⟩ | fail
    · intro i ⟨hi, hr⟩
      have hul := upTo_len (i := i) h2
      have hcl := (cntP (upTo w k i)).len
      cbv
      repeat (refine Pz.mk ?_; cbv)
      refine Br.dec (fun h3 => ?_) (fun h3 => ?_) <;> (cbv; repeat (refine Pz.mk ?_; cbv))
      rotate_left
      · have h3 : w[k].length ≤ i := by simp at h3; omega
        have hi' : i ≤ w[k].length := hi
        obtain rfl : i = w[k].length := by omega
        have e : upTo w k w[k].length = upTo w (k + 1) 0 := by rw [upTo_all h2 (Nat.le_refl _), upTo_zero]
        refine Ar.exact (by (try simp only [nc] at *); omega) (by (try simp only [nc] at *); omega) ?_
        cbv
        repeat (refine Pz.mk ?_; cbv)
        refine NextE.by (k + 1) ?_ ?_ ?_
        · show w.length - (k + 1) < w.length - k
          omega
        · exact ⟨h2, hs.snoc h2 hr⟩
        · cbv
          repeat (refine Pz.mk ?_; cbv)
          rw [e]
          repeat' first | exact trivial | refine ⟨rfl, ?_⟩ | fail
      have h3 : i < w[k].length := by simpa using h3
      have glo := (cntP (upTo w k i)).lo w[k][i].pid
      have ghi := (cntP (upTo w k i)).hi w[k][i].pid
      have est := upTo_step h2 h3
      have esl : (upTo w k (i + 1)).length = (upTo w k i).length + 1 := by rw [est]; simp
      have esc : cntM (upTo w k (i + 1)) = mput (cntM (upTo w k i)) w[k][i].pid (mget (cntM (upTo w k i)) w[k][i].pid + 1) := by rw [est, cntM_snoc]
      have lo2 : -9223372036854775808 ≤ mget (cntM (upTo w k i)) w[k][i].pid + 1 := by omega
      have hi2 : mget (cntM (upTo w k i)) w[k][i].pid + 1 ≤ 9223372036854775807 := by omega
      have ln2 : (cntM (upTo w k i)).length < 9223372036854775807 := by omega
      have lo3 : -9223372036854775808 ≤ ((upTo w k i).length : Int) + 1 := by omega
      have hi3 : ((upTo w k i).length : Int) + 1 ≤ 9223372036854775807 := by omega
      have ne3 : ((upTo w k i).length : Int) + 1 = ((upTo w k (i + 1)).length : Int) := by rw [esl]; omega
      have lo4 : -9223372036854775808 ≤ (i : Int) + 1 := by omega
      have hi4 : (i : Int) + 1 ≤ 9223372036854775807 := by omega
      refine ⟨w[k][i], by simp, get_cast w[k] h3, ?_⟩
      cbv
      repeat (refine Pz.mk ?_; cbv)
      refine CallA.by hP (pinOk_ok w[k][i]) ?_
      cbv
      repeat (refine Pz.mk ?_; cbv)
      refine Br.split (fun k0 => ?_) (fun k0 => ?_) <;> (cbv; repeat (refine Pz.mk ?_; cbv))
      · refine ⟨?_, trivial⟩
        have k0 : (!pinOkB w[k][i]) = true := k0
        exact (no (fun h => by have := (h.rowN h2 h3).1; rw [this] at k0; cases k0)).symm
      have k0 : (!pinOkB w[k][i]) = false := k0
      have k0 : pinOkB w[k][i] = true := by simpa using k0
      refine ⟨by decide, ?_⟩
      cbv
      repeat (refine Pz.mk ?_; cbv)
      refine Br.split (fun k1 => ?_) (fun k1 => ?_) <;> (cbv; repeat (refine Pz.mk ?_; cbv))
      · refine ⟨?_, trivial⟩
        have k1 : (w[k][i].tm.tmod 9 != (k : Int)) = true := k1
        exact (no (fun h => by have := (h.rowN h2 h3).2.1; rw [this] at k1; simp at k1)).symm
      have k1 : (w[k][i].tm.tmod 9 != (k : Int)) = false := k1
      have k1 : w[k][i].tm.tmod 9 = (k : Int) := by simpa using k1
      refine Br.dec (fun k2 => ?_) (fun k2 => ?_) <;> (cbv; repeat (refine Pz.mk ?_; cbv))
      · have k2 : 0 < i := by simpa using k2
        have h4 : i - 1 < w[k].length := by omega
        have oj : 0 ≤ (i : Int) - 1 := by omega
        have gj : w[k][((i : Int) - 1).toNat]? = some w[k][i - 1] := by rw [show ((i : Int) - 1).toNat = i - 1 by omega]; exact List.getElem?_eq_getElem h4
        refine Ar.exact (by (try simp only [nc] at *); omega) (by (try simp only [nc] at *); omega) ?_
        cbv
        repeat (refine Pz.mk ?_; cbv)
        refine ⟨w[k][i - 1], oj, gj, ?_⟩
        cbv
        repeat (refine Pz.mk ?_; cbv)
        refine CallA.by hP (comparePins_ok w[k][i - 1] w[k][i]) ?_
        cbv
        repeat (refine Pz.mk ?_; cbv)
        refine Br.dec (fun k3 => ?_) (fun k3 => ?_) <;> (cbv; repeat (refine Pz.mk ?_; cbv))
        · refine ⟨?_, trivial⟩
          have k3 := cmp_gt.1 k3
          exact (no (fun h => by have := (h.rowN h2 h3).2.2 k2; rw [this] at k3; cases k3)).symm
        have k3 : pinLt w[k][i] w[k][i - 1] = false := by
          cases h5 : pinLt w[k][i] w[k][i - 1] with
          | false => rfl
          | true => exact absurd (cmp_gt.2 h5) k3
        refine Ar.exact lo2 hi2 ?_
        cbv
        repeat (refine Pz.mk ?_; cbv)
        refine ⟨ln2, ?_⟩
        cbv
        repeat (refine Pz.mk ?_; cbv)
        refine Ar.exact lo3 hi3 ?_
        cbv
        repeat (refine Pz.mk ?_; cbv)
        refine Ar.exact lo4 hi4 ?_
        cbv
        repeat (refine Pz.mk ?_; cbv)
        refine NextE.by (i + 1) ?_ ?_ ?_
        · show w[k].length - (i + 1) < w[k].length - i
          omega
        · exact ⟨h3, hr.snoc h3 k0 k1 fun _ => k3⟩
        · cbv
          repeat (refine Pz.mk ?_; cbv)
          refine ⟨ne3, ?_⟩
          repeat' first | exact trivial | refine ⟨rfl, ?_⟩ | fail
          refine ⟨esc.symm, ?_⟩
          repeat' first | exact trivial | refine ⟨rfl, ?_⟩ | fail
      · have k2 : ¬ 0 < i := by simpa using k2
        refine Ar.exact lo2 hi2 ?_
        cbv
        repeat (refine Pz.mk ?_; cbv)
        refine ⟨ln2, ?_⟩
        cbv
        repeat (refine Pz.mk ?_; cbv)
        refine Ar.exact lo3 hi3 ?_
        cbv
        repeat (refine Pz.mk ?_; cbv)
        refine Ar.exact lo4 hi4 ?_
        cbv
        repeat (refine Pz.mk ?_; cbv)
        refine NextE.by (i + 1) ?_ ?_ ?_
        · show w[k].length - (i + 1) < w[k].length - i
          omega
        · exact ⟨h3, hr.snoc h3 k0 k1 fun h => absurd h k2⟩
        · cbv
          repeat (refine Pz.mk ?_; cbv)
          refine ⟨ne3, ?_⟩
          repeat' first | exact trivial | refine ⟨rfl, ?_⟩ | fail
          refine ⟨esc.symm, ?_⟩
          repeat' first | exact trivial | refine ⟨rfl, ?_⟩ | fail
theorem wheelPins_yes {w : List (List Pin)} (h : wheelOkB w = true) : wheelPins w = sortR pinLt (allP w) := if_pos h
theorem wheelPins_no {w : List (List Pin)} (h : wheelOkB w = false) : wheelPins w = [] := if_neg (by rw [h]; simp)
theorem wheel_few {w : List (List Pin)} (h : wheelOkB w = true) : WhG w := by simpa [wheelOkB] using h
theorem specPinsOf_ok (w : List (List Pin)) (hw : SmP w) (x : List Pin) (hx : x = wheelPins w) : Spec Tryz.prog 201 [whA w] (Ret (lR .pin fun _ => x)) := by
  refine spec_of tabOk Tryz.func201 rfl rfl (fr := true) (fun _ => by kernel_rfl) fun P hP hA => ?_
  cbv
  repeat (refine Pz.mk ?_; cbv)
  refine CallA.by hP (specWheelOk_ok w hw (wheelOkB w) rfl) ?_
  cbv
  repeat (refine Pz.mk ?_; cbv)
  refine Br.split (fun k0 => ?_) (fun k0 => ?_) <;> (cbv; repeat (refine Pz.mk ?_; cbv))
  · have k0 : wheelOkB w = false := by simpa using k0
    obtain rfl : x = [] := hx.trans (wheelPins_no k0)
    repeat' first | exact trivial | refine ⟨rfl, ?_⟩ | fail
  have k0 : wheelOkB w = true := by simpa using k0
  have hx := hx.trans (wheelPins_yes k0)
  have few := (wheel_few k0).few
  refine CallA.by hP (l9All_ok w hw) ?_
  cbv
  repeat (refine Pz.mk ?_; cbv)
  refine LoopE.by (X := Nat) (fun i => [(3, oN 0), (4, oN 1), (5, nT fun _ => i)]) (fun i => [(0, ownB' .pin fun _ => sortF pinLt ((allP w).take i)), (1, ownB' .pin fun _ => allP w)]) (fun i => i ≤ (allP w).length) (fun i _ => (allP w).length - i) 0 (Nat.zero_le _) ?_ ?_
  · cbv
    repeat (refine Pz.mk ?_; cbv)
    repeat' first | exact trivial | refine ⟨rfl, ?_⟩ | fail
  · intro i hi
    cbv
    repeat (refine Pz.mk ?_; cbv)
    refine Br.dec (fun h2 => ?_) (fun h2 => ?_) <;> (cbv; repeat (refine Pz.mk ?_; cbv))
    rotate_left
    · have h2 : (allP w).length ≤ i := by simp at h2; omega
      refine ⟨?_, trivial⟩
      show sortF pinLt ((allP w).take i) = x
      rw [List.take_of_length_le h2, sortF_eq pinSWO pin_anti, hx]
    have h2 : i < (allP w).length := by simpa using h2
    have gi : (allP w).getD ((i : Int)).toNat default = (allP w)[i] := by rw [Int.toNat_natCast, List.getD_eq_getElem?_getD, List.getElem?_eq_getElem h2]; rfl
    have oi : 0 ≤ (i : Int) ∧ (i : Int) < ((allP w).length : Int) := by omega
    have st : insL pinLt ((allP w).getD ((i : Int)).toNat default) (sortF pinLt ((allP w).take i)) = sortF pinLt ((allP w).take (i + 1)) := by
      rw [gi, ← sortF_snoc, List.take_add_one, List.getElem?_eq_getElem h2]; rfl
    refine ⟨oi, ?_⟩
    cbv
    repeat (refine Pz.mk ?_; cbv)
    refine CallA.by hP (l9Put_ok (sortF pinLt ((allP w).take i)) ((allP w).getD ((i : Int)).toNat default) (by rw [sortF_eq pinSWO pin_anti, sortR_len, List.length_take]; show _ ≤ 1048576; omega)) ?_
    cbv
    repeat (refine Pz.mk ?_; cbv)
    refine Ar.exact (by (try simp only [nc] at *); omega) (by (try simp only [nc] at *); omega) ?_
    cbv
    repeat (refine Pz.mk ?_; cbv)
    refine NextE.by (i + 1) ?_ ?_ ?_
    · show (allP w).length - (i + 1) < (allP w).length - i
      omega
    · exact h2
    · cbv
      repeat (refine Pz.mk ?_; cbv)
      repeat' first | exact trivial | refine ⟨rfl, ?_⟩ | fail
      refine ⟨st, ?_⟩
      repeat' first | exact trivial | refine ⟨rfl, ?_⟩ | fail
theorem implPinsOf_ok (w : List (List Pin)) (hw : SmP w) (x : List Pin) (hx : x = wheelPins w) : Spec Tryz.prog 141 [whA w] (Ret (lR .pin fun _ => x)) := by
  refine spec_of tabOk Tryz.func141 rfl rfl (fr := true) (fun _ => by kernel_rfl) fun P hP hA => ?_
  cbv
  repeat (refine Pz.mk ?_; cbv)
  refine CallA.by hP (implWheelOk_ok w hw (wheelOkB w) rfl) ?_
  cbv
  repeat (refine Pz.mk ?_; cbv)
  refine Br.split (fun k0 => ?_) (fun k0 => ?_) <;> (cbv; repeat (refine Pz.mk ?_; cbv))
  · have k0 : wheelOkB w = false := by simpa using k0
    obtain rfl : x = [] := hx.trans (wheelPins_no k0)
    repeat' first | exact trivial | refine ⟨rfl, ?_⟩ | fail
  have k0 : wheelOkB w = true := by simpa using k0
  have hx := hx.trans (wheelPins_yes k0)
  have few := (wheel_few k0).few
  have h9 := (wheel_few k0).len
  refine LoopE.by (X := Nat) (fun i => [(3, oN 0), (10, lA .spk w), (11, nT fun _ => w.length), (12, nT fun _ => i)]) (fun i => [(0, ownB' .pin fun _ => (w.take i).flatten)]) (fun i => i ≤ w.length) (fun i _ => w.length - i) 0 (Nat.zero_le _) ?_ ?_
  · cbv
    repeat (refine Pz.mk ?_; cbv)
    repeat' first | exact trivial | refine ⟨rfl, ?_⟩ | fail
  · intro i hi
    cbv
    repeat (refine Pz.mk ?_; cbv)
    refine Br.dec (fun h2 => ?_) (fun h2 => ?_) <;> (cbv; repeat (refine Pz.mk ?_; cbv))
    rotate_left
    · have h2 : w.length ≤ i := by simp at h2; omega
      have e : (w.take i).flatten = allP w := by rw [List.take_of_length_le h2]; rfl
      refine CallM.by hP (sortPin_ok ((w.take i).flatten) (by rw [e]; exact few)) ?_
      cbv
      repeat (refine Pz.mk ?_; cbv)
      refine ⟨?_, trivial⟩
      show sortR pinLt (w.take i).flatten = x
      rw [e, hx]
    have h2 : i < w.length := by simpa using h2
    have ob : (List.length (w.take i).flatten + List.length w[i]) * 16 ≤ 140737488355328 := by
      have h3 := flat_len_le (w := w) (i + 1)
      rw [flat_take h2, List.length_append] at h3
      have h4 : w.flatten.length ≤ 10 := few
      omega
    refine ⟨w[i], by simp, get_cast w h2, ?_⟩
    cbv
    repeat (refine Pz.mk ?_; cbv)
    refine ⟨ob, ?_⟩
    cbv
    repeat (refine Pz.mk ?_; cbv)
    refine Ar.exact (by (try simp only [nc] at *); omega) (by (try simp only [nc] at *); omega) ?_
    cbv
    repeat (refine Pz.mk ?_; cbv)
    refine NextE.by (i + 1) ?_ ?_ ?_
    · show w.length - (i + 1) < w.length - i
      omega
    · exact h2
    · cbv
      repeat (refine Pz.mk ?_; cbv)
      repeat' first | exact trivial | refine ⟨rfl, ?_⟩ | fail
      refine ⟨(flat_take h2).symm, trivial⟩
end Go.Proofs.YtnenmkiabclncaaGreat
namespace Go.Proofs.YtnenmkiabclncaaGreat
open Go
set_option maxRecDepth 100000
def cabinOkB (c : Cabin) : Bool := ledOkB c.seats && (queueOkB c.row && wheelOkB c.spoke)
def agreesB (R : Rules) (c : Cabin) (l : List Party) (k now : Int) : Bool :=
  cabinOkB c && (decide (c.row = queueOf R l k now) && (decide (wheelPins c.spoke = pinsIn l k) && ((c.seats.held == ((zAll (heldZ k) l : Nat) : Int)) && (c.seats.tied == ((zAll (tiedZ k) l : Nat) : Int)))))
theorem specCabinOk_ok (c : Cabin) (hw : SmP c.spoke) (b : Bool) (hb : b = cabinOkB c) : Spec Tryz.prog 198 [eA .cab c] (Ret (bR fun _ => b)) := by
  refine spec_of tabOk Tryz.func198 rfl rfl (fr := true) (fun _ => by kernel_rfl) fun P hP hA => ?_
  cbv
  repeat (refine Pz.mk ?_; cbv)
  repeat' first
    | (refine CallA.by hP (specLedgerOk_ok c.seats (ledOkB c.seats) rfl) ?_; cbv; repeat (refine Pz.mk ?_; cbv))
    | (refine CallA.by hP (specQueueOk_ok c.row (queueOkB c.row) rfl) ?_; cbv; repeat (refine Pz.mk ?_; cbv))
    | (refine CallA.by hP (specWheelOk_ok c.spoke hw (wheelOkB c.spoke) rfl) ?_; cbv; repeat (refine Pz.mk ?_; cbv))
    | (refine Br.split (fun h => ?_) (fun h => ?_) <;> (cbv; repeat (refine Pz.mk ?_; cbv)))
    | fail
  all_goals refine ⟨?_, trivial⟩
  all_goals simp_all [cabinOkB]
theorem implCabinOk_ok (c : Cabin) (hw : SmP c.spoke) (b : Bool) (hb : b = cabinOkB c) : Spec Tryz.prog 210 [eA .cab c] (Ret (bR fun _ => b)) := by
  refine spec_of tabOk Tryz.func210 rfl rfl (fr := true) (fun _ => by kernel_rfl) fun P hP hA => ?_
  cbv
  repeat (refine Pz.mk ?_; cbv)
  repeat' first
    | (refine CallA.by hP (implLedgerOk_ok c.seats (ledOkB c.seats) rfl) ?_; cbv; repeat (refine Pz.mk ?_; cbv))
    | (refine CallA.by hP (implQueueOk_ok c.row (queueOkB c.row) rfl) ?_; cbv; repeat (refine Pz.mk ?_; cbv))
    | (refine CallA.by hP (implWheelOk_ok c.spoke hw (wheelOkB c.spoke) rfl) ?_; cbv; repeat (refine Pz.mk ?_; cbv))
    | (refine Br.split (fun h => ?_) (fun h => ?_) <;> (cbv; repeat (refine Pz.mk ?_; cbv)))
    | fail
  all_goals refine ⟨?_, trivial⟩
  all_goals simp_all [cabinOkB]
set_option maxHeartbeats 1000000 in
theorem specAgrees_ok (R : Rules) (c : Cabin) (l : List Party) (k now : Int) (hs : R.seats.length ≤ bigN) (hl : l.length ≤ bigN) (hw : SmP c.spoke) (b : Bool) (hb : b = agreesB R c l k now) :
    Spec Tryz.prog 126 [ruA R, eA .cab c, lA .pty l, iA k, iA now] (Ret (bR fun _ => b)) := by
  refine spec_of tabOk Tryz.func126 rfl rfl (fr := true) (fun _ => by kernel_rfl) fun P hP hA => ?_
  cbv
  repeat (refine Pz.mk ?_; cbv)
  repeat (refine Pz.mk ?_; cbv)
  refine CallA.by hP (specCabinOk_ok c hw (cabinOkB c) rfl) ?_
  cbv
  repeat (refine Pz.mk ?_; cbv)
  refine Br.split (fun k0 => ?_) (fun k0 => ?_) <;> (cbv; repeat (refine Pz.mk ?_; cbv))
  rotate_left
  · refine ⟨?_, trivial⟩
    have k0 : cabinOkB c = false := k0
    simp [hb, agreesB, k0]
  have k0 : cabinOkB c = true := k0
  refine CallA.by hP (specQueueOf_ok R l k now hs hl) ?_
  cbv
  repeat (refine Pz.mk ?_; cbv)
  refine CallA.by hP (l10SameRow_ok c.row (queueOf R l k now)) ?_
  cbv
  repeat (refine Pz.mk ?_; cbv)
  refine Br.split (fun k1 => ?_) (fun k1 => ?_) <;> (cbv; repeat (refine Pz.mk ?_; cbv))
  rotate_left
  · refine ⟨?_, trivial⟩
    have k1 : decide (c.row = queueOf R l k now) = false := k1
    rw [hb, agreesB, k0, k1]; rfl
  have k1 : decide (c.row = queueOf R l k now) = true := k1
  repeat' first
    | (refine CallA.by hP (specPinsOf_ok c.spoke hw (wheelPins c.spoke) rfl) ?_; cbv; repeat (refine Pz.mk ?_; cbv))
    | (refine CallA.by hP (specPinsIn_ok l k hl) ?_; cbv; repeat (refine Pz.mk ?_; cbv))
    | refine And.intro ?_ ?_
    | fail
  all_goals
    refine CallA.by hP (l9SamePins_ok (wheelPins c.spoke) (pinsIn l k)) ?_
    cbv
    repeat (refine Pz.mk ?_; cbv)
    refine Br.split (fun k2 => ?_) (fun k2 => ?_) <;> (cbv; repeat (refine Pz.mk ?_; cbv))
    rotate_left
    · refine ⟨?_, trivial⟩
      have k2 : decide (wheelPins c.spoke = pinsIn l k) = false := k2
      rw [hb, agreesB, k0, k1, k2]; rfl
    have k2 : decide (wheelPins c.spoke = pinsIn l k) = true := k2
    refine CallA.by hP (specHeldIn_ok l k hl) ?_
    cbv
    repeat (refine Pz.mk ?_; cbv)
    refine Br.split (fun k3 => ?_) (fun k3 => ?_) <;> (cbv; repeat (refine Pz.mk ?_; cbv))
    rotate_left
    · refine ⟨?_, trivial⟩
      have k3 : (c.seats.held == ((zAll (heldZ k) l : Nat) : Int)) = false := k3
      rw [hb, agreesB, k0, k1, k2, k3]; rfl
    have k3 : (c.seats.held == ((zAll (heldZ k) l : Nat) : Int)) = true := k3
    refine CallA.by hP (specTiedIn_ok l k hl) ?_
    cbv
    repeat (refine Pz.mk ?_; cbv)
    refine ⟨?_, trivial⟩
    rw [hb, agreesB, k0, k1, k2, k3]; rfl
set_option maxHeartbeats 1000000 in
theorem implAgrees_ok (R : Rules) (c : Cabin) (l : List Party) (k now : Int) (hs : R.seats.length ≤ bigN) (hl : l.length ≤ bigN) (hw : SmP c.spoke) (he : (entsOf R k now l).length ≤ 10) (hp : (pinsOfP k l).length ≤ 10)
    (b : Bool) (hb : b = agreesB R c l k now) : Spec Tryz.prog 133 [ruA R, eA .cab c, lA .pty l, iA k, iA now] (Ret (bR fun _ => b)) := by
  refine spec_of tabOk Tryz.func133 rfl rfl (fr := true) (fun _ => by kernel_rfl) fun P hP hA => ?_
  cbv
  repeat (refine Pz.mk ?_; cbv)
  repeat (refine Pz.mk ?_; cbv)
  refine CallA.by hP (implCabinOk_ok c hw (cabinOkB c) rfl) ?_
  cbv
  repeat (refine Pz.mk ?_; cbv)
  refine Br.split (fun k0 => ?_) (fun k0 => ?_) <;> (cbv; repeat (refine Pz.mk ?_; cbv))
  rotate_left
  · refine ⟨?_, trivial⟩
    have k0 : cabinOkB c = false := k0
    simp [hb, agreesB, k0]
  have k0 : cabinOkB c = true := k0
  refine CallA.by hP (implQueueOf_ok R l k now hs hl he) ?_
  cbv
  repeat (refine Pz.mk ?_; cbv)
  refine CallA.by hP (equalEnt_ok c.row (queueOf R l k now)) ?_
  cbv
  repeat (refine Pz.mk ?_; cbv)
  refine Br.split (fun k1 => ?_) (fun k1 => ?_) <;> (cbv; repeat (refine Pz.mk ?_; cbv))
  rotate_left
  · refine ⟨?_, trivial⟩
    have k1 : decide (c.row = queueOf R l k now) = false := k1
    rw [hb, agreesB, k0, k1]; rfl
  have k1 : decide (c.row = queueOf R l k now) = true := k1
  repeat' first
    | (refine CallA.by hP (implPinsOf_ok c.spoke hw (wheelPins c.spoke) rfl) ?_; cbv; repeat (refine Pz.mk ?_; cbv))
    | (refine CallA.by hP (implPinsIn_ok l k hl hp) ?_; cbv; repeat (refine Pz.mk ?_; cbv))
    | refine And.intro ?_ ?_
    | fail
  all_goals
    refine CallA.by hP (equalPin_ok (wheelPins c.spoke) (pinsIn l k)) ?_
    cbv
    repeat (refine Pz.mk ?_; cbv)
    refine Br.split (fun k2 => ?_) (fun k2 => ?_) <;> (cbv; repeat (refine Pz.mk ?_; cbv))
    rotate_left
    · refine ⟨?_, trivial⟩
      have k2 : decide (wheelPins c.spoke = pinsIn l k) = false := k2
      rw [hb, agreesB, k0, k1, k2]; rfl
    have k2 : decide (wheelPins c.spoke = pinsIn l k) = true := k2
    refine CallA.by hP (implHeldIn_ok l k hl) ?_
    cbv
    repeat (refine Pz.mk ?_; cbv)
    refine Br.split (fun k3 => ?_) (fun k3 => ?_) <;> (cbv; repeat (refine Pz.mk ?_; cbv))
    rotate_left
    · refine ⟨?_, trivial⟩
      have k3 : (c.seats.held == ((zAll (heldZ k) l : Nat) : Int)) = false := k3
      rw [hb, agreesB, k0, k1, k2, k3]; rfl
    have k3 : (c.seats.held == ((zAll (heldZ k) l : Nat) : Int)) = true := k3
    refine CallA.by hP (implTiedIn_ok l k hl) ?_
    cbv
    repeat (refine Pz.mk ?_; cbv)
    refine ⟨?_, trivial⟩
    rw [hb, agreesB, k0, k1, k2, k3]; rfl
end Go.Proofs.YtnenmkiabclncaaGreat

