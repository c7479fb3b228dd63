/- Parts of a proof. No conditions. -/

import Derived.Test.YtlochjpjlhkjaaaG08
set_option linter.unusedSimpArgs false
set_option linter.unusedVariables false
namespace Go.Proofs.Ytlochjpjlhkjaaa
open Go
set_option maxRecDepth 100000
def atOf {α : Type} (p : α → Bool) (l : List α) : Int := match l.findIdx? p with | some i => (i : Int) | none => -1
section
variable {α : Type} {p : α → Bool} {l : List α}
theorem atOf_hit {i : Nat} (hi : i < l.length) (h : p l[i] = true) (hn : ∀ (j : Nat) x, j < i → l[j]? = some x → p x = false) : atOf p l = (i : Int) := by
  have : l.findIdx? p = some i := by
    rw [List.findIdx?_eq_some_iff_getElem]
    refine ⟨hi, h, fun j hj => ?_⟩
    rw [hn j _ hj (List.getElem?_eq_getElem (by omega))]; simp
  simp [atOf, this]
theorem atOf_miss (hn : ∀ (j : Nat) x, l[j]? = some x → p x = false) : atOf p l = -1 := by
  have : l.findIdx? p = none := by
    rw [List.findIdx?_eq_none_iff]
    intro x hx
    obtain ⟨j, hj⟩ := List.mem_iff_getElem?.1 hx
    exact hn j x hj
  simp [atOf, this]
theorem atOf_cases (p : α → Bool) (l : List α) : (atOf p l = -1 ∧ ∀ x ∈ l, p x = false) ∨ ∃ i, ∃ h : i < l.length, atOf p l = (i : Int) ∧ p l[i] = true ∧ ∀ (j : Nat) x, j < i → l[j]? = some x → p x = false := by
  cases h : l.findIdx? p with
  | none => exact .inl ⟨by simp [atOf, h], List.findIdx?_eq_none_iff.1 h⟩
  | some i =>
    obtain ⟨h1, h2, h3⟩ := List.findIdx?_eq_some_iff_getElem.1 h
    refine .inr ⟨i, h1, by simp [atOf, h], h2, fun j x hj hx => ?_⟩
    have hlt := lt_of_get hx
    rw [List.getElem?_eq_getElem hlt] at hx
    cases hx
    have := h3 j hj
    simpa using this
theorem pre_step {q : α → Prop} {i : Nat} (hi : i < l.length) (hn : ∀ (j : Nat) x, j < i → l[j]? = some x → q x) (h : q l[i]) : ∀ (j : Nat) x, j < i + 1 → l[j]? = some x → q x := by
  intro j x hj hx
  rcases Nat.lt_or_ge j i with h1 | h1
  · exact hn j x h1 hx
  · obtain rfl : j = i := by omega
    rw [List.getElem?_eq_getElem hi] at hx
    cases hx; exact h
theorem pre_all {q : α → Prop} {i : Nat} (hi : l.length ≤ i) (hn : ∀ (j : Nat) x, j < i → l[j]? = some x → q x) : ∀ (j : Nat) x, l[j]? = some x → q x :=
  fun j x hx => hn j x (Nat.lt_of_lt_of_le (lt_of_get hx) hi) hx
end
theorem atOf_range {α : Type} (p : α → Bool) (l : List α) : -1 ≤ atOf p l ∧ atOf p l < l.length := by
  rcases atOf_cases p l with ⟨h, _⟩ | ⟨i, hi, h, _⟩ <;> rw [h] <;> omega
def qAt (l : List Entry) (id : Int) : Int := atOf (fun e => e.eid == id) l
def pAt (l : List Party) (id : Int) : Int := atOf (fun e => e.id == id) l
theorem specQueueAt_ok (a : List Entry) (id : Int) (x : Int) (hx : x = qAt a id) : Spec Try.prog 77 [lA .ent a, iA id] (Ret (iR fun _ => x)) := by
  refine spec_of tabOk Try.func77 rfl rfl (fr := true) (fun _ => by kernel_rfl) fun P hP hA => ?_
  obtain ⟨⟨ha, _⟩, _⟩ := hA
  have ha : a.length ≤ 9223372036854775807 := ha
  cbv
  refine LoopE.by (X := Nat) (fun i => [(0, lA .ent a), (1, iA id), (5, nT fun _ => i)]) (fun _ => []) (fun i => i ≤ a.length ∧ ∀ (j : Nat) y, j < i → a[j]? = some y → (y.eid == id) = false) (fun i _ => a.length - i) 0 ⟨Nat.zero_le _, fun j y hj => by omega⟩ ?_ ?_
  · cbv
    repeat' first | exact trivial | refine ⟨rfl, ?_⟩ | fail
  · intro i ⟨hi, hn⟩
    cbv
    refine Br.dec (fun h2 => ?_) (fun h2 => ?_) <;> (cbv; repeat (refine Pz.mk ?_; cbv))
    · have h2 : i < a.length := by simpa using h2
      refine ⟨a[i], by simp, get_cast a h2, ?_⟩
      cbv
      repeat (refine Pz.mk ?_; cbv)
      refine Br.split (fun h3 => ?_) (fun h3 => ?_) <;> (cbv; repeat (refine Pz.mk ?_; cbv))
      · refine ⟨?_, trivial⟩
        exact (hx.trans (atOf_hit h2 h3 hn)).symm
      · refine Ar.exact (by (try simp only [nc] at *); omega) (by (try simp only [nc] at *); omega) ?_
        cbv
        repeat (refine Pz.mk ?_; cbv)
        refine NextE.by (i + 1) ?_ ?_ ?_
        · show a.length - (i + 1) < a.length - i
          omega
        · exact ⟨h2, pre_step h2 hn h3⟩
        · cbv
          repeat' first | exact trivial | refine ⟨rfl, ?_⟩ | fail
    · have h2 : a.length ≤ i := by simp at h2; omega
      refine ⟨?_, trivial⟩
      exact (hx.trans (atOf_miss (pre_all h2 hn))).symm
theorem l11At_ok (a : List Party) (id : Int) (x : Int) (hx : x = pAt a id) : Spec Try.prog 19 [lA .pty a, iA id] (Ret (iR fun _ => x)) := by
  refine spec_of tabOk Try.func19 rfl rfl (fr := true) (fun _ => by kernel_rfl) fun P hP hA => ?_
  obtain ⟨⟨ha, _⟩, _⟩ := hA
  have ha : a.length ≤ 9223372036854775807 := ha
  cbv
  refine LoopE.by (X := Nat) (fun i => [(0, lA .pty a), (1, iA id), (5, nT fun _ => i)]) (fun _ => []) (fun i => i ≤ a.length ∧ ∀ (j : Nat) y, j < i → a[j]? = some y → (y.id == id) = false) (fun i _ => a.length - i) 0 ⟨Nat.zero_le _, fun j y hj => by omega⟩ ?_ ?_
  · cbv
    repeat' first | exact trivial | refine ⟨rfl, ?_⟩ | fail
  · intro i ⟨hi, hn⟩
    cbv
    refine Br.dec (fun h2 => ?_) (fun h2 => ?_) <;> (cbv; repeat (refine Pz.mk ?_; cbv))
    · have h2 : i < a.length := by simpa using h2
      refine ⟨a[i], by simp, get_cast a h2, ?_⟩
      cbv
      repeat (refine Pz.mk ?_; cbv)
      refine Br.split (fun h3 => ?_) (fun h3 => ?_) <;> (cbv; repeat (refine Pz.mk ?_; cbv))
      · refine ⟨?_, trivial⟩
        exact (hx.trans (atOf_hit h2 h3 hn)).symm
      · refine Ar.exact (by (try simp only [nc] at *); omega) (by (try simp only [nc] at *); omega) ?_
        cbv
        repeat (refine Pz.mk ?_; cbv)
        refine NextE.by (i + 1) ?_ ?_ ?_
        · show a.length - (i + 1) < a.length - i
          omega
        · exact ⟨h2, pre_step h2 hn h3⟩
        · cbv
          repeat' first | exact trivial | refine ⟨rfl, ?_⟩ | fail
    · have h2 : a.length ≤ i := by simp at h2; omega
      refine ⟨?_, trivial⟩
      exact (hx.trans (atOf_miss (pre_all h2 hn))).symm
theorem partyAt1_ok (e : Party) (id : Int) : Spec Try.prog 27 [eA .pty e, .c (.pcs [.int .i64 fun _ => id] 0)] (Ret (bR fun _ => e.id == id)) := by
  refine spec_of tabOk Try.func27 rfl rfl (fr := true) (fun _ => by kernel_rfl) fun P hP hA => ?_
  cbv
  repeat' first | exact trivial | refine ⟨rfl, ?_⟩ | fail
theorem indexPartyAt_ok (a : List Party) (id : Int) (x : Int) (hx : x = pAt a id) : Spec Try.prog 15 [lA .pty a, .c (.fn 27 [.pcs [.int .i64 fun _ => id] 0])] (Ret (iR fun _ => x)) := by
  refine spec_of tabOk Try.func15 rfl rfl (fr := true) (fun _ => by kernel_rfl) fun P hP hA => ?_
  obtain ⟨⟨ha, _⟩, _⟩ := hA
  have ha : a.length ≤ 9223372036854775807 := ha
  cbv
  refine LoopE.by (X := Nat) (fun i => [(0, lA .pty a), (1, .c (.fn 27 [.pcs [.int .i64 fun _ => id] 0])), (7, nT fun _ => a.length), (8, nT fun _ => i)]) (fun _ => []) (fun i => i ≤ a.length ∧ ∀ (j : Nat) y, j < i → a[j]? = some y → (y.id == id) = false) (fun i _ => a.length - i) 0 ⟨Nat.zero_le _, fun j y hj => by omega⟩ ?_ ?_
  · cbv
    repeat' first | exact trivial | refine ⟨rfl, ?_⟩ | fail
  · intro i ⟨hi, hn⟩
    cbv
    refine Br.dec (fun h2 => ?_) (fun h2 => ?_) <;> (cbv; repeat (refine Pz.mk ?_; cbv))
    · have h2 : i < a.length := by simpa using h2
      refine ⟨a[i], by simp, get_cast a h2, ?_⟩
      cbv
      repeat (refine Pz.mk ?_; cbv)
      refine CallA.by hP (partyAt1_ok a[i] id) ?_
      cbv
      repeat (refine Pz.mk ?_; cbv)
      refine Br.split (fun h3 => ?_) (fun h3 => ?_) <;> (cbv; repeat (refine Pz.mk ?_; cbv))
      · refine ⟨?_, trivial⟩
        exact (hx.trans (atOf_hit h2 h3 hn)).symm
      · refine Ar.exact (by (try simp only [nc] at *); omega) (by (try simp only [nc] at *); omega) ?_
        cbv
        repeat (refine Pz.mk ?_; cbv)
        refine NextE.by (i + 1) ?_ ?_ ?_
        · show a.length - (i + 1) < a.length - i
          omega
        · exact ⟨h2, pre_step h2 hn h3⟩
        · cbv
          repeat' first | exact trivial | refine ⟨rfl, ?_⟩ | fail
    · have h2 : a.length ≤ i := by simp at h2; omega
      refine ⟨?_, trivial⟩
      exact (hx.trans (atOf_miss (pre_all h2 hn))).symm
theorem partyAt_ok (a : List Party) (id : Int) (x : Int) (hx : x = pAt a id) : Spec Try.prog 14 [lA .pty a, iA id] (Ret (iR fun _ => x)) := by
  refine spec_of tabOk Try.func14 rfl rfl (fr := true) (fun _ => by kernel_rfl) fun P hP hA => ?_
  cbv
  refine CallA.by hP (indexPartyAt_ok a id x hx) ?_
  cbv
  repeat (refine Pz.mk ?_; cbv)
  repeat' first | exact trivial | refine ⟨rfl, ?_⟩ | fail
theorem implPartyAt_ok (h : House) (id : Int) (x : Int) (hx : x = pAt h.parties id) : Spec Try.prog 8 [hoA h, iA id] (Ret (iR fun _ => x)) := by
  refine spec_of tabOk Try.func8 rfl rfl (fr := true) (fun _ => by kernel_rfl) fun P hP hA => ?_
  cbv
  refine CallA.by hP (partyAt_ok h.parties id x hx) ?_
  cbv
  repeat (refine Pz.mk ?_; cbv)
  repeat' first | exact trivial | refine ⟨rfl, ?_⟩ | fail
def entOkF (e : Entry) : Bool := isIn e.lvl 0 4 && (isIn e.turn 1 1000000 && (isIn e.eid 1 999 && isIn e.siz 1 6))
structure QPre (l : List Entry) : Prop where
  ok : ∀ e ∈ l, entOkF e = true
  lt : l.Pairwise fun a b => entLt a b = true
  ne : l.Pairwise fun a b => a.eid ≠ b.eid
instance (l : List Entry) : Decidable (QPre l) :=
  decidable_of_iff ((∀ e ∈ l, entOkF e = true) ∧ (l.Pairwise fun a b => entLt a b = true) ∧ l.Pairwise fun a b => a.eid ≠ b.eid) ⟨fun ⟨a, b, c⟩ => ⟨a, b, c⟩, fun ⟨a, b, c⟩ => ⟨a, b, c⟩⟩
def queueOkB (l : List Entry) : Bool := decide (l.length ≤ 10) && decide (QPre l)
theorem QPre.nil : QPre [] := ⟨fun e he => (by cases he), List.Pairwise.nil, List.Pairwise.nil⟩
theorem QPre.snoc {l : List Entry} {i : Nat} (hi : i < l.length) (h : QPre (l.take i)) (ok : entOkF l[i] = true) (lt : 0 < i → entLt (l[i - 1]'(by omega)) l[i] = true) (ne : ∀ (j : Nat) x, j < i → l[j]? = some x → (x.eid == l[i].eid) = false) : QPre (l.take (i + 1)) := by
  have e : l.take (i + 1) = l.take i ++ [l[i]] := by rw [List.take_add_one, List.getElem?_eq_getElem hi]; rfl
  have get : ∀ x ∈ l.take i, ∃ j, j < i ∧ l[j]? = some x := fun x hx => by
    obtain ⟨j, hj⟩ := List.mem_iff_getElem?.1 hx
    rw [List.getElem?_take] at hj
    split at hj
    · exact ⟨j, by assumption, hj⟩
    · cases hj
  refine ⟨fun x hx => ?_, ?_, ?_⟩
  · rw [e, List.mem_append] at hx
    rcases hx with hx | hx
    · exact h.ok x hx
    · cases List.mem_singleton.1 hx; exact ok
  · rw [e, List.pairwise_append]
    refine ⟨h.lt, List.pairwise_singleton _ _, fun a ha b hb => ?_⟩
    cases List.mem_singleton.1 hb
    obtain ⟨j, hj, hx⟩ := get a ha
    have hl := lt (by omega)
    rcases Nat.lt_or_ge j (i - 1) with h1 | h1
    · have h2 := (List.pairwise_iff_getElem.1 h.lt) j (i - 1) (by rw [List.length_take]; omega) (by rw [List.length_take]; omega) h1
      simp only [List.getElem_take] at h2
      rw [List.getElem?_eq_getElem (by omega)] at hx
      cases hx
      exact entSWO.tr _ _ _ h2 hl
    · obtain rfl : j = i - 1 := by omega
      rw [List.getElem?_eq_getElem (by omega)] at hx
      cases hx; exact hl
  · rw [e, List.pairwise_append]
    refine ⟨h.ne, List.pairwise_singleton _ _, fun a ha b hb => ?_⟩
    cases List.mem_singleton.1 hb
    obtain ⟨j, hj, hx⟩ := get a ha
    have := ne j a hj hx
    simpa using this
theorem QPre.at_ {l : List Entry} (h : QPre l) {i : Nat} (hi : i < l.length) : entOkF l[i] = true ∧ (0 < i → entLt (l[i - 1]'(by omega)) l[i] = true) ∧ ∀ (j : Nat) x, j < i → l[j]? = some x → (x.eid == l[i].eid) = false := by
  refine ⟨h.ok _ (List.getElem_mem hi), fun h0 => ?_, fun j x hj hx => ?_⟩
  · exact (List.pairwise_iff_getElem.1 h.lt) (i - 1) i (by omega) hi (by omega)
  · have := (List.pairwise_iff_getElem.1 h.ne) j i (by omega) hi hj
    rw [List.getElem?_eq_getElem (by omega)] at hx
    cases hx
    simpa using this
theorem qAt_self {l : List Entry} {i : Nat} (hi : i < l.length) : (qAt l l[i].eid = (i : Int)) ↔ ∀ (j : Nat) x, j < i → l[j]? = some x → (x.eid == l[i].eid) = false := by
  constructor
  · intro h j x hj hx
    rcases atOf_cases (fun e : Entry => e.eid == l[i].eid) l with ⟨h1, _⟩ | ⟨k, hk, h1, h2, h3⟩
    · have : qAt l l[i].eid = -1 := h1
      omega
    · have : qAt l l[i].eid = (k : Int) := h1
      exact h3 j x (by omega) hx
  · exact fun h => atOf_hit hi (by simp) h
theorem queueOk_no {l : List Entry} (h : ¬ QPre l) : queueOkB l = false := by simp [queueOkB, h]
theorem queueOk_long {l : List Entry} (h : 10 < l.length) : queueOkB l = false := by
  unfold queueOkB; rw [decide_eq_false (by omega : ¬ l.length ≤ 10)]; rfl
theorem queueOk_yes {l : List Entry} (h : l.length ≤ 10) (hq : QPre l) : queueOkB l = true := by simp [queueOkB, h, hq]
theorem specQueueOk_ok (a : List Entry) (b : Bool) (hb : b = queueOkB a) : Spec Try.prog 74 [lA .ent a] (Ret (bR fun _ => b)) := by
  refine spec_of tabOk Try.func74 rfl rfl (fr := true) (fun _ => by kernel_rfl) fun P hP hA => ?_
  obtain ⟨⟨ha, _⟩, _⟩ := hA
  have ha : a.length ≤ 9223372036854775807 := ha
  cbv
  refine Br.dec (fun h0 => ?_) (fun h0 => ?_) <;> (cbv; repeat (refine Pz.mk ?_; cbv))
  · have h0 : (a.length : Int) > 10 := h0
    refine ⟨?_, trivial⟩
    exact (hb.trans (queueOk_long (by omega))).symm
  have h0 : ¬ (a.length : Int) > 10 := h0
  refine LoopE.by (X := Nat) (fun i => [(0, lA .ent a), (3, nT fun _ => i)]) (fun _ => []) (fun i => i ≤ a.length ∧ QPre (a.take i)) (fun i _ => a.length - i) 0 ⟨Nat.zero_le _, by rw [List.take_zero]; exact QPre.nil⟩ ?_ ?_
  · cbv
    repeat' first | exact trivial | refine ⟨rfl, ?_⟩ | fail
  · intro i ⟨hi, hn⟩
    cbv
    refine Br.dec (fun h2 => ?_) (fun h2 => ?_) <;> (cbv; repeat (refine Pz.mk ?_; cbv))
    rotate_left
    · have h2 : a.length ≤ i := by simp at h2; omega
      refine ⟨?_, trivial⟩
      rw [List.take_of_length_le h2] at hn
      simp only [nc] at *
      exact (hb.trans (queueOk_yes (by omega) hn)).symm
    have h2 : i < a.length := by simpa using h2
    have no : ∀ {c : Prop}, (QPre a → c) → ¬ c → b = false := fun h1 h2 => hb.trans (queueOk_no fun h => h2 (h1 h))
    refine ⟨a[i], by simp, get_cast a h2, ?_⟩
    cbv
    repeat (refine Pz.mk ?_; cbv)
    refine CallA.by hP (l1InB_ok a[i].lvl 0 4) ?_
    cbv
    repeat (refine Pz.mk ?_; cbv)
    refine Br.split (fun k0 => ?_) (fun k0 => ?_) <;> (cbv; repeat (refine Pz.mk ?_; cbv))
    · refine ⟨?_, trivial⟩
      exact (no (fun h => (h.at_ h2).1) (by simp_all [entOkF])).symm
    refine CallA.by hP (l1InB_ok a[i].turn 1 1000000) ?_
    cbv
    repeat (refine Pz.mk ?_; cbv)
    refine Br.split (fun k1 => ?_) (fun k1 => ?_) <;> (cbv; repeat (refine Pz.mk ?_; cbv))
    · refine ⟨?_, trivial⟩
      exact (no (fun h => (h.at_ h2).1) (by simp_all [entOkF])).symm
    refine CallA.by hP (l1InB_ok a[i].eid 1 999) ?_
    cbv
    repeat (refine Pz.mk ?_; cbv)
    refine Br.split (fun k2 => ?_) (fun k2 => ?_) <;> (cbv; repeat (refine Pz.mk ?_; cbv))
    · refine ⟨?_, trivial⟩
      exact (no (fun h => (h.at_ h2).1) (by simp_all [entOkF])).symm
    refine CallA.by hP (l1InB_ok a[i].siz 1 6) ?_
    cbv
    repeat (refine Pz.mk ?_; cbv)
    refine Br.split (fun k3 => ?_) (fun k3 => ?_) <;> (cbv; repeat (refine Pz.mk ?_; cbv))
    · refine ⟨?_, trivial⟩
      exact (no (fun h => (h.at_ h2).1) (by simp_all [entOkF])).symm
    have ok : entOkF a[i] = true := by simp_all [entOkF]
    clear k0 k1 k2 k3
    refine Br.dec (fun k4 => ?_) (fun k4 => ?_) <;> (cbv; repeat (refine Pz.mk ?_; cbv))
    · have k4 : (i : Int) > 0 := k4
      have h3 : i - 1 < a.length := by omega
      have hc : ((i : Int) - 1).toNat = i - 1 := by omega
      refine Ar.exact (by (try simp only [nc] at *); omega) (by (try simp only [nc] at *); omega) ?_
      cbv
      repeat (refine Pz.mk ?_; cbv)
      refine ⟨a[i - 1], by (try simp only [nc] at *); omega, by simp only [nc]; rw [hc]; exact List.getElem?_eq_getElem h3, ?_⟩
      cbv
      refine CallA.by hP (specEntryLess_ok a[i - 1] a[i]) ?_
      cbv
      repeat (refine Pz.mk ?_; cbv)
      refine Br.split (fun k5 => ?_) (fun k5 => ?_) <;> (cbv; repeat (refine Pz.mk ?_; cbv))
      · refine ⟨?_, trivial⟩
        exact (no (fun h => (h.at_ h2).2.1 (by simp only [nc] at *; omega)) (by simpa using k5)).symm
      have k5 : entLt a[i - 1] a[i] = true := by simpa using k5
      refine CallA.by hP (specQueueAt_ok a a[i].eid (qAt a a[i].eid) rfl) ?_
      cbv
      repeat (refine Pz.mk ?_; cbv)
      refine Br.split (fun k6 => ?_) (fun k6 => ?_) <;> (cbv; repeat (refine Pz.mk ?_; cbv))
      · refine ⟨?_, trivial⟩
        have k6 : (qAt a a[i].eid != (i : Int)) = true := k6
        exact (no (fun h => (qAt_self h2).2 (h.at_ h2).2.2) (by simpa using k6)).symm
      have k6 : (qAt a a[i].eid != (i : Int)) = false := k6
      have k6 : qAt a a[i].eid = (i : Int) := by simpa using k6
      refine Ar.exact (by (try simp only [nc] at *); omega) (by (try simp only [nc] at *); omega) ?_
      cbv
      repeat (refine Pz.mk ?_; cbv)
      refine NextE.by (i + 1) ?_ ?_ ?_
      · show a.length - (i + 1) < a.length - i
        omega
      · exact ⟨h2, hn.snoc h2 ok (fun _ => k5) ((qAt_self h2).1 k6)⟩
      · cbv
        repeat' first | exact trivial | refine ⟨rfl, ?_⟩ | fail
    · have k4 : ¬ (i : Int) > 0 := k4
      refine CallA.by hP (specQueueAt_ok a a[i].eid (qAt a a[i].eid) rfl) ?_
      cbv
      repeat (refine Pz.mk ?_; cbv)
      refine Br.split (fun k6 => ?_) (fun k6 => ?_) <;> (cbv; repeat (refine Pz.mk ?_; cbv))
      · refine ⟨?_, trivial⟩
        have k6 : (qAt a a[i].eid != (i : Int)) = true := k6
        exact (no (fun h => (qAt_self h2).2 (h.at_ h2).2.2) (by simpa using k6)).symm
      have k6 : (qAt a a[i].eid != (i : Int)) = false := k6
      have k6 : qAt a a[i].eid = (i : Int) := by simpa using k6
      refine Ar.exact (by (try simp only [nc] at *); omega) (by (try simp only [nc] at *); omega) ?_
      cbv
      repeat (refine Pz.mk ?_; cbv)
      refine NextE.by (i + 1) ?_ ?_ ?_
      · show a.length - (i + 1) < a.length - i
        omega
      · exact ⟨h2, hn.snoc h2 ok (fun h => absurd h (by simp only [nc] at *; omega)) ((qAt_self h2).1 k6)⟩
      · cbv
        repeat' first | exact trivial | refine ⟨rfl, ?_⟩ | fail
end Go.Proofs.Ytlochjpjlhkjaaa
namespace Go.Proofs.Ytlochjpjlhkjaaa
open Go
set_option maxRecDepth 100000
theorem l7Copy_ok (a : List Entry) (hn : a.length ≤ bigN) : Spec Try.prog 73 [lA .ent a] (Ret (lR .ent fun _ => a)) := by
  refine spec_of tabOk Try.func73 rfl rfl (fr := true) (fun _ => by kernel_rfl) fun P hP hA => ?_
  have hn : a.length ≤ 1048576 := hn
  cbv
  refine ⟨by show (0 + a.length) * 32 ≤ 140737488355328; omega, ?_⟩
  cbv
  repeat' first | exact trivial | refine ⟨rfl, ?_⟩ | fail
theorem insL_found {α : Type} {lt : α → α → Bool} {l : List α} {e : α} {i : Nat} (hn : ∀ (j : Nat) y, j < i → l[j]? = some y → lt y e = true) (h : ∀ y, l[i]? = some y → lt y e = false) : l.take i ++ [e] ++ l.drop i = insL lt e l := by
  rw [insL_at hn h]; simp
theorem l7Put_ok (a : List Entry) (e : Entry) (hn : a.length ≤ bigN) : Spec Try.prog 65 [lA .ent a, eA .ent e] (Ret (lR .ent fun _ => insL entLt e a)) := by
  refine spec_of tabOk Try.func65 rfl rfl (fr := true) (fun _ => by kernel_rfl) fun P hP hA => ?_
  have hs : a.length ≤ 1048576 := hn
  cbv
  refine LoopE.by (X := Nat) (fun i => [(0, lA .ent a), (3, pN 0), (5, nT fun _ => i)]) (fun _ => [(0, .box ((cellsT .ent fun _ => e).map .lf))]) (fun i => i ≤ a.length ∧ ∀ (j : Nat) y, j < i → a[j]? = some y → entLt y e = true) (fun i _ => a.length - i) 0 ⟨Nat.zero_le _, fun j y hj => by omega⟩ ?_ ?_
  · cbv
    repeat' first | exact trivial | refine ⟨rfl, ?_⟩ | fail
  · intro i ⟨hi, hx⟩
    cbv
    refine Br.dec (fun h2 => ?_) (fun h2 => ?_) <;> (cbv; repeat (refine Pz.mk ?_; cbv))
    · have h2 : i < a.length := by simpa using h2
      refine ⟨a[i], by simp, get_cast a h2, ?_⟩
      cbv
      repeat (refine Pz.mk ?_; cbv)
      refine CallA.by hP (specEntryLess_ok a[i] e) ?_
      cbv
      repeat (refine Pz.mk ?_; cbv)
      refine Br.split (fun h3 => ?_) (fun h3 => ?_) <;> (cbv; repeat (refine Pz.mk ?_; cbv))
      · refine Ar.exact (by (try simp only [nc] at *); omega) (by (try simp only [nc] at *); omega) ?_
        cbv
        repeat (refine Pz.mk ?_; cbv)
        refine NextE.by (i + 1) ?_ ?_ ?_
        · show a.length - (i + 1) < a.length - i
          omega
        · exact ⟨h2, pre_step h2 hx h3⟩
        · cbv
          repeat' first | exact trivial | refine ⟨rfl, ?_⟩ | fail
      · have hf : ∀ y, a[i]? = some y → entLt y e = false := fun y hy => by
          rw [List.getElem?_eq_getElem h2] at hy; cases hy; exact h3
        have hi' : i ≤ a.length := hi
        refine ⟨⟨by simp, by simp only [nc] at *; omega, by simp only [nc] at *; omega⟩, ?_⟩
        cbv
        have tk : (a.take ((i : Int)).toNat).drop ((0 : Int)).toNat = a.take i := by simp
        have dp : (a.take (a.length : Int).toNat).drop ((i : Int)).toNat = a.drop i := by simp
        have o1 : (List.length ((a.take ((i : Int)).toNat).drop ((0 : Int)).toNat) + 1) * 32 ≤ 140737488355328 := by rw [tk, List.length_take]; omega
        have o2 : (List.length ((a.take ((i : Int)).toNat).drop ((0 : Int)).toNat ++ [e]) + List.length ((a.take (a.length : Int).toNat).drop ((i : Int)).toNat)) * 32 ≤ 140737488355328 := by rw [tk, dp, List.length_append, List.length_take, List.length_drop]; simp; omega
        have fin : (a.take ((i : Int)).toNat).drop ((0 : Int)).toNat ++ [e] ++ (a.take (a.length : Int).toNat).drop ((i : Int)).toNat = insL entLt e a := by rw [tk, dp]; exact insL_found hx hf
        have os : 0 ≤ (i : Int) ∧ (i : Int) ≤ (a.length : Int) ∧ (a.length : Int) ≤ (a.length : Int) := ⟨by omega, by omega, by omega⟩
        repeat' first
          | (refine CallA.by hP (l7Copy_ok ((a.take ((i : Int)).toNat).drop ((0 : Int)).toNat) (by rw [tk, List.length_take]; show _ ≤ 1048576; omega)) ?_; cbv)
          | (refine Ob.mk (by first | exact o1 | exact o2 | exact os) ?_; cbv)
          | refine And.intro ?_ ?_
          | exact ⟨fin, trivial⟩
          | fail
    · have h2 : a.length ≤ i := by simp at h2; omega
      have hi' : i ≤ a.length := hi
      have hf : ∀ y, a[i]? = some y → entLt y e = false := fun y hy => by
        rw [List.getElem?_eq_none h2] at hy; cases hy
      refine ⟨⟨by simp, by simp only [nc] at *; omega, by simp only [nc] at *; omega⟩, ?_⟩
      cbv
      have tk : (a.take ((i : Int)).toNat).drop ((0 : Int)).toNat = a.take i := by simp
      have dp : (a.take (a.length : Int).toNat).drop ((i : Int)).toNat = a.drop i := by simp
      have o1 : (List.length ((a.take ((i : Int)).toNat).drop ((0 : Int)).toNat) + 1) * 32 ≤ 140737488355328 := by rw [tk, List.length_take]; omega
      have o2 : (List.length ((a.take ((i : Int)).toNat).drop ((0 : Int)).toNat ++ [e]) + List.length ((a.take (a.length : Int).toNat).drop ((i : Int)).toNat)) * 32 ≤ 140737488355328 := by rw [tk, dp, List.length_append, List.length_take, List.length_drop]; simp; omega
      have fin : (a.take ((i : Int)).toNat).drop ((0 : Int)).toNat ++ [e] ++ (a.take (a.length : Int).toNat).drop ((i : Int)).toNat = insL entLt e a := by rw [tk, dp]; exact insL_found hx hf
      have os : 0 ≤ (i : Int) ∧ (i : Int) ≤ (a.length : Int) ∧ (a.length : Int) ≤ (a.length : Int) := ⟨by omega, by omega, by omega⟩
      repeat' first
        | (refine CallA.by hP (l7Copy_ok ((a.take ((i : Int)).toNat).drop ((0 : Int)).toNat) (by rw [tk, List.length_take]; show _ ≤ 1048576; omega)) ?_; cbv)
        | (refine Ob.mk (by first | exact o1 | exact o2 | exact os) ?_; cbv)
        | refine And.intro ?_ ?_
        | exact ⟨fin, trivial⟩
        | fail
theorem l9Put_ok (a : List Pin) (e : Pin) (hn : a.length ≤ bigN) : Spec Try.prog 61 [lA .pin a, eA .pin e] (Ret (lR .pin fun _ => insL pinLt e a)) := by
  refine spec_of tabOk Try.func61 rfl rfl (fr := true) (fun _ => by kernel_rfl) fun P hP hA => ?_
  have hs : a.length ≤ 1048576 := hn
  cbv
  refine LoopE.by (X := Nat) (fun i => [(0, lA .pin a), (3, pN 0), (5, nT fun _ => i)]) (fun _ => [(0, .box ((cellsT .pin fun _ => e).map .lf))]) (fun i => i ≤ a.length ∧ ∀ (j : Nat) y, j < i → a[j]? = some y → pinLt y e = true) (fun i _ => a.length - i) 0 ⟨Nat.zero_le _, fun j y hj => by omega⟩ ?_ ?_
  · cbv
    repeat' first | exact trivial | refine ⟨rfl, ?_⟩ | fail
  · intro i ⟨hi, hx⟩
    cbv
    refine Br.dec (fun h2 => ?_) (fun h2 => ?_) <;> (cbv; repeat (refine Pz.mk ?_; cbv))
    · have h2 : i < a.length := by simpa using h2
      refine ⟨a[i], by simp, get_cast a h2, ?_⟩
      cbv
      repeat (refine Pz.mk ?_; cbv)
      refine CallA.by hP (l9Less_ok a[i] e) ?_
      cbv
      repeat (refine Pz.mk ?_; cbv)
      refine Br.split (fun h3 => ?_) (fun h3 => ?_) <;> (cbv; repeat (refine Pz.mk ?_; cbv))
      · refine Ar.exact (by (try simp only [nc] at *); omega) (by (try simp only [nc] at *); omega) ?_
        cbv
        repeat (refine Pz.mk ?_; cbv)
        refine NextE.by (i + 1) ?_ ?_ ?_
        · show a.length - (i + 1) < a.length - i
          omega
        · exact ⟨h2, pre_step h2 hx h3⟩
        · cbv
          repeat' first | exact trivial | refine ⟨rfl, ?_⟩ | fail
      · have hf : ∀ y, a[i]? = some y → pinLt y e = false := fun y hy => by
          rw [List.getElem?_eq_getElem h2] at hy; cases hy; exact h3
        have hi' : i ≤ a.length := hi
        refine ⟨⟨by simp, by simp only [nc] at *; omega, by simp only [nc] at *; omega⟩, ?_⟩
        cbv
        have tk : (a.take ((i : Int)).toNat).drop ((0 : Int)).toNat = a.take i := by simp
        refine ⟨by show (0 + List.length ((a.take ((i : Int)).toNat).drop ((0 : Int)).toNat)) * 16 ≤ 140737488355328; rw [tk, List.length_take]; omega, ?_⟩
        cbv
        refine ⟨by show (List.length ([] ++ (a.take ((i : Int)).toNat).drop ((0 : Int)).toNat) + 1) * 16 ≤ 140737488355328; rw [tk, List.nil_append, List.length_take]; omega, ?_⟩
        cbv
        refine ⟨⟨by simp, by simp only [nc] at *; omega, by simp⟩, ?_⟩
        cbv
        have dp : (a.take (a.length : Int).toNat).drop ((i : Int)).toNat = a.drop i := by simp
        refine ⟨by show (List.length ([] ++ (a.take ((i : Int)).toNat).drop ((0 : Int)).toNat ++ [e]) + List.length ((a.take (a.length : Int).toNat).drop ((i : Int)).toNat)) * 16 ≤ 140737488355328; rw [tk, dp, List.nil_append, List.length_append, List.length_take, List.length_drop]; simp; omega, ?_⟩
        cbv
        refine ⟨?_, trivial⟩
        show [] ++ (a.take ((i : Int)).toNat).drop ((0 : Int)).toNat ++ [e] ++ (a.take (a.length : Int).toNat).drop ((i : Int)).toNat = insL pinLt e a
        rw [tk, dp, List.nil_append]
        exact insL_found hx hf
    · have h2 : a.length ≤ i := by simp at h2; omega
      have hi' : i ≤ a.length := hi
      have hf : ∀ y, a[i]? = some y → pinLt y e = false := fun y hy => by
        rw [List.getElem?_eq_none h2] at hy; cases hy
      refine ⟨⟨by simp, by simp only [nc] at *; omega, by simp only [nc] at *; omega⟩, ?_⟩
      cbv
      have tk : (a.take ((i : Int)).toNat).drop ((0 : Int)).toNat = a.take i := by simp
      refine ⟨by show (0 + List.length ((a.take ((i : Int)).toNat).drop ((0 : Int)).toNat)) * 16 ≤ 140737488355328; rw [tk, List.length_take]; omega, ?_⟩
      cbv
      refine ⟨by show (List.length ([] ++ (a.take ((i : Int)).toNat).drop ((0 : Int)).toNat) + 1) * 16 ≤ 140737488355328; rw [tk, List.nil_append, List.length_take]; omega, ?_⟩
      cbv
      refine ⟨⟨by simp, by simp only [nc] at *; omega, by simp⟩, ?_⟩
      cbv
      have dp : (a.take (a.length : Int).toNat).drop ((i : Int)).toNat = a.drop i := by simp
      refine ⟨by show (List.length ([] ++ (a.take ((i : Int)).toNat).drop ((0 : Int)).toNat ++ [e]) + List.length ((a.take (a.length : Int).toNat).drop ((i : Int)).toNat)) * 16 ≤ 140737488355328; rw [tk, dp, List.nil_append, List.length_append, List.length_take, List.length_drop]; simp; omega, ?_⟩
      cbv
      refine ⟨?_, trivial⟩
      show [] ++ (a.take ((i : Int)).toNat).drop ((0 : Int)).toNat ++ [e] ++ (a.take (a.length : Int).toNat).drop ((i : Int)).toNat = insL pinLt e a
      rw [tk, dp, List.nil_append]
      exact insL_found hx hf
end Go.Proofs.Ytlochjpjlhkjaaa

