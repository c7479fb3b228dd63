/- Parts of a proof. No conditions. -/

import Derived.Test.YtnenmkiabclncaaGreatG09
import Derived.Test.YtnenmkiabclncaaGreatG11
set_option linter.unusedSimpArgs false
set_option linter.unusedVariables false
namespace Go.Proofs.YtnenmkiabclncaaGreat
open Go
set_option maxRecDepth 100000
def cellsOfV : V → List C
  | .agg cs => cs
  | _ => []
def hoC (h : House) : List C := cellsOfV (hoA h)
def hasB (l : List Int) (x : Int) : Bool := l.any fun y => y == x
theorem hasB_yes {l : List Int} {x : Int} {i : Nat} (hi : i < l.length) (h : (l[i] == x) = true) : hasB l x = true := List.any_eq_true.2 ⟨_, List.getElem_mem hi, h⟩
theorem hasB_no {l : List Int} {x : Int} (h : ∀ (j : Nat) y, l[j]? = some y → (y == x) = false) : hasB l x = false := by
  rw [hasB, List.any_eq_false]
  intro y hy
  obtain ⟨j, hj⟩ := List.mem_iff_getElem?.1 hy
  rw [h j y hj]; simp
theorem l1Has_ok (a : List Int) (v : Int) (b : Bool) (hb : b = hasB a v) : Spec Tryz.prog 149 [lA .int a, iA v] (Ret (bR fun _ => b)) := by
  refine spec_of tabOk Tryz.func149 rfl rfl (fr := true) (fun _ => by kernel_rfl) fun P hP hA => ?_
  obtain ⟨⟨ha, _⟩, _⟩ := hA
  have ha : a.length ≤ 9223372036854775807 := ha
  cbv
  repeat (refine Pz.mk ?_; cbv)
  refine LoopE.by (X := Nat) (fun i => [(0, lA .int a), (1, iA v), (5, nT fun _ => i)]) (fun _ => []) (fun i => i ≤ a.length ∧ ∀ (j : Nat) y, j < i → a[j]? = some y → (y == v) = false) (fun i _ => a.length - i) 0 ⟨Nat.zero_le _, fun j y hj => by omega⟩ ?_ ?_
  · cbv
    repeat (refine Pz.mk ?_; cbv)
    repeat' first | exact trivial | refine ⟨rfl, ?_⟩ | fail
  · intro i ⟨hi, hn⟩
    cbv
    repeat (refine Pz.mk ?_; cbv)
    refine Br.dec (fun h2 => ?_) (fun h2 => ?_) <;> (cbv; repeat (refine Pz.mk ?_; cbv))
    · have h2 : i < a.length := by simpa using h2
      refine ⟨a[i], by simp, get_cast a h2, ?_⟩
      cbv
      repeat (refine Pz.mk ?_; cbv)
      refine Br.split (fun h3 => ?_) (fun h3 => ?_) <;> (cbv; repeat (refine Pz.mk ?_; cbv))
      · refine ⟨?_, trivial⟩
        exact (hb.trans (hasB_yes h2 h3)).symm
      · refine Ar.exact (by (try simp only [nc] at *); omega) (by (try simp only [nc] at *); omega) ?_
        cbv
        repeat (refine Pz.mk ?_; cbv)
        refine NextE.by (i + 1) ?_ ?_ ?_
        · show a.length - (i + 1) < a.length - i
          omega
        · exact ⟨h2, pre_step h2 hn h3⟩
        · cbv
          repeat (refine Pz.mk ?_; cbv)
          repeat' first | exact trivial | refine ⟨rfl, ?_⟩ | fail
    · have h2 : a.length ≤ i := by simp at h2; omega
      refine ⟨?_, trivial⟩
      exact (hb.trans (hasB_no (pre_all h2 hn))).symm
theorem atOf_has (l : List Int) (v : Int) : decide (atOf (fun y => y == v) l ≥ 0) = hasB l v := by
  rcases atOf_cases (fun y : Int => y == v) l with ⟨h, h1⟩ | ⟨i, hi, h, h1, _⟩
  · rw [h, hasB_no fun j y hy => h1 y (List.mem_of_getElem? hy)]; rfl
  · rw [h, hasB_yes hi h1]; exact decide_eq_true (by omega)
theorem indexInt_ok (a : List Int) (v : Int) (x : Int) (hx : x = atOf (fun y => y == v) a) : Spec Tryz.prog 216 [lA .int a, iA v] (Ret (iR fun _ => x)) := by
  refine spec_of tabOk Tryz.func216 rfl rfl (fr := true) (fun _ => by kernel_rfl) fun P hP hA => ?_
  obtain ⟨⟨ha, _⟩, _⟩ := hA
  have ha : a.length ≤ 9223372036854775807 := ha
  cbv
  repeat (refine Pz.mk ?_; cbv)
  refine LoopE.by (X := Nat) (fun i => [(0, lA .int a), (1, iA v), (7, nT fun _ => a.length), (8, nT fun _ => i)]) (fun _ => []) (fun i => i ≤ a.length ∧ ∀ (j : Nat) y, j < i → a[j]? = some y → (y == v) = false) (fun i _ => a.length - i) 0 ⟨Nat.zero_le _, fun j y hj => by omega⟩ ?_ ?_
  · cbv
    repeat (refine Pz.mk ?_; cbv)
    repeat' first | exact trivial | refine ⟨rfl, ?_⟩ | fail
  · intro i ⟨hi, hn⟩
    cbv
    repeat (refine Pz.mk ?_; cbv)
    refine Br.dec (fun h2 => ?_) (fun h2 => ?_) <;> (cbv; repeat (refine Pz.mk ?_; cbv))
    · have h2 : i < a.length := by simpa using h2
      refine ⟨a[i], by simp, get_cast a h2, ?_⟩
      cbv
      repeat (refine Pz.mk ?_; cbv)
      refine Br.split (fun h3 => ?_) (fun h3 => ?_) <;> (cbv; repeat (refine Pz.mk ?_; cbv))
      · refine ⟨?_, trivial⟩
        have h3 : (v == a[i]) = true := h3
        exact (hx.trans (atOf_hit (p := fun y => y == v) h2 (by rw [beq_iff_eq] at h3 ⊢; exact h3.symm) hn)).symm
      · have h3 : (v == a[i]) = false := h3
        refine Ar.exact (by (try simp only [nc] at *); omega) (by (try simp only [nc] at *); omega) ?_
        cbv
        repeat (refine Pz.mk ?_; cbv)
        refine NextE.by (i + 1) ?_ ?_ ?_
        · show a.length - (i + 1) < a.length - i
          omega
        · exact ⟨h2, pre_step h2 hn (by rw [beq_eq_false_iff_ne] at h3 ⊢; exact fun h => h3 h.symm)⟩
        · cbv
          repeat (refine Pz.mk ?_; cbv)
          repeat' first | exact trivial | refine ⟨rfl, ?_⟩ | fail
    · have h2 : a.length ≤ i := by simp at h2; omega
      refine ⟨?_, trivial⟩
      exact (hx.trans (atOf_miss (pre_all h2 hn))).symm
theorem contains_ok (a : List Int) (v : Int) (b : Bool) (hb : b = hasB a v) : Spec Tryz.prog 134 [lA .int a, iA v] (Ret (bR fun _ => b)) := by
  refine spec_of tabOk Tryz.func134 rfl rfl (fr := true) (fun _ => by kernel_rfl) fun P hP hA => ?_
  cbv
  repeat (refine Pz.mk ?_; cbv)
  refine CallA.by hP (indexInt_ok a v (atOf (fun y => y == v) a) rfl) ?_
  cbv
  repeat (refine Pz.mk ?_; cbv)
  refine ⟨?_, trivial⟩
  exact (atOf_has a v).trans hb.symm
def fairB (q p : Party) : Bool := !(q.turn == p.turn || (decide (q.turn < p.turn) && decide (q.since > p.since)) || (decide (q.turn > p.turn) && decide (q.since < p.since)))
structure PtyG (R : Rules) (now turn : Int) (l : List Party) : Prop where
  ok : ∀ p ∈ l, partyOkB R p now = true ∧ p.turn < turn
  srt : l.Pairwise fun a b => a.id < b.id
  fair : l.Pairwise fun a b => fairB a b = true
instance (R : Rules) (now turn : Int) (l : List Party) : Decidable (PtyG R now turn l) :=
  decidable_of_iff ((∀ p ∈ l, partyOkB R p now = true ∧ p.turn < turn) ∧ (l.Pairwise fun a b => a.id < b.id) ∧ l.Pairwise fun a b => fairB a b = true) ⟨fun ⟨a, b, c⟩ => ⟨a, b, c⟩, fun ⟨a, b, c⟩ => ⟨a, b, c⟩⟩
theorem PtyG.nil (R : Rules) (now turn : Int) : PtyG R now turn [] := ⟨fun p hp => (by cases hp), List.Pairwise.nil, List.Pairwise.nil⟩
theorem PtyG.snoc {R : Rules} {now turn : Int} {l : List Party} {i : Nat} (hi : i < l.length) (h : PtyG R now turn (l.take i)) (ok : partyOkB R l[i] now = true) (ht : l[i].turn < turn) (lt : 0 < i → (l[i - 1]'(by omega)).id < l[i].id)
    (fr : ∀ (j : Nat) x, j < i → l[j]? = some x → fairB x l[i] = true) : PtyG R now turn (l.take (i + 1)) := by
  have e : l.take (i + 1) = l.take i ++ [l[i]] := by rw [List.take_add_one, List.getElem?_eq_getElem hi]; rfl
  have get : ∀ x ∈ l.take i, ∃ j, j < i ∧ l[j]? = some x := fun x hx => by
    obtain ⟨j, hj⟩ := List.mem_iff_getElem?.1 hx
    rw [List.getElem?_take] at hj
    split at hj
    · exact ⟨j, by assumption, hj⟩
    · cases hj
  refine ⟨fun x hx => ?_, ?_, ?_⟩
  · rw [e, List.mem_append] at hx
    rcases hx with hx | hx
    · exact h.ok x hx
    · cases List.mem_singleton.1 hx; exact ⟨ok, ht⟩
  · rw [e, List.pairwise_append]
    refine ⟨h.srt, List.pairwise_singleton _ _, fun a ha b hb => ?_⟩
    cases List.mem_singleton.1 hb
    obtain ⟨j, hj, hx⟩ := get a ha
    have hl := lt (by omega)
    rcases Nat.lt_or_ge j (i - 1) with h1 | h1
    · have h2 := (List.pairwise_iff_getElem.1 h.srt) j (i - 1) (by rw [List.length_take]; omega) (by rw [List.length_take]; omega) h1
      simp only [List.getElem_take] at h2
      rw [List.getElem?_eq_getElem (by omega)] at hx
      cases hx
      omega
    · obtain rfl : j = i - 1 := by omega
      rw [List.getElem?_eq_getElem (by omega)] at hx
      cases hx; exact hl
  · rw [e, List.pairwise_append]
    refine ⟨h.fair, List.pairwise_singleton _ _, fun a ha b hb => ?_⟩
    cases List.mem_singleton.1 hb
    obtain ⟨j, hj, hx⟩ := get a ha
    exact fr j a hj hx
theorem PtyG.at_ {R : Rules} {now turn : Int} {l : List Party} (h : PtyG R now turn l) {i : Nat} (hi : i < l.length) : partyOkB R l[i] now = true ∧ l[i].turn < turn ∧ (0 < i → (l[i - 1]'(by omega)).id < l[i].id) ∧ ∀ (j : Nat) x, j < i → l[j]? = some x → fairB x l[i] = true := by
  refine ⟨(h.ok _ (List.getElem_mem hi)).1, (h.ok _ (List.getElem_mem hi)).2, fun h0 => ?_, fun j x hj hx => ?_⟩
  · exact (List.pairwise_iff_getElem.1 h.srt) (i - 1) i (by omega) hi (by omega)
  · have := (List.pairwise_iff_getElem.1 h.fair) j i (by omega) hi hj
    rw [List.getElem?_eq_getElem (by omega)] at hx
    cases hx; exact this
def partiesOkB (h : House) : Bool := decide (PtyG h.rules h.now h.turn h.parties)
set_option maxHeartbeats 1000000 in
theorem l11Parties_ok (h : House) (hs : h.rules.seats.length ≤ bigN) (b : Bool) (hb : b = partiesOkB h) : Spec Tryz.prog 124 [hoA h] (Ret (bR fun _ => b)) := by
  refine spec_of tabOk Tryz.func124 rfl rfl (fr := true) (fun _ => by kernel_rfl) fun P hP hA => ?_
  have hl : h.parties.length ≤ 9223372036854775807 := by
    obtain ⟨⟨_, _, _, _, _, _, _, _, _, _, _, ⟨h1, _⟩, _⟩, _⟩ := hA
    exact h1
  have no : ¬ PtyG h.rules h.now h.turn h.parties → b = false := fun hn => hb.trans (decide_eq_false hn)
  cbv
  repeat (refine Pz.mk ?_; cbv)
  refine LoopE.by (X := Nat) (fun i => [(1, pN 0), (3, nT fun _ => i)]) (fun _ => [(0, .box (hoC h))]) (fun i => i ≤ h.parties.length ∧ PtyG h.rules h.now h.turn (h.parties.take i)) (fun i _ => h.parties.length - i) 0 ⟨Nat.zero_le _, by rw [List.take_zero]; exact PtyG.nil _ _ _⟩ ?_ ?_
  · cbv
    repeat (refine Pz.mk ?_; cbv)
    repeat' first | exact trivial | refine ⟨rfl, ?_⟩ | fail
  · intro i ⟨hi, hn⟩
    cbv
    repeat (refine Pz.mk ?_; cbv)
    refine Br.dec (fun h2 => ?_) (fun h2 => ?_) <;> (cbv; repeat (refine Pz.mk ?_; cbv))
    rotate_left
    · have h2 : h.parties.length ≤ i := by simp at h2; omega
      refine ⟨?_, trivial⟩
      rw [List.take_of_length_le h2] at hn
      exact (hb.trans (decide_eq_true hn)).symm
    have h2 : i < h.parties.length := by simpa using h2
    refine ⟨h.parties[i], by simp, get_cast h.parties h2, ?_⟩
    cbv
    repeat (refine Pz.mk ?_; cbv)
    refine CallA.by hP (specPartyOk_ok h.rules h.parties[i] h.now hs (partyOkB h.rules h.parties[i] h.now) rfl) ?_
    cbv
    repeat (refine Pz.mk ?_; cbv)
    refine Br.split (fun k0 => ?_) (fun k0 => ?_) <;> (cbv; repeat (refine Pz.mk ?_; cbv))
    · refine ⟨?_, trivial⟩
      have k0 : (!partyOkB h.rules h.parties[i] h.now) = true := k0
      exact (no (fun hg => by have := (hg.at_ h2).1; rw [this] at k0; cases k0)).symm
    have k0 : (!partyOkB h.rules h.parties[i] h.now) = false := k0
    have k0 : partyOkB h.rules h.parties[i] h.now = true := by simpa using k0
    refine Br.dec (fun k1 => ?_) (fun k1 => ?_) <;> (cbv; repeat (refine Pz.mk ?_; cbv))
    · refine ⟨?_, trivial⟩
      have k1 : h.turn ≤ h.parties[i].turn := k1
      exact (no (fun hg => by have := (hg.at_ h2).2.1; omega)).symm
    have k1 : ¬ h.turn ≤ h.parties[i].turn := k1
    refine Br.dec (fun k2 => ?_) (fun k2 => ?_) <;> (cbv; repeat (refine Pz.mk ?_; cbv))
    · have k2 : 0 < i := by simpa using k2
      have h4 : i - 1 < h.parties.length := by omega
      have oj : 0 ≤ (i : Int) - 1 := by omega
      have gj : h.parties[((i : Int) - 1).toNat]? = some h.parties[i - 1] := by rw [show ((i : Int) - 1).toNat = i - 1 by omega]; exact List.getElem?_eq_getElem h4
      refine Ar.exact (by (try simp only [nc] at *); omega) (by (try simp only [nc] at *); omega) ?_
      cbv
      repeat (refine Pz.mk ?_; cbv)
      refine ⟨h.parties[i - 1], oj, gj, ?_⟩
      cbv
      repeat (refine Pz.mk ?_; cbv)
      repeat (refine Pz.mk ?_; cbv)
      refine Br.dec (fun k3 => ?_) (fun k3 => ?_) <;> (cbv; repeat (refine Pz.mk ?_; cbv))
      · refine ⟨?_, trivial⟩
        have k3 : h.parties[i].id ≤ h.parties[i - 1].id := k3
        exact (no (fun hg => by have := (hg.at_ h2).2.2.1 k2; omega)).symm
      have k3 : ¬ h.parties[i].id ≤ h.parties[i - 1].id := k3
      have k3 : 0 < i → (h.parties[i - 1]'(by omega)).id < h.parties[i].id := fun _ => by omega
      refine LoopE.by (X := Nat) (fun j => [(1, pN 0), (3, nT fun _ => i), (4, pN 1), (5, nT fun _ => j)]) (fun _ => [(0, .box (hoC h)), (1, .box ((cellsT .pty fun _ => h.parties[i]).map .lf))]) (fun j => j ≤ i ∧ ∀ (m : Nat) x, m < j → h.parties[m]? = some x → fairB x h.parties[i] = true) (fun j _ => i - j) 0 ⟨Nat.zero_le _, fun m x hm => by omega⟩ ?_ ?_
      · cbv
        repeat (refine Pz.mk ?_; cbv)
        repeat' first | exact trivial | refine ⟨rfl, ?_⟩ | fail
      · intro j ⟨hj, hf⟩
        cbv
        repeat (refine Pz.mk ?_; cbv)
        refine Br.dec (fun h5 => ?_) (fun h5 => ?_) <;> (cbv; repeat (refine Pz.mk ?_; cbv))
        rotate_left
        · have h5 : i ≤ j := by simp at h5; omega
          refine Ar.exact (by (try simp only [nc] at *); omega) (by (try simp only [nc] at *); omega) ?_
          cbv
          repeat (refine Pz.mk ?_; cbv)
          refine NextE.by (i + 1) ?_ ?_ ?_
          · show h.parties.length - (i + 1) < h.parties.length - i
            omega
          · exact ⟨h2, hn.snoc h2 k0 (by omega) k3 fun m x hm => hf m x (by omega)⟩
          · cbv
            repeat (refine Pz.mk ?_; cbv)
            repeat' first | exact trivial | refine ⟨rfl, ?_⟩ | fail
        have h5 : j < i := by simpa using h5
        have h6 : j < h.parties.length := by omega
        have bad : fairB h.parties[j] h.parties[i] = false → b = false := fun hx => no fun hg => by
          have := (hg.at_ h2).2.2.2 j _ h5 (List.getElem?_eq_getElem h6)
          rw [hx] at this; cases this
        refine ⟨h.parties[j], by simp, get_cast h.parties h6, ?_⟩
        cbv
        repeat (refine Pz.mk ?_; cbv)
        repeat' first
          | (refine Br.split (fun h => ?_) (fun h => ?_) <;> cbv)
          | fail
        all_goals first
          | (refine ⟨?_, trivial⟩
             exact (bad (by simp_all [fairB])).symm)
          | (refine Ar.exact (by (try simp only [nc] at *); omega) (by (try simp only [nc] at *); omega) ?_
             cbv
             repeat (refine Pz.mk ?_; cbv)
             refine NextE.by (j + 1) ?_ ?_ ?_
             · show i - (j + 1) < i - j
               omega
             · exact ⟨h5, pre_step h6 hf (by simp_all [fairB])⟩
             · cbv
               repeat (refine Pz.mk ?_; cbv)
               repeat' first | exact trivial | refine ⟨rfl, ?_⟩ | fail)
    · have k2 : ¬ 0 < i := by simpa using k2
      have k3 : 0 < i → (h.parties[i - 1]'(by omega)).id < h.parties[i].id := fun h0 => absurd h0 k2
      refine LoopE.by (X := Nat) (fun j => [(1, pN 0), (3, nT fun _ => i), (4, pN 1), (5, nT fun _ => j)]) (fun _ => [(0, .box (hoC h)), (1, .box ((cellsT .pty fun _ => h.parties[i]).map .lf))]) (fun j => j ≤ i ∧ ∀ (m : Nat) x, m < j → h.parties[m]? = some x → fairB x h.parties[i] = true) (fun j _ => i - j) 0 ⟨Nat.zero_le _, fun m x hm => by omega⟩ ?_ ?_
      · cbv
        repeat (refine Pz.mk ?_; cbv)
        repeat' first | exact trivial | refine ⟨rfl, ?_⟩ | fail
      · intro j ⟨hj, hf⟩
        cbv
        repeat (refine Pz.mk ?_; cbv)
        refine Br.dec (fun h5 => ?_) (fun h5 => ?_) <;> (cbv; repeat (refine Pz.mk ?_; cbv))
        rotate_left
        · have h5 : i ≤ j := by simp at h5; omega
          refine Ar.exact (by (try simp only [nc] at *); omega) (by (try simp only [nc] at *); omega) ?_
          cbv
          repeat (refine Pz.mk ?_; cbv)
          refine NextE.by (i + 1) ?_ ?_ ?_
          · show h.parties.length - (i + 1) < h.parties.length - i
            omega
          · exact ⟨h2, hn.snoc h2 k0 (by omega) k3 fun m x hm => hf m x (by omega)⟩
          · cbv
            repeat (refine Pz.mk ?_; cbv)
            repeat' first | exact trivial | refine ⟨rfl, ?_⟩ | fail
        have h5 : j < i := by simpa using h5
        have h6 : j < h.parties.length := by omega
        have bad : fairB h.parties[j] h.parties[i] = false → b = false := fun hx => no fun hg => by
          have := (hg.at_ h2).2.2.2 j _ h5 (List.getElem?_eq_getElem h6)
          rw [hx] at this; cases this
        refine ⟨h.parties[j], by simp, get_cast h.parties h6, ?_⟩
        cbv
        repeat (refine Pz.mk ?_; cbv)
        repeat' first
          | (refine Br.split (fun h => ?_) (fun h => ?_) <;> cbv)
          | fail
        all_goals first
          | (refine ⟨?_, trivial⟩
             exact (bad (by simp_all [fairB])).symm)
          | (refine Ar.exact (by (try simp only [nc] at *); omega) (by (try simp only [nc] at *); omega) ?_
             cbv
             repeat (refine Pz.mk ?_; cbv)
             refine NextE.by (j + 1) ?_ ?_ ?_
             · show i - (j + 1) < i - j
               omega
             · exact ⟨h5, pre_step h6 hf (by simp_all [fairB])⟩
             · cbv
               repeat (refine Pz.mk ?_; cbv)
               repeat' first | exact trivial | refine ⟨rfl, ?_⟩ | fail)
structure JobG (n : Int) (tds jbs : List Int) : Prop where
  todo : ∀ x ∈ tds, isIn x 0 (n - 1) = true
  once : tds.Pairwise fun a b => a ≠ b
  jobs : ∀ x ∈ jbs, isIn x (-1) (n - 1) = true
instance (n : Int) (todo jobs : List Int) : Decidable (JobG n todo jobs) :=
  decidable_of_iff ((∀ x ∈ todo, isIn x 0 (n - 1) = true) ∧ (todo.Pairwise fun a b => a ≠ b) ∧ ∀ x ∈ jobs, isIn x (-1) (n - 1) = true) ⟨fun ⟨a, b, c⟩ => ⟨a, b, c⟩, fun ⟨a, b, c⟩ => ⟨a, b, c⟩⟩
def jobsOkB (h : House) : Bool := decide (JobG h.cabins.length h.todo h.jobs) && ((h.jobs.length : Int) == h.rules.crew)
structure TPre (n : Int) (l : List Int) : Prop where
  ok : ∀ x ∈ l, isIn x 0 (n - 1) = true
  ne : l.Pairwise fun a b => a ≠ b
theorem TPre.snoc {n : Int} {l : List Int} {i : Nat} (hi : i < l.length) (h : TPre n (l.take i)) (ok : isIn l[i] 0 (n - 1) = true) (ne : hasB (l.take i) l[i] = false) : TPre n (l.take (i + 1)) := by
  have e : l.take (i + 1) = l.take i ++ [l[i]] := by rw [List.take_add_one, List.getElem?_eq_getElem hi]; rfl
  constructor
  · intro x hx
    rw [e, List.mem_append] at hx
    rcases hx with hx | hx
    · exact h.ok x hx
    · cases List.mem_singleton.1 hx; exact ok
  · rw [e, List.pairwise_append]
    refine ⟨h.ne, List.pairwise_singleton _ _, fun a ha b hb => ?_⟩
    cases List.mem_singleton.1 hb
    have := List.any_eq_false.1 ne a ha
    simpa using this
theorem has_take {l : List Int} {i : Nat} (hi : i < l.length) (h : l.Pairwise fun a b => a ≠ b) : hasB (l.take i) l[i] = false := by
  refine hasB_no fun j y hy => ?_
  rw [List.getElem?_take] at hy
  split at hy
  · have := (List.pairwise_iff_getElem.1 h) j i (by omega) hi (by assumption)
    rw [List.getElem?_eq_getElem (by omega)] at hy
    cases hy
    simpa using this
  · cases hy
set_option maxHeartbeats 1000000 in
theorem l11Jobs_ok (h : House) (hc : h.cabins.length ≤ bigN) (b : Bool) (hb : b = jobsOkB h) : Spec Tryz.prog 125 [hoA h] (Ret (bR fun _ => b)) := by
  refine spec_of tabOk Tryz.func125 rfl rfl (fr := true) (fun _ => by kernel_rfl) fun P hP hA => ?_
  have hc' : h.cabins.length ≤ 1048576 := hc
  obtain ⟨⟨_, _, _, _, _, _, _, _, _, _, _, _, _, ⟨ht, _⟩, ⟨hj, _⟩, _⟩, _⟩ := hA
  have ht : h.todo.length ≤ 9223372036854775807 := ht
  have hj : h.jobs.length ≤ 9223372036854775807 := hj
  have no : ¬ JobG h.cabins.length h.todo h.jobs → b = false := fun hn => hb.trans (by rw [jobsOkB, decide_eq_false hn, Bool.false_and])
  have lo : -9223372036854775808 ≤ (h.cabins.length : Int) - 1 := by omega
  have hi : (h.cabins.length : Int) - 1 ≤ 9223372036854775807 := by omega
  cbv
  repeat (refine Pz.mk ?_; cbv)
  refine LoopE.by (X := Nat) (fun i => [(1, pN 0), (3, nT fun _ => i)]) (fun _ => [(0, .box (hoC h))]) (fun i => i ≤ h.todo.length ∧ TPre h.cabins.length (h.todo.take i)) (fun i _ => h.todo.length - i) 0 ⟨Nat.zero_le _, by rw [List.take_zero]; exact ⟨fun x hx => (by cases hx), List.Pairwise.nil⟩⟩ ?_ ?_
  · cbv
    repeat (refine Pz.mk ?_; cbv)
    repeat' first | exact trivial | refine ⟨rfl, ?_⟩ | fail
  · intro i ⟨hil, hn⟩
    cbv
    repeat (refine Pz.mk ?_; cbv)
    refine Br.dec (fun h2 => ?_) (fun h2 => ?_) <;> (cbv; repeat (refine Pz.mk ?_; cbv))
    · have h2 : i < h.todo.length := by simpa using h2
      refine ⟨h.todo[i], by simp, get_cast h.todo h2, ?_⟩
      cbv
      repeat (refine Pz.mk ?_; cbv)
      refine Ar.exact lo hi ?_
      cbv
      repeat (refine Pz.mk ?_; cbv)
      refine CallA.by hP (l1InB_ok h.todo[i] 0 ((h.cabins.length : Int) - 1)) ?_
      cbv
      repeat (refine Pz.mk ?_; cbv)
      refine Br.split (fun k0 => ?_) (fun k0 => ?_) <;> (cbv; repeat (refine Pz.mk ?_; cbv))
      · refine ⟨?_, trivial⟩
        have k0 : (!isIn h.todo[i] 0 ((h.cabins.length : Int) - 1)) = true := k0
        exact (no (fun hg => by have := hg.todo _ (List.getElem_mem h2); rw [this] at k0; cases k0)).symm
      have k0 : (!isIn h.todo[i] 0 ((h.cabins.length : Int) - 1)) = false := k0
      have k0 : isIn h.todo[i] 0 ((h.cabins.length : Int) - 1) = true := by simpa using k0
      have tk : (h.todo.take ((i : Int)).toNat).drop ((0 : Int)).toNat = h.todo.take i := by simp
      have os : 0 ≤ (0 : Int) ∧ (0 : Int) ≤ (i : Int) ∧ (i : Int) ≤ (h.todo.length : Int) := ⟨by omega, by omega, by omega⟩
      repeat' first
        | (refine Ob.mk os ?_; cbv)
        | (refine Ix.mk h.todo[i] (by simp) (get_cast h.todo h2) ?_; cbv)
        | refine And.intro ?_ ?_
        | fail
      all_goals
        refine CallA.by hP (l1Has_ok ((h.todo.take ((i : Int)).toNat).drop ((0 : Int)).toNat) h.todo[i] (hasB (h.todo.take i) h.todo[i]) (by rw [tk])) ?_
        cbv
        repeat (refine Pz.mk ?_; cbv)
        refine Br.split (fun k1 => ?_) (fun k1 => ?_) <;> (cbv; repeat (refine Pz.mk ?_; cbv))
        · refine ⟨?_, trivial⟩
          exact (no (fun hg => by have := has_take h2 hg.once; rw [this] at k1; cases k1)).symm
        refine Ar.exact (by (try simp only [nc] at *); omega) (by (try simp only [nc] at *); omega) ?_
        cbv
        repeat (refine Pz.mk ?_; cbv)
        refine NextE.by (i + 1) ?_ ?_ ?_
        · show h.todo.length - (i + 1) < h.todo.length - i
          omega
        · exact ⟨h2, hn.snoc h2 k0 k1⟩
        · cbv
          repeat (refine Pz.mk ?_; cbv)
          repeat' first | exact trivial | refine ⟨rfl, ?_⟩ | fail
    · have h2 : h.todo.length ≤ i := by simp at h2; omega
      rw [List.take_of_length_le h2] at hn
      refine LoopE.by (X := Nat) (fun j => [(1, pN 0), (4, nT fun _ => j)]) (fun _ => [(0, .box (hoC h))]) (fun j => j ≤ h.jobs.length ∧ ∀ (m : Nat) x, m < j → h.jobs[m]? = some x → isIn x (-1) ((h.cabins.length : Int) - 1) = true) (fun j _ => h.jobs.length - j) 0 ⟨Nat.zero_le _, fun m x hm => by omega⟩ ?_ ?_
      · cbv
        repeat (refine Pz.mk ?_; cbv)
        repeat' first | exact trivial | refine ⟨rfl, ?_⟩ | fail
      · intro j ⟨hjl, hq⟩
        cbv
        repeat (refine Pz.mk ?_; cbv)
        refine Br.dec (fun h3 => ?_) (fun h3 => ?_) <;> (cbv; repeat (refine Pz.mk ?_; cbv))
        · have h3 : j < h.jobs.length := by simpa using h3
          refine ⟨h.jobs[j], by simp, get_cast h.jobs h3, ?_⟩
          cbv
          repeat (refine Pz.mk ?_; cbv)
          refine Ar.exact lo hi ?_
          cbv
          repeat (refine Pz.mk ?_; cbv)
          refine CallA.by hP (l1InB_ok h.jobs[j] (-1) ((h.cabins.length : Int) - 1)) ?_
          cbv
          repeat (refine Pz.mk ?_; cbv)
          refine Br.split (fun k0 => ?_) (fun k0 => ?_) <;> (cbv; repeat (refine Pz.mk ?_; cbv))
          · refine ⟨?_, trivial⟩
            have k0 : (!isIn h.jobs[j] (-1) ((h.cabins.length : Int) - 1)) = true := k0
            exact (no (fun hg => by have := hg.jobs _ (List.getElem_mem h3); rw [this] at k0; cases k0)).symm
          have k0 : (!isIn h.jobs[j] (-1) ((h.cabins.length : Int) - 1)) = false := k0
          have k0 : isIn h.jobs[j] (-1) ((h.cabins.length : Int) - 1) = true := by simpa using k0
          refine Ar.exact (by (try simp only [nc] at *); omega) (by (try simp only [nc] at *); omega) ?_
          cbv
          repeat (refine Pz.mk ?_; cbv)
          refine NextE.by (j + 1) ?_ ?_ ?_
          · show h.jobs.length - (j + 1) < h.jobs.length - j
            omega
          · exact ⟨h3, pre_step h3 hq k0⟩
          · cbv
            repeat (refine Pz.mk ?_; cbv)
            repeat' first | exact trivial | refine ⟨rfl, ?_⟩ | fail
        · have h3 : h.jobs.length ≤ j := by simp at h3; omega
          have hg : JobG h.cabins.length h.todo h.jobs := ⟨hn.ok, hn.ne, fun x hx => by
            obtain ⟨m, hm⟩ := List.mem_iff_getElem?.1 hx
            exact pre_all h3 hq m x hm⟩
          refine ⟨?_, trivial⟩
          show ((h.jobs.length : Int) == h.rules.crew) = b
          rw [hb, jobsOkB, decide_eq_true hg, Bool.true_and]
end Go.Proofs.YtnenmkiabclncaaGreat
namespace Go.Proofs.YtnenmkiabclncaaGreat
open Go
set_option maxRecDepth 100000
def ixAll {α : Type} (f : Nat → α → Bool) : Nat → List α → Bool
  | _, [] => true
  | k, a :: l => f k a && ixAll f (k + 1) l
theorem ixAll_iff {α : Type} {f : Nat → α → Bool} : ∀ {l : List α} {k : Nat}, ixAll f k l = true ↔ ∀ (j : Nat) a, l[j]? = some a → f (k + j) a = true
  | [], k => by simp [ixAll]
  | b :: l, k => by
    have ih := ixAll_iff (f := f) (l := l) (k := k + 1)
    simp only [ixAll, Bool.and_eq_true, ih]
    constructor
    · intro ⟨h1, h2⟩ j a hj
      cases j with
      | zero => simp at hj; subst hj; exact h1
      | succ j => have := h2 j a (by simpa using hj); rwa [show k + 1 + j = k + (j + 1) by omega] at this
    · intro h
      refine ⟨h 0 b rfl, fun j a hj => ?_⟩
      have := h (j + 1) a (by simpa using hj)
      rwa [show k + (j + 1) = k + 1 + j by omega] at this
def cabAtB (h : House) (k : Nat) (c : Cabin) : Bool :=
  (c.seats.total == h.rules.seats.getD k 0) && (decide (((zAll (cntIn (k : Int)) h.parties : Nat) : Int) ≤ h.rules.room) && agreesB h.rules c h.parties (k : Int) h.now)
def cabsOkB (h : House) : Bool := ixAll (cabAtB h) 0 h.cabins
def houseOkB (h : House) : Bool :=
  rulesOkB h.rules && (isIn h.now 0 1000000 && (isIn h.turn 1 1000001 && (decide (h.parties.length ≤ 40) && (decide (h.cabins.length = h.rules.seats.length) && (partiesOkB h && (jobsOkB h && cabsOkB h))))))
structure HG (h : House) : Prop where
  rules : rulesOkB h.rules = true
  now : isIn h.now 0 1000000 = true
  turn : isIn h.turn 1 1000001 = true
  few : h.parties.length ≤ 40
  cabs : h.cabins.length = h.rules.seats.length
  parties : PtyG h.rules h.now h.turn h.parties
  jobs : JobG h.cabins.length h.todo h.jobs
  crew : ((h.jobs.length : Nat) : Int) = h.rules.crew
  cab : ∀ (k : Nat) c, h.cabins[k]? = some c → cabAtB h k c = true
theorem houseOk_iff {h : House} : houseOkB h = true ↔ HG h := by
  simp only [houseOkB, partiesOkB, jobsOkB, cabsOkB, Bool.and_eq_true, decide_eq_true_eq, beq_iff_eq, ixAll_iff, Nat.zero_add]
  constructor
  · intro ⟨a, b, c, d, e, f, ⟨g, i⟩, j⟩; exact ⟨a, b, c, d, e, f, g, i, j⟩
  · intro ⟨a, b, c, d, e, f, g, i, j⟩; exact ⟨a, b, c, d, e, f, ⟨g, i⟩, j⟩
theorem houseOk_no {h : House} (hn : ¬ HG h) : houseOkB h = false := by
  cases hb : houseOkB h with
  | false => rfl
  | true => exact absurd (houseOk_iff.1 hb) hn
theorem filt_le (q : Party → Bool) (k : Int) : ∀ l : List Party, (l.filter fun p => q p && p.cab == k).length ≤ zAll (cntIn k) l
  | [] => Nat.zero_le _
  | p :: l => by
    have ih := filt_le q k l
    have e : zAll (cntIn k) (p :: l) = cntIn k p + zAll (cntIn k) l := rfl
    rw [e, List.filter_cons]
    split
    · rename_i h
      have h2 : (p.cab == k) = true := by simp only [Bool.and_eq_true] at h; exact h.2
      have e2 : cntIn k p = 1 := by rw [cntIn, if_pos h2]
      rw [List.length_cons, e2]; omega
    · omega
theorem ents_few {R : Rules} {k now : Int} {l : List Party} {n : Nat} (h : zAll (cntIn k) l ≤ n) : (entsOf R k now l).length ≤ n := by
  rw [entsOf, List.length_map]; exact Nat.le_trans (filt_le _ k l) h
theorem pins_few {k : Int} {l : List Party} {n : Nat} (h : zAll (cntIn k) l ≤ n) : (pinsOfP k l).length ≤ n := by
  rw [pinsOfP, List.length_map]; exact Nat.le_trans (filt_le _ k l) h
theorem SmP.cab {a : List Cabin} (h : smallCabs a) {k : Nat} (hk : k < a.length) : SmP a[k].spoke := by
  obtain ⟨h1, h2, h3⟩ := h.2 _ (List.getElem_mem hk)
  exact SmP.of h2 h3
set_option maxHeartbeats 1000000 in
theorem specHouseOk_ok (h : House) (hs : smallHo h) (b : Bool) (hb : b = houseOkB h) : Spec Tryz.prog 55 [hoA h] (Ret (bR fun _ => b)) := by
  refine spec_of tabOk Tryz.func55 rfl rfl (fr := true) (fun _ => by kernel_rfl) fun P hP hA => ?_
  obtain ⟨s1, s2, s3, s4, s5⟩ := hs
  have no : ¬ HG h → b = false := fun hn => hb.trans (houseOk_no hn)
  cbv
  repeat (refine Pz.mk ?_; cbv)
  refine CallA.by hP (specRulesOk_ok h.rules s1 (rulesOkB h.rules) rfl) ?_
  cbv
  repeat (refine Pz.mk ?_; cbv)
  refine Br.split (fun k0 => ?_) (fun k0 => ?_) <;> (cbv; repeat (refine Pz.mk ?_; cbv))
  · refine ⟨?_, trivial⟩
    have k0 : (!rulesOkB h.rules) = true := k0
    exact (no (fun hg => by rw [hg.rules] at k0; cases k0)).symm
  have k0 : (!rulesOkB h.rules) = false := k0
  have k0 : rulesOkB h.rules = true := by simpa using k0
  have hr := ruG k0
  have hlen := hr.len
  refine CallA.by hP (l1InB_ok h.now 0 1000000) ?_
  cbv
  repeat (refine Pz.mk ?_; cbv)
  refine Br.split (fun k1 => ?_) (fun k1 => ?_) <;> (cbv; repeat (refine Pz.mk ?_; cbv))
  · refine ⟨?_, trivial⟩
    have k1 : (!isIn h.now 0 1000000) = true := k1
    exact (no (fun hg => by rw [hg.now] at k1; cases k1)).symm
  have k1 : (!isIn h.now 0 1000000) = false := k1
  have k1 : isIn h.now 0 1000000 = true := by simpa using k1
  refine CallA.by hP (l1InB_ok h.turn 1 1000001) ?_
  cbv
  repeat (refine Pz.mk ?_; cbv)
  refine Br.split (fun k2 => ?_) (fun k2 => ?_) <;> (cbv; repeat (refine Pz.mk ?_; cbv))
  · refine ⟨?_, trivial⟩
    have k2 : (!isIn h.turn 1 1000001) = true := k2
    exact (no (fun hg => by rw [hg.turn] at k2; cases k2)).symm
  have k2 : (!isIn h.turn 1 1000001) = false := k2
  have k2 : isIn h.turn 1 1000001 = true := by simpa using k2
  refine Br.dec (fun k3 => ?_) (fun k3 => ?_) <;> (cbv; repeat (refine Pz.mk ?_; cbv))
  · refine ⟨?_, trivial⟩
    have k3 : (40 : Int) < (h.parties.length : Int) := k3
    exact (no (fun hg => by have := hg.few; omega)).symm
  have k3 : ¬ (40 : Int) < (h.parties.length : Int) := k3
  have k3 : h.parties.length ≤ 40 := by omega
  refine Br.split (fun k4 => ?_) (fun k4 => ?_) <;> (cbv; repeat (refine Pz.mk ?_; cbv))
  · refine ⟨?_, trivial⟩
    have k4 : ((h.cabins.length : Int) != (h.rules.seats.length : Int)) = true := k4
    exact (no (fun hg => by rw [hg.cabs] at k4; simp at k4)).symm
  have k4 : ((h.cabins.length : Int) != (h.rules.seats.length : Int)) = false := k4
  have k4 : h.cabins.length = h.rules.seats.length := by simp at k4; omega
  refine CallA.by hP (l11Parties_ok h s1 (partiesOkB h) rfl) ?_
  cbv
  repeat (refine Pz.mk ?_; cbv)
  refine Br.split (fun k5 => ?_) (fun k5 => ?_) <;> (cbv; repeat (refine Pz.mk ?_; cbv))
  · refine ⟨?_, trivial⟩
    have k5 : (!partiesOkB h) = true := k5
    exact (no (fun hg => by rw [partiesOkB, decide_eq_true hg.parties] at k5; cases k5)).symm
  have k5 : (!partiesOkB h) = false := k5
  have k5 : partiesOkB h = true := by simpa using k5
  refine CallA.by hP (l11Jobs_ok h s3.1 (jobsOkB h) rfl) ?_
  cbv
  repeat (refine Pz.mk ?_; cbv)
  refine Br.split (fun k6 => ?_) (fun k6 => ?_) <;> (cbv; repeat (refine Pz.mk ?_; cbv))
  · refine ⟨?_, trivial⟩
    have k6 : (!jobsOkB h) = true := k6
    exact (no (fun hg => by rw [jobsOkB, decide_eq_true hg.jobs, hg.crew] at k6; simp at k6)).symm
  have k6 : (!jobsOkB h) = false := k6
  have k6 : jobsOkB h = true := by simpa using k6
  refine LoopE.by (X := Nat) (fun i => [(1, pN 0), (3, nT fun _ => i)]) (fun _ => [(0, .box (hoC h))]) (fun i => i ≤ h.cabins.length ∧ ∀ (k : Nat) c, k < i → h.cabins[k]? = some c → cabAtB h k c = true) (fun i _ => h.cabins.length - i) 0 ⟨Nat.zero_le _, fun k c hk => by omega⟩ ?_ ?_
  · cbv
    repeat' first | exact trivial | refine ⟨rfl, ?_⟩ | fail
  · intro i ⟨hi, hn⟩
    cbv
    repeat (refine Pz.mk ?_; cbv)
    refine Br.dec (fun h2 => ?_) (fun h2 => ?_) <;> (cbv; repeat (refine Pz.mk ?_; cbv))
    rotate_left
    · have h2 : h.cabins.length ≤ i := by simp at h2; omega
      refine ⟨?_, trivial⟩
      have hc : cabsOkB h = true := ixAll_iff.2 fun k c hc => by rw [Nat.zero_add]; exact hn k c (Nat.lt_of_lt_of_le (lt_of_get hc) h2) hc
      show true = b
      rw [hb, houseOkB, k0, k1, k2, decide_eq_true k3, decide_eq_true k4, k5, k6, hc]; rfl
    have h2 : i < h.cabins.length := by simpa using h2
    have h2' : i < h.rules.seats.length := by omega
    have hsi : h.rules.seats.getD i 0 = h.rules.seats[i] := by rw [List.getD_eq_getElem?_getD, List.getElem?_eq_getElem h2']; rfl
    have bad : cabAtB h i h.cabins[i] = false → b = false := fun hx => no fun hg => by
      have := hg.cab i _ (List.getElem?_eq_getElem h2)
      rw [hx] at this; cases this
    repeat' first
      | (refine Ix.mk h.cabins[i] (by simp) (get_cast h.cabins h2) ?_; cbv)
      | (refine Ix.mk h.rules.seats[i] (by simp) (get_cast h.rules.seats h2') ?_; cbv)
      | fail
    refine Br.split (fun q0 => ?_) (fun q0 => ?_) <;> (cbv; repeat (refine Pz.mk ?_; cbv))
    · refine ⟨?_, trivial⟩
      have q0 : (h.cabins[i].seats.total != h.rules.seats[i]) = true := q0
      exact (bad (by
        have e : (h.cabins[i].seats.total == h.rules.seats.getD i 0) = false := by rw [hsi]; simpa using q0
        rw [cabAtB, e]; rfl)).symm
    have q0 : (h.cabins[i].seats.total != h.rules.seats[i]) = false := q0
    have q0 : (h.cabins[i].seats.total == h.rules.seats.getD i 0) = true := by rw [hsi]; simpa using q0
    refine ⟨h.cabins[i], by simp, get_cast h.cabins h2, ?_⟩
    cbv
    repeat (refine Pz.mk ?_; cbv)
    refine CallA.by hP (specAgrees_ok h.rules h.cabins[i] h.parties (i : Int) h.now s1 s2 (SmP.cab s3 h2) (agreesB h.rules h.cabins[i] h.parties (i : Int) h.now) rfl) ?_
    cbv
    repeat (refine Pz.mk ?_; cbv)
    refine Br.split (fun q1 => ?_) (fun q1 => ?_) <;> (cbv; repeat (refine Pz.mk ?_; cbv))
    · refine ⟨?_, trivial⟩
      have q1 : (!agreesB h.rules h.cabins[i] h.parties (i : Int) h.now) = true := q1
      have q1 : agreesB h.rules h.cabins[i] h.parties (i : Int) h.now = false := by simpa using q1
      exact (bad (by rw [cabAtB, q1]; simp)).symm
    have q1 : (!agreesB h.rules h.cabins[i] h.parties (i : Int) h.now) = false := q1
    have q1 : agreesB h.rules h.cabins[i] h.parties (i : Int) h.now = true := by simpa using q1
    refine CallA.by hP (specCountIn_ok h.parties (i : Int) s2) ?_
    cbv
    repeat (refine Pz.mk ?_; cbv)
    refine Br.dec (fun q2 => ?_) (fun q2 => ?_) <;> (cbv; repeat (refine Pz.mk ?_; cbv))
    · refine ⟨?_, trivial⟩
      have q2 : h.rules.room < ((zAll (cntIn (i : Int)) h.parties : Nat) : Int) := q2
      exact (bad (by rw [cabAtB, decide_eq_false (by omega : ¬ ((zAll (cntIn (i : Int)) h.parties : Nat) : Int) ≤ h.rules.room)]; simp)).symm
    have q2 : ¬ h.rules.room < ((zAll (cntIn (i : Int)) h.parties : Nat) : Int) := q2
    have q3 : ((zAll (cntIn (i : Int)) h.parties : Nat) : Int) ≤ h.rules.room := by omega
    refine Ar.exact (by (try simp only [nc] at *); omega) (by (try simp only [nc] at *); omega) ?_
    cbv
    repeat (refine Pz.mk ?_; cbv)
    refine NextE.by (i + 1) ?_ ?_ ?_
    · show h.cabins.length - (i + 1) < h.cabins.length - i
      omega
    · refine ⟨h2, fun k c hk hc => ?_⟩
      rcases Nat.lt_or_ge k i with h3 | h3
      · exact hn k c h3 hc
      · obtain rfl : k = i := by omega
        rw [List.getElem?_eq_getElem h2] at hc
        cases hc
        rw [cabAtB, q0, q1, decide_eq_true q3]; rfl
    · cbv
      repeat' first | exact trivial | refine ⟨rfl, ?_⟩ | fail
end Go.Proofs.YtnenmkiabclncaaGreat

