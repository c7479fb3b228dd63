/- Parts of a proof. No conditions. -/

import Derived.Test.YtlochjpjlhkjaaaG09
import Derived.Test.YtlochjpjlhkjaaaG11
set_option linter.unusedSimpArgs false
set_option linter.unusedVariables false
namespace Go.Proofs.Ytlochjpjlhkjaaa
open Go
set_option maxRecDepth 100000
def cellsOfV : V → List C
  | .agg cs => cs
  | _ => []
def hoC (h : House) : List C := cellsOfV (hoA h)
def hasB (l : List Int) (x : Int) : Bool := l.any fun y => y == x
theorem hasB_yes {l : List Int} {x : Int} {i : Nat} (hi : i < l.length) (h : (l[i] == x) = true) : hasB l x = true := List.any_eq_true.2 ⟨_, List.getElem_mem hi, h⟩
theorem hasB_no {l : List Int} {x : Int} (h : ∀ (j : Nat) y, l[j]? = some y → (y == x) = false) : hasB l x = false := by
  rw [hasB, List.any_eq_false]
  intro y hy
  obtain ⟨j, hj⟩ := List.mem_iff_getElem?.1 hy
  rw [h j y hj]; simp
theorem l1Has_ok (a : List Int) (v : Int) (b : Bool) (hb : b = hasB a v) : Spec Try.prog 53 [lA .int a, iA v] (Ret (bR fun _ => b)) := by
  refine spec_of tabOk Try.func53 rfl rfl (fr := true) (fun _ => by kernel_rfl) fun P hP hA => ?_
  obtain ⟨⟨ha, _⟩, _⟩ := hA
  have ha : a.length ≤ 9223372036854775807 := ha
  cbv
  repeat (refine Pz.mk ?_; cbv)
  refine LoopE.by (X := Nat) (fun i => [(0, lA .int a), (1, iA v), (5, nT fun _ => i)]) (fun _ => []) (fun i => i ≤ a.length ∧ ∀ (j : Nat) y, j < i → a[j]? = some y → (y == v) = false) (fun i _ => a.length - i) 0 ⟨Nat.zero_le _, fun j y hj => by omega⟩ ?_ ?_
  · cbv
    repeat (refine Pz.mk ?_; cbv)
    repeat' first | exact trivial | refine ⟨rfl, ?_⟩ | fail
  · intro i ⟨hi, hn⟩
    cbv
    repeat (refine Pz.mk ?_; cbv)
    refine Br.dec (fun h2 => ?_) (fun h2 => ?_) <;> (cbv; repeat (refine Pz.mk ?_; cbv))
    · have h2 : i < a.length := by simpa using h2
      refine ⟨a[i], by simp, get_cast a h2, ?_⟩
      cbv
      repeat (refine Pz.mk ?_; cbv)
      refine Br.split (fun h3 => ?_) (fun h3 => ?_) <;> (cbv; repeat (refine Pz.mk ?_; cbv))
      · refine ⟨?_, trivial⟩
        exact (hb.trans (hasB_yes h2 h3)).symm
      · refine Ar.exact (by (try simp only [nc] at *); omega) (by (try simp only [nc] at *); omega) ?_
        cbv
        repeat (refine Pz.mk ?_; cbv)
        refine NextE.by (i + 1) ?_ ?_ ?_
        · show a.length - (i + 1) < a.length - i
          omega
        · exact ⟨h2, pre_step h2 hn h3⟩
        · cbv
          repeat (refine Pz.mk ?_; cbv)
          repeat' first | exact trivial | refine ⟨rfl, ?_⟩ | fail
    · have h2 : a.length ≤ i := by simp at h2; omega
      refine ⟨?_, trivial⟩
      exact (hb.trans (hasB_no (pre_all h2 hn))).symm
def fairB (q p : Party) : Bool := !(q.turn == p.turn || (decide (q.turn < p.turn) && decide (q.since > p.since)) || (decide (q.turn > p.turn) && decide (q.since < p.since)))
structure PtyG (R : Rules) (now turn : Int) (l : List Party) : Prop where
  ok : ∀ p ∈ l, partyOkB R p now = true ∧ p.turn < turn
  srt : l.Pairwise fun a b => a.id < b.id
  fair : l.Pairwise fun a b => fairB a b = true
instance (R : Rules) (now turn : Int) (l : List Party) : Decidable (PtyG R now turn l) :=
  decidable_of_iff ((∀ p ∈ l, partyOkB R p now = true ∧ p.turn < turn) ∧ (l.Pairwise fun a b => a.id < b.id) ∧ l.Pairwise fun a b => fairB a b = true) ⟨fun ⟨a, b, c⟩ => ⟨a, b, c⟩, fun ⟨a, b, c⟩ => ⟨a, b, c⟩⟩
theorem PtyG.nil (R : Rules) (now turn : Int) : PtyG R now turn [] := ⟨fun p hp => (by cases hp), List.Pairwise.nil, List.Pairwise.nil⟩
theorem PtyG.snoc {R : Rules} {now turn : Int} {l : List Party} {i : Nat} (hi : i < l.length) (h : PtyG R now turn (l.take i)) (ok : partyOkB R l[i] now = true) (ht : l[i].turn < turn) (lt : 0 < i → (l[i - 1]'(by omega)).id < l[i].id)
    (fr : ∀ (j : Nat) x, j < i → l[j]? = some x → fairB x l[i] = true) : PtyG R now turn (l.take (i + 1)) := by
  have e : l.take (i + 1) = l.take i ++ [l[i]] := by rw [List.take_add_one, List.getElem?_eq_getElem hi]; rfl
  have get : ∀ x ∈ l.take i, ∃ j, j < i ∧ l[j]? = some x := fun x hx => by
    obtain ⟨j, hj⟩ := List.mem_iff_getElem?.1 hx
    rw [List.getElem?_take] at hj
    split at hj
    · exact ⟨j, by assumption, hj⟩
    · cases hj
  refine ⟨fun x hx => ?_, ?_, ?_⟩
  · rw [e, List.mem_append] at hx
    rcases hx with hx | hx
    · exact h.ok x hx
    · cases List.mem_singleton.1 hx; exact ⟨ok, ht⟩
  · rw [e, List.pairwise_append]
    refine ⟨h.srt, List.pairwise_singleton _ _, fun a ha b hb => ?_⟩
    cases List.mem_singleton.1 hb
    obtain ⟨j, hj, hx⟩ := get a ha
    have hl := lt (by omega)
    rcases Nat.lt_or_ge j (i - 1) with h1 | h1
    · have h2 := (List.pairwise_iff_getElem.1 h.srt) j (i - 1) (by rw [List.length_take]; omega) (by rw [List.length_take]; omega) h1
      simp only [List.getElem_take] at h2
      rw [List.getElem?_eq_getElem (by omega)] at hx
      cases hx
      omega
    · obtain rfl : j = i - 1 := by omega
      rw [List.getElem?_eq_getElem (by omega)] at hx
      cases hx; exact hl
  · rw [e, List.pairwise_append]
    refine ⟨h.fair, List.pairwise_singleton _ _, fun a ha b hb => ?_⟩
    cases List.mem_singleton.1 hb
    obtain ⟨j, hj, hx⟩ := get a ha
    exact fr j a hj hx
theorem PtyG.at_ {R : Rules} {now turn : Int} {l : List Party} (h : PtyG R now turn l) {i : Nat} (hi : i < l.length) : partyOkB R l[i] now = true ∧ l[i].turn < turn ∧ (0 < i → (l[i - 1]'(by omega)).id < l[i].id) ∧ ∀ (j : Nat) x, j < i → l[j]? = some x → fairB x l[i] = true := by
  refine ⟨(h.ok _ (List.getElem_mem hi)).1, (h.ok _ (List.getElem_mem hi)).2, fun h0 => ?_, fun j x hj hx => ?_⟩
  · exact (List.pairwise_iff_getElem.1 h.srt) (i - 1) i (by omega) hi (by omega)
  · have := (List.pairwise_iff_getElem.1 h.fair) j i (by omega) hi hj
    rw [List.getElem?_eq_getElem (by omega)] at hx
    cases hx; exact this
structure JobG (n : Int) (tds jbs : List Int) : Prop where
  todo : ∀ x ∈ tds, isIn x 0 (n - 1) = true
  once : tds.Pairwise fun a b => a ≠ b
  jobs : ∀ x ∈ jbs, isIn x (-1) (n - 1) = true
instance (n : Int) (todo jobs : List Int) : Decidable (JobG n todo jobs) :=
  decidable_of_iff ((∀ x ∈ todo, isIn x 0 (n - 1) = true) ∧ (todo.Pairwise fun a b => a ≠ b) ∧ ∀ x ∈ jobs, isIn x (-1) (n - 1) = true) ⟨fun ⟨a, b, c⟩ => ⟨a, b, c⟩, fun ⟨a, b, c⟩ => ⟨a, b, c⟩⟩
structure TPre (n : Int) (l : List Int) : Prop where
  ok : ∀ x ∈ l, isIn x 0 (n - 1) = true
  ne : l.Pairwise fun a b => a ≠ b
theorem TPre.snoc {n : Int} {l : List Int} {i : Nat} (hi : i < l.length) (h : TPre n (l.take i)) (ok : isIn l[i] 0 (n - 1) = true) (ne : hasB (l.take i) l[i] = false) : TPre n (l.take (i + 1)) := by
  have e : l.take (i + 1) = l.take i ++ [l[i]] := by rw [List.take_add_one, List.getElem?_eq_getElem hi]; rfl
  constructor
  · intro x hx
    rw [e, List.mem_append] at hx
    rcases hx with hx | hx
    · exact h.ok x hx
    · cases List.mem_singleton.1 hx; exact ok
  · rw [e, List.pairwise_append]
    refine ⟨h.ne, List.pairwise_singleton _ _, fun a ha b hb => ?_⟩
    cases List.mem_singleton.1 hb
    have := List.any_eq_false.1 ne a ha
    simpa using this
end Go.Proofs.Ytlochjpjlhkjaaa
namespace Go.Proofs.Ytlochjpjlhkjaaa
open Go
set_option maxRecDepth 100000
def cabAtB (h : House) (k : Nat) (c : Cabin) : Bool :=
  (c.seats.total == h.rules.seats.getD k 0) && (decide (((zAll (cntIn (k : Int)) h.parties : Nat) : Int) ≤ h.rules.room) && agreesB h.rules c h.parties (k : Int) h.now)
structure HG (h : House) : Prop where
  rules : rulesOkB h.rules = true
  now : isIn h.now 0 1000000 = true
  turn : isIn h.turn 1 1000001 = true
  few : h.parties.length ≤ 40
  cabs : h.cabins.length = h.rules.seats.length
  parties : PtyG h.rules h.now h.turn h.parties
  jobs : JobG h.cabins.length h.todo h.jobs
  crew : ((h.jobs.length : Nat) : Int) = h.rules.crew
  cab : ∀ (k : Nat) c, h.cabins[k]? = some c → cabAtB h k c = true
theorem SmP.cab {a : List Cabin} (h : smallCabs a) {k : Nat} (hk : k < a.length) : SmP a[k].spoke := by
  obtain ⟨h1, h2, h3⟩ := h.2 _ (List.getElem_mem hk)
  exact SmP.of h2 h3
end Go.Proofs.Ytlochjpjlhkjaaa

