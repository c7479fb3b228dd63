/-
  What a house is asked: idle, the next to be offered seats, the late ones, whether it is another's like. No conditions.
-/
import Derived.Test.YtmigflddbhiajaaGreatG14
import Derived.Test.YtmigflddbhiajaaGreatG07
set_option linter.unusedSimpArgs false
set_option linter.unusedVariables false

namespace Go.Proofs.YtmigflddbhiajaaGreat
open Go
set_option maxRecDepth 100000

theorem houseNot {h : House} (k0 : (!houseOkB h) = true) : houseOkB h = false := by simpa using k0
theorem houseYes {h : House} (k0 : (!houseOkB h) = false) : houseOkB h = true := by simpa using k0

theorem l15Ok_ok (h : House) (k : Int) (hs : smallHo h) (b : Bool) (hb : b = hasCabB h k) : Spec Tryz.prog 87 [hoA h, iA k] (Ret (bR fun _ => b)) := by
  refine spec_of tabOk Tryz.func87 rfl rfl (fr := true) (fun _ => by kernel_rfl) fun P hP hA => ?_
  have hc : h.cabins.length ≤ 1048576 := hs.2.2.1.1
  cbv
  repeat (refine Pz.mk ?_; cbv)
  refine CallA.by hP (specHouseOk_ok h hs (houseOkB h) rfl) ?_
  cbv
  repeat (refine Pz.mk ?_; cbv)
  refine Br.split (fun k0 => ?_) (fun k0 => ?_) <;> (cbv; repeat (refine Pz.mk ?_; cbv))
  rotate_left
  · refine ⟨?_, trivial⟩
    have k0 : houseOkB h = false := k0
    exact (hb.trans (by rw [hasCabB, k0]; rfl)).symm
  have k0 : houseOkB h = true := k0
  refine Ar.exact (by (try simp only [nc] at *); omega) (by (try simp only [nc] at *); omega) ?_
  cbv
  repeat (refine Pz.mk ?_; cbv)
  refine CallA.by hP (l1InB_ok k 0 ((h.cabins.length : Int) - 1)) ?_
  cbv
  repeat (refine Pz.mk ?_; cbv)
  refine ⟨?_, trivial⟩
  exact (hb.trans (by rw [hasCabB, k0]; rfl)).symm

theorem hasCabin_ok (h : House) (k : Int) (hs : smallHo h) (b : Bool) (hb : b = hasCabB h k) : Spec Tryz.prog 89 [hoA h, iA k] (Ret (bR fun _ => b)) := by
  refine spec_of tabOk Tryz.func89 rfl rfl (fr := true) (fun _ => by kernel_rfl) fun P hP hA => ?_
  have hc : h.cabins.length ≤ 1048576 := hs.2.2.1.1
  cbv
  repeat (refine Pz.mk ?_; cbv)
  refine CallA.by hP (implHouseOk_ok h hs (houseOkB h) rfl) ?_
  cbv
  repeat (refine Pz.mk ?_; cbv)
  refine Br.split (fun k0 => ?_) (fun k0 => ?_) <;> (cbv; repeat (refine Pz.mk ?_; cbv))
  rotate_left
  · refine ⟨?_, trivial⟩
    have k0 : houseOkB h = false := k0
    exact (hb.trans (by rw [hasCabB, k0]; rfl)).symm
  have k0 : houseOkB h = true := k0
  refine CallA.by hP (isIndexB_ok k (h.cabins.length : Int) (by omega) (by omega)) ?_
  cbv
  repeat (refine Pz.mk ?_; cbv)
  refine ⟨?_, trivial⟩
  exact (hb.trans (by rw [hasCabB, k0]; rfl)).symm

theorem idle_no {h : House} (hn : ¬ (houseOkB h = true ∧ h.todo = [] ∧ ∀ (j : Nat) x, h.jobs[j]? = some x → (x == -1) = true)) : idleB h = false := by
  cases hb : idleB h with
  | false => rfl
  | true =>
    simp only [idleB, Bool.and_eq_true, decide_eq_true_eq, List.all_eq_true] at hb
    exact absurd ⟨hb.1, hb.2.1, fun j x hx => hb.2.2 x (List.mem_of_getElem? hx)⟩ hn
theorem idle_yes {h : House} (h0 : houseOkB h = true) (h1 : h.todo = []) (h2 : ∀ (j : Nat) x, h.jobs[j]? = some x → (x == -1) = true) : idleB h = true := by
  simp only [idleB, Bool.and_eq_true, decide_eq_true_eq, List.all_eq_true]
  refine ⟨h0, h1, fun x hx => ?_⟩
  obtain ⟨j, hj⟩ := List.mem_iff_getElem?.1 hx
  exact h2 j x hj

theorem l16Idle_ok (h : House) (hg : HG h) (b : Bool) (hb : b = idleB h) : Spec Tryz.prog 82 [hoA h] (Ret (bR fun _ => b)) := by
  refine spec_of tabOk Tryz.func82 rfl rfl (fr := true) (fun _ => by kernel_rfl) fun P hP hA => ?_
  have hl : h.jobs.length ≤ 9223372036854775807 := by
    obtain ⟨⟨_, _, _, _, _, _, _, _, _, _, _, _, _, _, ⟨h1, _⟩, _⟩, _⟩ := hA
    exact h1
  have hk := houseOk_iff.2 hg
  cbv
  repeat (refine Pz.mk ?_; cbv)
  refine LoopE.by (X := Nat) (fun i => [(1, pN 0), (3, nT fun _ => i)]) (fun _ => [(0, .box (hoC h))]) (fun i => i ≤ h.jobs.length ∧ ∀ (j : Nat) x, j < i → h.jobs[j]? = some x → (x == -1) = true) (fun i _ => h.jobs.length - i) 0 ⟨Nat.zero_le _, fun j x hj => by omega⟩ ?_ ?_
  · cbv
    repeat (refine Pz.mk ?_; cbv)
    repeat' first | exact trivial | refine ⟨rfl, ?_⟩ | fail
  · intro i ⟨hi, hn⟩
    cbv
    repeat (refine Pz.mk ?_; cbv)
    refine Br.dec (fun h2 => ?_) (fun h2 => ?_) <;> (cbv; repeat (refine Pz.mk ?_; cbv))
    · have h2 : i < h.jobs.length := by simpa using h2
      have hj := isIn_ok (hg.jobs.jobs _ (List.getElem_mem h2))
      refine ⟨h.jobs[i], by simp, get_cast h.jobs h2, ?_⟩
      cbv
      repeat (refine Pz.mk ?_; cbv)
      refine Br.dec (fun h3 => ?_) (fun h3 => ?_) <;> (cbv; repeat (refine Pz.mk ?_; cbv))
      · refine ⟨?_, trivial⟩
        have h3 : h.jobs[i] ≥ 0 := h3
        exact (hb.trans (idle_no fun ⟨_, _, q⟩ => by have := q i _ (List.getElem?_eq_getElem h2); rw [beq_iff_eq] at this; omega)).symm
      · have h3 : ¬ h.jobs[i] ≥ 0 := h3
        refine Ar.exact (by (try simp only [nc] at *); omega) (by (try simp only [nc] at *); omega) ?_
        cbv
        repeat (refine Pz.mk ?_; cbv)
        refine NextE.by (i + 1) ?_ ?_ ?_
        · show h.jobs.length - (i + 1) < h.jobs.length - i
          omega
        · exact ⟨h2, pre_step h2 hn (by rw [beq_iff_eq]; omega)⟩
        · cbv
          repeat (refine Pz.mk ?_; cbv)
          repeat' first | exact trivial | refine ⟨rfl, ?_⟩ | fail
    · have h2 : h.jobs.length ≤ i := by simp at h2; omega
      refine ⟨?_, trivial⟩
      have hq := pre_all h2 hn
      show (((h.todo.length : Nat) : Int) == 0) = b
      rw [hb]
      cases ht : h.todo with
      | nil => rw [idle_yes hk ht hq]; rfl
      | cons y ys => rw [idle_no fun ⟨_, q, _⟩ => by rw [ht] at q; cases q]; rw [beq_eq_false_iff_ne]; simp only [List.length_cons]; omega

theorem specIdle_ok (h : House) (hs : smallHo h) (b : Bool) (hb : b = idleB h) : Spec Tryz.prog 29 [hoA h] (Ret (bR fun _ => b)) := by
  refine spec_of tabOk Tryz.func29 rfl rfl (fr := true) (fun _ => by kernel_rfl) fun P hP hA => ?_
  cbv
  repeat (refine Pz.mk ?_; cbv)
  refine CallA.by hP (specHouseOk_ok h hs (houseOkB h) rfl) ?_
  cbv
  repeat (refine Pz.mk ?_; cbv)
  refine Br.split (fun k0 => ?_) (fun k0 => ?_) <;> (cbv; repeat (refine Pz.mk ?_; cbv))
  rotate_left
  · refine ⟨?_, trivial⟩
    have k0 : houseOkB h = false := k0
    exact (hb.trans (idle_no fun ⟨q, _⟩ => by rw [k0] at q; cases q)).symm
  have k0 : houseOkB h = true := k0
  refine CallA.by hP (l16Idle_ok h (houseOk_iff.1 k0) b hb) ?_
  cbv
  repeat (refine Pz.mk ?_; cbv)
  repeat' first | exact trivial | refine ⟨rfl, ?_⟩ | fail

theorem implIdle_ok (h : House) (hs : smallHo h) (b : Bool) (hb : b = idleB h) : Spec Tryz.prog 30 [hoA h] (Ret (bR fun _ => b)) := by
  refine spec_of tabOk Tryz.func30 rfl rfl (fr := true) (fun _ => by kernel_rfl) fun P hP hA => ?_
  have hl : h.jobs.length ≤ 9223372036854775807 := by
    obtain ⟨⟨_, _, _, _, _, _, _, _, _, _, _, _, _, _, ⟨h1, _⟩, _⟩, _⟩ := hA
    exact h1
  cbv
  repeat (refine Pz.mk ?_; cbv)
  refine CallA.by hP (implHouseOk_ok h hs (houseOkB h) rfl) ?_
  cbv
  repeat (refine Pz.mk ?_; cbv)
  refine Br.split (fun k0 => ?_) (fun k0 => ?_) <;> (cbv; repeat (refine Pz.mk ?_; cbv))
  · refine ⟨?_, trivial⟩
    have k0 := houseNot (h := h) k0
    exact (hb.trans (idle_no fun ⟨q, _⟩ => by rw [k0] at q; cases q)).symm
  have k0 := houseYes (h := h) k0
  refine Br.dec (fun k1 => ?_) (fun k1 => ?_) <;> (cbv; repeat (refine Pz.mk ?_; cbv))
  · refine ⟨?_, trivial⟩
    have k1 : ((h.todo.length : Nat) : Int) > 0 := k1
    exact (hb.trans (idle_no fun ⟨_, q, _⟩ => by rw [q] at k1; simp at k1)).symm
  have k1 : ¬ ((h.todo.length : Nat) : Int) > 0 := k1
  have k1 : h.todo = [] := by
    cases ht : h.todo with
    | nil => rfl
    | cons y ys => rw [ht] at k1; simp only [List.length_cons] at k1; omega
  refine LoopE.by (X := Nat) (fun i => [(15, lA .int h.jobs), (16, nT fun _ => h.jobs.length), (17, nT fun _ => i)]) (fun _ => []) (fun i => i ≤ h.jobs.length ∧ ∀ (j : Nat) x, j < i → h.jobs[j]? = some x → (x == -1) = true) (fun i _ => h.jobs.length - i) 0 ⟨Nat.zero_le _, fun j x hj => by omega⟩ ?_ ?_
  · cbv
    repeat (refine Pz.mk ?_; cbv)
    repeat' first | exact trivial | refine ⟨rfl, ?_⟩ | fail
  · intro i ⟨hi, hn⟩
    cbv
    repeat (refine Pz.mk ?_; cbv)
    refine Br.dec (fun h2 => ?_) (fun h2 => ?_) <;> (cbv; repeat (refine Pz.mk ?_; cbv))
    · have h2 : i < h.jobs.length := by simpa using h2
      refine ⟨h.jobs[i], by simp, get_cast h.jobs h2, ?_⟩
      cbv
      repeat (refine Pz.mk ?_; cbv)
      refine Br.split (fun h3 => ?_) (fun h3 => ?_) <;> (cbv; repeat (refine Pz.mk ?_; cbv))
      · refine ⟨?_, trivial⟩
        have h3 : (h.jobs[i] != -1) = true := h3
        exact (hb.trans (idle_no fun ⟨_, _, q⟩ => by have := q i _ (List.getElem?_eq_getElem h2); rw [bne, this] at h3; cases h3)).symm
      · have h3 : (h.jobs[i] != -1) = false := h3
        refine Ar.exact (by (try simp only [nc] at *); omega) (by (try simp only [nc] at *); omega) ?_
        cbv
        repeat (refine Pz.mk ?_; cbv)
        refine NextE.by (i + 1) ?_ ?_ ?_
        · show h.jobs.length - (i + 1) < h.jobs.length - i
          omega
        · exact ⟨h2, pre_step h2 hn (by simpa using h3)⟩
        · cbv
          repeat (refine Pz.mk ?_; cbv)
          repeat' first | exact trivial | refine ⟨rfl, ?_⟩ | fail
    · have h2 : h.jobs.length ≤ i := by simp at h2; omega
      refine ⟨?_, trivial⟩
      exact (hb.trans (idle_yes k0 k1 (pre_all h2 hn))).symm

/-! ### the first that fits -/

def fitB (free : Int) (skip : List Int) (e : Entry) : Bool := decide (e.siz ≤ free) && !hasB skip e.eid
def fitAt (l : List Entry) (free : Int) (skip : List Int) : Int := atOf (fitB free skip) l

theorem specFirstFit_ok (a : List Entry) (free : Int) (skip : List Int) (x : Int) (hx : x = fitAt a free skip) : Spec Tryz.prog 139 [lA .ent a, iA free, lA .int skip] (Ret (iR fun _ => x)) := by
  refine spec_of tabOk Tryz.func139 rfl rfl (fr := true) (fun _ => by kernel_rfl) fun P hP hA => ?_
  obtain ⟨⟨ha, _⟩, _⟩ := hA
  have ha : a.length ≤ 9223372036854775807 := ha
  cbv
  repeat (refine Pz.mk ?_; cbv)
  refine LoopE.by (X := Nat) (fun i => [(0, lA .ent a), (1, iA free), (2, lA .int skip), (7, nT fun _ => i)]) (fun _ => []) (fun i => i ≤ a.length ∧ ∀ (j : Nat) y, j < i → a[j]? = some y → fitB free skip y = false) (fun i _ => a.length - i) 0 ⟨Nat.zero_le _, fun j y hj => by omega⟩ ?_ ?_
  · cbv
    repeat (refine Pz.mk ?_; cbv)
    repeat' first | exact trivial | refine ⟨rfl, ?_⟩ | fail
  · intro i ⟨hi, hn⟩
    cbv
    repeat (refine Pz.mk ?_; cbv)
    refine Br.dec (fun h2 => ?_) (fun h2 => ?_) <;> (cbv; repeat (refine Pz.mk ?_; cbv))
    rotate_left
    · have h2 : a.length ≤ i := by simp at h2; omega
      refine ⟨?_, trivial⟩
      exact (hx.trans (atOf_miss (pre_all h2 hn))).symm
    have h2 : i < a.length := by simpa using h2
    refine ⟨a[i], by simp, get_cast a h2, ?_⟩
    cbv
    repeat (refine Pz.mk ?_; cbv)
    refine Br.dec (fun h3 => ?_) (fun h3 => ?_) <;> (cbv; repeat (refine Pz.mk ?_; cbv))
    rotate_left
    · have h3 : ¬ a[i].siz ≤ free := h3
      refine Ar.exact (by (try simp only [nc] at *); omega) (by (try simp only [nc] at *); omega) ?_
      cbv
      repeat (refine Pz.mk ?_; cbv)
      refine NextE.by (i + 1) ?_ ?_ ?_
      · show a.length - (i + 1) < a.length - i
        omega
      · exact ⟨h2, pre_step h2 hn (by rw [fitB, decide_eq_false h3]; rfl)⟩
      · cbv
        repeat (refine Pz.mk ?_; cbv)
        repeat' first | exact trivial | refine ⟨rfl, ?_⟩ | fail
    have h3 : a[i].siz ≤ free := h3
    refine ⟨a[i], by simp, get_cast a h2, ?_⟩
    cbv
    repeat (refine Pz.mk ?_; cbv)
    refine CallA.by hP (l1Has_ok skip a[i].eid (hasB skip a[i].eid) rfl) ?_
    cbv
    repeat (refine Pz.mk ?_; cbv)
    refine Br.split (fun h4 => ?_) (fun h4 => ?_) <;> (cbv; repeat (refine Pz.mk ?_; cbv))
    · refine ⟨?_, trivial⟩
      have h4 : (!hasB skip a[i].eid) = true := h4
      exact (hx.trans (atOf_hit h2 (by rw [fitB, decide_eq_true h3, h4]; rfl) hn)).symm
    · have h4 : (!hasB skip a[i].eid) = false := h4
      refine Ar.exact (by (try simp only [nc] at *); omega) (by (try simp only [nc] at *); omega) ?_
      cbv
      repeat (refine Pz.mk ?_; cbv)
      refine NextE.by (i + 1) ?_ ?_ ?_
      · show a.length - (i + 1) < a.length - i
        omega
      · exact ⟨h2, pre_step h2 hn (by rw [fitB, h4]; simp)⟩
      · cbv
        repeat (refine Pz.mk ?_; cbv)
        repeat' first | exact trivial | refine ⟨rfl, ?_⟩ | fail

theorem firstFit1_ok (e : Entry) (free : Int) (skip : List Int) (b : Bool) (hb : b = fitB free skip e) : Spec Tryz.prog 140 [eA .ent e, .c (.pcs [.int .i64 fun _ => free] 0), .c (.pcs [.list .int fun _ => skip] 0)] (Ret (bR fun _ => b)) := by
  refine spec_of tabOk Tryz.func140 rfl rfl (fr := true) (fun _ => by kernel_rfl) fun P hP hA => ?_
  cbv
  repeat (refine Pz.mk ?_; cbv)
  repeat' first
    | (refine CallA.by hP (contains_ok skip e.eid (hasB skip e.eid) rfl) ?_; cbv; repeat (refine Pz.mk ?_; cbv))
    | (refine Br.split (fun h => ?_) (fun h => ?_) <;> (cbv; repeat (refine Pz.mk ?_; cbv)))
    | fail
  all_goals refine ⟨?_, trivial⟩
  all_goals simp_all [fitB]

theorem indexFit_ok (a : List Entry) (free : Int) (skip : List Int) (x : Int) (hx : x = fitAt a free skip) : Spec Tryz.prog 136 [lA .ent a, .c (.fn 140 [.pcs [.int .i64 fun _ => free] 0, .pcs [.list .int fun _ => skip] 0])] (Ret (iR fun _ => x)) := by
  refine spec_of tabOk Tryz.func136 rfl rfl (fr := true) (fun _ => by kernel_rfl) fun P hP hA => ?_
  obtain ⟨⟨ha, _⟩, _⟩ := hA
  have ha : a.length ≤ 9223372036854775807 := ha
  cbv
  repeat (refine Pz.mk ?_; cbv)
  refine LoopE.by (X := Nat) (fun i => [(0, lA .ent a), (1, .c (.fn 140 [.pcs [.int .i64 fun _ => free] 0, .pcs [.list .int fun _ => skip] 0])), (7, nT fun _ => a.length), (8, nT fun _ => i)]) (fun _ => []) (fun i => i ≤ a.length ∧ ∀ (j : Nat) y, j < i → a[j]? = some y → fitB free skip y = false) (fun i _ => a.length - i) 0 ⟨Nat.zero_le _, fun j y hj => by omega⟩ ?_ ?_
  · cbv
    repeat (refine Pz.mk ?_; cbv)
    repeat' first | exact trivial | refine ⟨rfl, ?_⟩ | fail
  · intro i ⟨hi, hn⟩
    cbv
    repeat (refine Pz.mk ?_; cbv)
    refine Br.dec (fun h2 => ?_) (fun h2 => ?_) <;> (cbv; repeat (refine Pz.mk ?_; cbv))
    · have h2 : i < a.length := by simpa using h2
      refine ⟨a[i], by simp, get_cast a h2, ?_⟩
      cbv
      repeat (refine Pz.mk ?_; cbv)
      refine CallA.by hP (firstFit1_ok a[i] free skip (fitB free skip a[i]) rfl) ?_
      cbv
      repeat (refine Pz.mk ?_; cbv)
      refine Br.split (fun h3 => ?_) (fun h3 => ?_) <;> (cbv; repeat (refine Pz.mk ?_; cbv))
      · refine ⟨?_, trivial⟩
        exact (hx.trans (atOf_hit h2 h3 hn)).symm
      · refine Ar.exact (by (try simp only [nc] at *); omega) (by (try simp only [nc] at *); omega) ?_
        cbv
        repeat (refine Pz.mk ?_; cbv)
        refine NextE.by (i + 1) ?_ ?_ ?_
        · show a.length - (i + 1) < a.length - i
          omega
        · exact ⟨h2, pre_step h2 hn h3⟩
        · cbv
          repeat (refine Pz.mk ?_; cbv)
          repeat' first | exact trivial | refine ⟨rfl, ?_⟩ | fail
    · have h2 : a.length ≤ i := by simp at h2; omega
      refine ⟨?_, trivial⟩
      exact (hx.trans (atOf_miss (pre_all h2 hn))).symm

theorem implFirstFit_ok (a : List Entry) (free : Int) (skip : List Int) (x : Int) (hx : x = fitAt a free skip) : Spec Tryz.prog 91 [lA .ent a, iA free, lA .int skip] (Ret (iR fun _ => x)) := by
  refine spec_of tabOk Tryz.func91 rfl rfl (fr := true) (fun _ => by kernel_rfl) fun P hP hA => ?_
  cbv
  repeat (refine Pz.mk ?_; cbv)
  refine CallA.by hP (indexFit_ok a free skip x hx) ?_
  cbv
  repeat (refine Pz.mk ?_; cbv)
  repeat' first | exact trivial | refine ⟨rfl, ?_⟩ | fail

/-! ### who is next, who is late -/

def idsOf (q : Party → Bool) (l : List Party) : List Int := (l.filter q).map fun p => p.id
theorem ids_len (q : Party → Bool) (l : List Party) : (idsOf q l).length ≤ l.length := by rw [idsOf, List.length_map]; exact List.length_filter_le _ _
def skipOf (h : House) : List Int := idsOf (fun p => restB' p h.now) h.parties
def nextC (h : House) (c : Cabin) : Int := if fitAt c.row c.seats.free (skipOf h) < 0 then 0 else ((c.row[(fitAt c.row c.seats.free (skipOf h)).toNat]?).getD default).eid
def nextOffer (h : House) (k : Int) : Int := if hasCabB h k = true then nextC h (cabOf h k) else 0
def lateOf (h : House) : List Int := if houseOkB h = true then idsOf (fun p => dueB p h.now) h.parties else []

set_option maxHeartbeats 1000000 in
theorem l15Next_ok (h : House) (n : Nat) (hn : n < h.cabins.length) (hk0 : houseOkB h = true) (x : Int) (hx : x = nextC h h.cabins[n]) : Spec Tryz.prog 88 [hoA h, nT fun _ => n] (Ret (iR fun _ => x)) := by
  refine spec_of tabOk Tryz.func88 rfl rfl (fr := true) (fun _ => by kernel_rfl) fun P hP hA => ?_
  cbv
  repeat (refine Pz.mk ?_; cbv)
  have hl : h.parties.length ≤ 40 := (houseOk_iff.1 hk0).few
  refine LoopE.by (X := Nat) (fun i => [(1, nT fun _ => n), (2, pN 0), (5, oN 1), (6, nT fun _ => i)]) (fun i => [(0, .box (hoC h)), (1, ownB' .int fun _ => idsOf (fun p => restB' p h.now) (h.parties.take i))]) (fun i => i ≤ h.parties.length) (fun i _ => h.parties.length - i) 0 (Nat.zero_le _) ?_ ?_
  · cbv
    repeat (refine Pz.mk ?_; cbv)
    repeat' first | exact trivial | refine ⟨rfl, ?_⟩ | fail
  · intro i hi
    cbv
    repeat (refine Pz.mk ?_; cbv)
    refine Br.dec (fun h2 => ?_) (fun h2 => ?_) <;> (cbv; repeat (refine Pz.mk ?_; cbv))
    rotate_left
    · have h2 : h.parties.length ≤ i := by simp at h2; omega
      have e : idsOf (fun p => restB' p h.now) (h.parties.take i) = idsOf (fun p => restB' p h.now) h.parties := by rw [List.take_of_length_le h2]
      refine ⟨h.cabins[n], by simp, get_cast h.cabins hn, ?_⟩
      cbv
      repeat (refine Pz.mk ?_; cbv)
      refine ⟨h.cabins[n], by simp, get_cast h.cabins hn, ?_⟩
      cbv
      repeat (refine Pz.mk ?_; cbv)
      refine CallA.by hP (specFirstFit_ok h.cabins[n].row h.cabins[n].seats.free (idsOf (fun p => restB' p h.now) (h.parties.take i)) (fitAt h.cabins[n].row h.cabins[n].seats.free (skipOf h)) (by rw [e]; rfl)) ?_
      cbv
      repeat (refine Pz.mk ?_; cbv)
      refine Br.dec (fun k7 => ?_) (fun k7 => ?_) <;> (cbv; repeat (refine Pz.mk ?_; cbv))
      · refine ⟨?_, trivial⟩
        have k7 : fitAt h.cabins[n].row h.cabins[n].seats.free (skipOf h) < 0 := k7
        exact (hx.trans (if_pos k7)).symm
      have k7 : ¬ fitAt h.cabins[n].row h.cabins[n].seats.free (skipOf h) < 0 := k7
      rcases atOf_cases (fitB h.cabins[n].seats.free (skipOf h)) h.cabins[n].row with ⟨q, _⟩ | ⟨m, hm, q, _, _⟩
      · have q : fitAt h.cabins[n].row h.cabins[n].seats.free (skipOf h) = -1 := q
        omega
      have q : fitAt h.cabins[n].row h.cabins[n].seats.free (skipOf h) = (m : Int) := q
      have o0 : 0 ≤ fitAt h.cabins[n].row h.cabins[n].seats.free (skipOf h) := by omega
      have g0 : h.cabins[n].row[(fitAt h.cabins[n].row h.cabins[n].seats.free (skipOf h)).toNat]? = some h.cabins[n].row[m] := by rw [q, Int.toNat_natCast]; exact List.getElem?_eq_getElem hm
      refine ⟨h.cabins[n], by simp, get_cast h.cabins hn, ?_⟩
      cbv
      repeat (refine Pz.mk ?_; cbv)
      refine ⟨h.cabins[n].row[m], o0, g0, ?_⟩
      cbv
      repeat (refine Pz.mk ?_; cbv)
      refine ⟨?_, trivial⟩
      exact (hx.trans ((if_neg k7).trans (by rw [g0]; rfl))).symm
    have h2 : i < h.parties.length := by simpa using h2
    have ob : ((idsOf (fun p => restB' p h.now) (h.parties.take i)).length + 1) * 8 ≤ 140737488355328 := by
      have := ids_len (fun p => restB' p h.now) (h.parties.take i)
      rw [List.length_take] at this
      omega
    refine ⟨h.parties[i], by simp, get_cast h.parties h2, ?_⟩
    cbv
    repeat (refine Pz.mk ?_; cbv)
    refine CallA.by hP (specResting_ok h.parties[i] h.now) ?_
    cbv
    repeat (refine Pz.mk ?_; cbv)
    refine Br.split (fun k0 => ?_) (fun k0 => ?_) <;> (cbv; repeat (refine Pz.mk ?_; cbv))
    · refine ⟨h.parties[i], by simp, get_cast h.parties h2, ?_⟩
      cbv
      repeat (refine Pz.mk ?_; cbv)
      refine ⟨ob, ?_⟩
      cbv
      repeat (refine Pz.mk ?_; cbv)
      refine Ar.exact (by (try simp only [nc] at *); omega) (by (try simp only [nc] at *); omega) ?_
      cbv
      repeat (refine Pz.mk ?_; cbv)
      refine NextE.by (i + 1) ?_ ?_ ?_
      · show h.parties.length - (i + 1) < h.parties.length - i
        omega
      · exact h2
      · cbv
        repeat (refine Pz.mk ?_; cbv)
        repeat' first | exact trivial | refine ⟨rfl, ?_⟩ | fail
        refine ⟨fm_yes (fun p => restB' p h.now) (fun p : Party => p.id) h2 k0, ?_⟩
        repeat' first | exact trivial | refine ⟨rfl, ?_⟩ | fail
    · refine Ar.exact (by (try simp only [nc] at *); omega) (by (try simp only [nc] at *); omega) ?_
      cbv
      repeat (refine Pz.mk ?_; cbv)
      refine NextE.by (i + 1) ?_ ?_ ?_
      · show h.parties.length - (i + 1) < h.parties.length - i
        omega
      · exact h2
      · cbv
        repeat (refine Pz.mk ?_; cbv)
        repeat' first | exact trivial | refine ⟨rfl, ?_⟩ | fail
        refine ⟨fm_no (fun p => restB' p h.now) (fun p : Party => p.id) h2 k0, ?_⟩
        repeat' first | exact trivial | refine ⟨rfl, ?_⟩ | fail

theorem specNextOffer_ok (h : House) (k : Int) (hs : smallHo h) (x : Int) (hx : x = nextOffer h k) : Spec Tryz.prog 36 [hoA h, iA k] (Ret (iR fun _ => x)) := by
  refine spec_of tabOk Tryz.func36 rfl rfl (fr := true) (fun _ => by kernel_rfl) fun P hP hA => ?_
  cbv
  repeat (refine Pz.mk ?_; cbv)
  refine CallA.by hP (l15Ok_ok h k hs (hasCabB h k) rfl) ?_
  cbv
  repeat (refine Pz.mk ?_; cbv)
  refine Br.split (fun kc => ?_) (fun kc => ?_) <;> (cbv; repeat (refine Pz.mk ?_; cbv))
  · refine ⟨?_, trivial⟩
    have kc : (!hasCabB h k) = true := kc
    exact (hx.trans (if_neg (by intro q; rw [q] at kc; cases kc))).symm
  have kc : (!hasCabB h k) = false := kc
  have kc : hasCabB h k = true := by simpa using kc
  have kk := Bool.and_eq_true_iff.1 kc
  obtain ⟨n, hn, rfl, ec⟩ := cab_at kk.2
  refine CallA.by hP (l15Next_ok h n hn kk.1 x (hx.trans ((if_pos kc).trans (by rw [ec])))) ?_
  cbv
  repeat (refine Pz.mk ?_; cbv)
  repeat' first | exact trivial | refine ⟨rfl, ?_⟩ | fail

set_option maxHeartbeats 1000000 in
theorem implNextOffer_ok (h : House) (k : Int) (hs : smallHo h) (x : Int) (hx : x = nextOffer h k) : Spec Tryz.prog 37 [hoA h, iA k] (Ret (iR fun _ => x)) := by
  refine spec_of tabOk Tryz.func37 rfl rfl (fr := true) (fun _ => by kernel_rfl) fun P hP hA => ?_
  cbv
  repeat (refine Pz.mk ?_; cbv)
  refine CallA.by hP (hasCabin_ok h k hs (hasCabB h k) rfl) ?_
  cbv
  repeat (refine Pz.mk ?_; cbv)
  refine Br.split (fun kc => ?_) (fun kc => ?_) <;> (cbv; repeat (refine Pz.mk ?_; cbv))
  · refine ⟨?_, trivial⟩
    have kc : (!hasCabB h k) = true := kc
    exact (hx.trans (if_neg (by intro q; rw [q] at kc; cases kc))).symm
  have kc : (!hasCabB h k) = false := kc
  have kc : hasCabB h k = true := by simpa using kc
  have kk := Bool.and_eq_true_iff.1 kc
  obtain ⟨n, hn, rfl, ec⟩ := cab_at kk.2
  have hk0 := kk.1
  have hx := hx.trans ((if_pos kc).trans (by rw [ec]))
  have hl : h.parties.length ≤ 40 := (houseOk_iff.1 hk0).few
  refine LoopE.by (X := Nat) (fun i => [(1, nT fun _ => n), (2, pN 0), (5, oN 1), (15, lA .pty h.parties), (16, nT fun _ => h.parties.length), (17, nT fun _ => i)]) (fun i => [(0, .box (hoC h)), (1, ownB' .int fun _ => idsOf (fun p => restB' p h.now) (h.parties.take i))]) (fun i => i ≤ h.parties.length) (fun i _ => h.parties.length - i) 0 (Nat.zero_le _) ?_ ?_
  · cbv
    repeat (refine Pz.mk ?_; cbv)
    repeat' first | exact trivial | refine ⟨rfl, ?_⟩ | fail
  · intro i hi
    cbv
    repeat (refine Pz.mk ?_; cbv)
    refine Br.dec (fun h2 => ?_) (fun h2 => ?_) <;> (cbv; repeat (refine Pz.mk ?_; cbv))
    rotate_left
    · have h2 : h.parties.length ≤ i := by simp at h2; omega
      have e : idsOf (fun p => restB' p h.now) (h.parties.take i) = idsOf (fun p => restB' p h.now) h.parties := by rw [List.take_of_length_le h2]
      refine ⟨h.cabins[n], by simp, get_cast h.cabins hn, ?_⟩
      cbv
      repeat (refine Pz.mk ?_; cbv)
      refine CallA.by hP (implFirstFit_ok h.cabins[n].row h.cabins[n].seats.free (idsOf (fun p => restB' p h.now) (h.parties.take i)) (fitAt h.cabins[n].row h.cabins[n].seats.free (skipOf h)) (by rw [e]; rfl)) ?_
      cbv
      repeat (refine Pz.mk ?_; cbv)
      refine Br.dec (fun k7 => ?_) (fun k7 => ?_) <;> (cbv; repeat (refine Pz.mk ?_; cbv))
      · refine ⟨?_, trivial⟩
        have k7 : fitAt h.cabins[n].row h.cabins[n].seats.free (skipOf h) < 0 := k7
        exact (hx.trans (if_pos k7)).symm
      have k7 : ¬ fitAt h.cabins[n].row h.cabins[n].seats.free (skipOf h) < 0 := k7
      rcases atOf_cases (fitB h.cabins[n].seats.free (skipOf h)) h.cabins[n].row with ⟨q, _⟩ | ⟨m, hm, q, _, _⟩
      · have q : fitAt h.cabins[n].row h.cabins[n].seats.free (skipOf h) = -1 := q
        omega
      have q : fitAt h.cabins[n].row h.cabins[n].seats.free (skipOf h) = (m : Int) := q
      have o0 : 0 ≤ fitAt h.cabins[n].row h.cabins[n].seats.free (skipOf h) := by omega
      have g0 : h.cabins[n].row[(fitAt h.cabins[n].row h.cabins[n].seats.free (skipOf h)).toNat]? = some h.cabins[n].row[m] := by rw [q, Int.toNat_natCast]; exact List.getElem?_eq_getElem hm
      refine ⟨h.cabins[n].row[m], o0, g0, ?_⟩
      cbv
      repeat (refine Pz.mk ?_; cbv)
      refine ⟨?_, trivial⟩
      exact (hx.trans ((if_neg k7).trans (by rw [g0]; rfl))).symm
    have h2 : i < h.parties.length := by simpa using h2
    have ob : ((idsOf (fun p => restB' p h.now) (h.parties.take i)).length + 1) * 8 ≤ 140737488355328 := by
      have := ids_len (fun p => restB' p h.now) (h.parties.take i)
      rw [List.length_take] at this
      omega
    refine ⟨h.parties[i], by simp, get_cast h.parties h2, ?_⟩
    cbv
    repeat (refine Pz.mk ?_; cbv)
    refine CallA.by hP (implResting_ok h.parties[i] h.now) ?_
    cbv
    repeat (refine Pz.mk ?_; cbv)
    refine Br.split (fun k0 => ?_) (fun k0 => ?_) <;> (cbv; repeat (refine Pz.mk ?_; cbv))
    · refine ⟨ob, ?_⟩
      cbv
      repeat (refine Pz.mk ?_; cbv)
      refine Ar.exact (by (try simp only [nc] at *); omega) (by (try simp only [nc] at *); omega) ?_
      cbv
      repeat (refine Pz.mk ?_; cbv)
      refine NextE.by (i + 1) ?_ ?_ ?_
      · show h.parties.length - (i + 1) < h.parties.length - i
        omega
      · exact h2
      · cbv
        repeat (refine Pz.mk ?_; cbv)
        repeat' first | exact trivial | refine ⟨rfl, ?_⟩ | fail
        refine ⟨fm_yes (fun p => restB' p h.now) (fun p : Party => p.id) h2 k0, ?_⟩
        repeat' first | exact trivial | refine ⟨rfl, ?_⟩ | fail
    · refine Ar.exact (by (try simp only [nc] at *); omega) (by (try simp only [nc] at *); omega) ?_
      cbv
      repeat (refine Pz.mk ?_; cbv)
      refine NextE.by (i + 1) ?_ ?_ ?_
      · show h.parties.length - (i + 1) < h.parties.length - i
        omega
      · exact h2
      · cbv
        repeat (refine Pz.mk ?_; cbv)
        repeat' first | exact trivial | refine ⟨rfl, ?_⟩ | fail
        refine ⟨fm_no (fun p => restB' p h.now) (fun p : Party => p.id) h2 k0, ?_⟩
        repeat' first | exact trivial | refine ⟨rfl, ?_⟩ | fail

set_option maxHeartbeats 1000000 in
theorem specLate_ok (h : House) (hs : smallHo h) (x : List Int) (hx : x = lateOf h) : Spec Tryz.prog 42 [hoA h] (Ret (lR .int fun _ => x)) := by
  refine spec_of tabOk Tryz.func42 rfl rfl (fr := true) (fun _ => by kernel_rfl) fun P hP hA => ?_
  cbv
  repeat (refine Pz.mk ?_; cbv)
  refine CallA.by hP (specHouseOk_ok h hs (houseOkB h) rfl) ?_
  cbv
  repeat (refine Pz.mk ?_; cbv)
  refine Br.split (fun kc => ?_) (fun kc => ?_) <;> (cbv; repeat (refine Pz.mk ?_; cbv))
  · have kc := houseNot (h := h) kc
    obtain rfl : x = [] := hx.trans (if_neg (by rw [kc]; simp))
    repeat' first | exact trivial | refine ⟨rfl, ?_⟩ | fail
  have hk0 := houseYes (h := h) kc
  obtain rfl : x = idsOf (fun p => dueB p h.now) h.parties := hx.trans (if_pos hk0)
  have hl : h.parties.length ≤ 40 := (houseOk_iff.1 hk0).few
  refine LoopE.by (X := Nat) (fun i => [(1, pN 0), (3, oN 1), (4, nT fun _ => i)]) (fun i => [(0, .box (hoC h)), (1, ownB' .int fun _ => idsOf (fun p => dueB p h.now) (h.parties.take i))]) (fun i => i ≤ h.parties.length) (fun i _ => h.parties.length - i) 0 (Nat.zero_le _) ?_ ?_
  · cbv
    repeat (refine Pz.mk ?_; cbv)
    repeat' first | exact trivial | refine ⟨rfl, ?_⟩ | fail
  · intro i hi
    cbv
    repeat (refine Pz.mk ?_; cbv)
    refine Br.dec (fun h2 => ?_) (fun h2 => ?_) <;> (cbv; repeat (refine Pz.mk ?_; cbv))
    rotate_left
    · have h2 : h.parties.length ≤ i := by simp at h2; omega
      have e : idsOf (fun p => dueB p h.now) (h.parties.take i) = idsOf (fun p => dueB p h.now) h.parties := by rw [List.take_of_length_le h2]
      refine ⟨e, trivial⟩
    have h2 : i < h.parties.length := by simpa using h2
    have ob : ((idsOf (fun p => dueB p h.now) (h.parties.take i)).length + 1) * 8 ≤ 140737488355328 := by
      have := ids_len (fun p => dueB p h.now) (h.parties.take i)
      rw [List.length_take] at this
      omega
    refine ⟨h.parties[i], by simp, get_cast h.parties h2, ?_⟩
    cbv
    repeat (refine Pz.mk ?_; cbv)
    refine CallA.by hP (specDue_ok h.parties[i] h.now) ?_
    cbv
    repeat (refine Pz.mk ?_; cbv)
    refine Br.split (fun k0 => ?_) (fun k0 => ?_) <;> (cbv; repeat (refine Pz.mk ?_; cbv))
    · refine ⟨h.parties[i], by simp, get_cast h.parties h2, ?_⟩
      cbv
      repeat (refine Pz.mk ?_; cbv)
      refine ⟨ob, ?_⟩
      cbv
      repeat (refine Pz.mk ?_; cbv)
      refine Ar.exact (by (try simp only [nc] at *); omega) (by (try simp only [nc] at *); omega) ?_
      cbv
      repeat (refine Pz.mk ?_; cbv)
      refine NextE.by (i + 1) ?_ ?_ ?_
      · show h.parties.length - (i + 1) < h.parties.length - i
        omega
      · exact h2
      · cbv
        repeat (refine Pz.mk ?_; cbv)
        repeat' first | exact trivial | refine ⟨rfl, ?_⟩ | fail
        refine ⟨fm_yes (fun p => dueB p h.now) (fun p : Party => p.id) h2 k0, ?_⟩
        repeat' first | exact trivial | refine ⟨rfl, ?_⟩ | fail
    · refine Ar.exact (by (try simp only [nc] at *); omega) (by (try simp only [nc] at *); omega) ?_
      cbv
      repeat (refine Pz.mk ?_; cbv)
      refine NextE.by (i + 1) ?_ ?_ ?_
      · show h.parties.length - (i + 1) < h.parties.length - i
        omega
      · exact h2
      · cbv
        repeat (refine Pz.mk ?_; cbv)
        repeat' first | exact trivial | refine ⟨rfl, ?_⟩ | fail
        refine ⟨fm_no (fun p => dueB p h.now) (fun p : Party => p.id) h2 k0, ?_⟩
        repeat' first | exact trivial | refine ⟨rfl, ?_⟩ | fail

set_option maxHeartbeats 1000000 in
theorem implLate_ok (h : House) (hs : smallHo h) (x : List Int) (hx : x = lateOf h) : Spec Tryz.prog 43 [hoA h] (Ret (lR .int fun _ => x)) := by
  refine spec_of tabOk Tryz.func43 rfl rfl (fr := true) (fun _ => by kernel_rfl) fun P hP hA => ?_
  cbv
  repeat (refine Pz.mk ?_; cbv)
  refine CallA.by hP (implHouseOk_ok h hs (houseOkB h) rfl) ?_
  cbv
  repeat (refine Pz.mk ?_; cbv)
  refine Br.split (fun kc => ?_) (fun kc => ?_) <;> (cbv; repeat (refine Pz.mk ?_; cbv))
  · have kc := houseNot (h := h) kc
    obtain rfl : x = [] := hx.trans (if_neg (by rw [kc]; simp))
    repeat' first | exact trivial | refine ⟨rfl, ?_⟩ | fail
  have hk0 := houseYes (h := h) kc
  obtain rfl : x = idsOf (fun p => dueB p h.now) h.parties := hx.trans (if_pos hk0)
  have hl : h.parties.length ≤ 40 := (houseOk_iff.1 hk0).few
  refine LoopE.by (X := Nat) (fun i => [(1, pN 0), (3, oN 1), (10, lA .pty h.parties), (11, nT fun _ => h.parties.length), (12, nT fun _ => i)]) (fun i => [(0, .box (hoC h)), (1, ownB' .int fun _ => idsOf (fun p => dueB p h.now) (h.parties.take i))]) (fun i => i ≤ h.parties.length) (fun i _ => h.parties.length - i) 0 (Nat.zero_le _) ?_ ?_
  · cbv
    repeat (refine Pz.mk ?_; cbv)
    repeat' first | exact trivial | refine ⟨rfl, ?_⟩ | fail
  · intro i hi
    cbv
    repeat (refine Pz.mk ?_; cbv)
    refine Br.dec (fun h2 => ?_) (fun h2 => ?_) <;> (cbv; repeat (refine Pz.mk ?_; cbv))
    rotate_left
    · have h2 : h.parties.length ≤ i := by simp at h2; omega
      have e : idsOf (fun p => dueB p h.now) (h.parties.take i) = idsOf (fun p => dueB p h.now) h.parties := by rw [List.take_of_length_le h2]
      refine ⟨e, trivial⟩
    have h2 : i < h.parties.length := by simpa using h2
    have ob : ((idsOf (fun p => dueB p h.now) (h.parties.take i)).length + 1) * 8 ≤ 140737488355328 := by
      have := ids_len (fun p => dueB p h.now) (h.parties.take i)
      rw [List.length_take] at this
      omega
    refine ⟨h.parties[i], by simp, get_cast h.parties h2, ?_⟩
    cbv
    repeat (refine Pz.mk ?_; cbv)
    refine CallA.by hP (implDue_ok h.parties[i] h.now) ?_
    cbv
    repeat (refine Pz.mk ?_; cbv)
    refine Br.split (fun k0 => ?_) (fun k0 => ?_) <;> (cbv; repeat (refine Pz.mk ?_; cbv))
    · refine ⟨ob, ?_⟩
      cbv
      repeat (refine Pz.mk ?_; cbv)
      refine Ar.exact (by (try simp only [nc] at *); omega) (by (try simp only [nc] at *); omega) ?_
      cbv
      repeat (refine Pz.mk ?_; cbv)
      refine NextE.by (i + 1) ?_ ?_ ?_
      · show h.parties.length - (i + 1) < h.parties.length - i
        omega
      · exact h2
      · cbv
        repeat (refine Pz.mk ?_; cbv)
        repeat' first | exact trivial | refine ⟨rfl, ?_⟩ | fail
        refine ⟨fm_yes (fun p => dueB p h.now) (fun p : Party => p.id) h2 k0, ?_⟩
        repeat' first | exact trivial | refine ⟨rfl, ?_⟩ | fail
    · refine Ar.exact (by (try simp only [nc] at *); omega) (by (try simp only [nc] at *); omega) ?_
      cbv
      repeat (refine Pz.mk ?_; cbv)
      refine NextE.by (i + 1) ?_ ?_ ?_
      · show h.parties.length - (i + 1) < h.parties.length - i
        omega
      · exact h2
      · cbv
        repeat (refine Pz.mk ?_; cbv)
        repeat' first | exact trivial | refine ⟨rfl, ?_⟩ | fail
        refine ⟨fm_no (fun p => dueB p h.now) (fun p : Party => p.id) h2 k0, ?_⟩
        repeat' first | exact trivial | refine ⟨rfl, ?_⟩ | fail


theorem equalCab_ok (a b : List Cabin) (ha : smallCabs a) (hb : smallCabs b) (r : Bool) (hr : r = cabsSameB a b) : Spec Tryz.prog 67 [lA .cab a, lA .cab b, .c (.fn 68 [])] (Ret (bR fun _ => r)) := by
  refine spec_of tabOk Tryz.func67 rfl rfl (fr := true) (fun _ => by kernel_rfl) fun P hP hA => ?_
  have hl : a.length ≤ 1048576 := ha.1
  cbv
  repeat (refine Pz.mk ?_; cbv)
  refine Br.split (fun h1 => ?_) (fun h1 => ?_) <;> (cbv; repeat (refine Pz.mk ?_; cbv))
  · refine ⟨?_, trivial⟩
    have := len_ne (a := a) (b := b) h1
    have e : ¬ a.length = b.length := by intro e; rw [e] at h1; simp at h1
    exact (hr.trans (by rw [cabsSameB, decide_eq_false e]; rfl)).symm
  have h1 := len_eq (a := a) (b := b) h1
  refine LoopE.by (X := Nat) (fun i => [(0, lA .cab a), (1, lA .cab b), (2, .c (.fn 68 [])), (15, lA .cab a), (16, nT fun _ => a.length), (17, nT fun _ => i)]) (fun _ => []) (fun i => i ≤ a.length ∧ ∀ (j : Nat) x, j < i → a[j]? = some x → ∀ y, b[j]? = some y → sameCabB x y = true) (fun i _ => a.length - i) 0 ⟨Nat.zero_le _, fun j y hj => by omega⟩ ?_ ?_
  · cbv
    repeat (refine Pz.mk ?_; cbv)
    repeat' first | exact trivial | refine ⟨rfl, ?_⟩ | fail
  · intro i ⟨hi, hn⟩
    cbv
    repeat (refine Pz.mk ?_; cbv)
    refine Br.dec (fun h2 => ?_) (fun h2 => ?_) <;> (cbv; repeat (refine Pz.mk ?_; cbv))
    rotate_left
    · have h2 : a.length ≤ i := by simp at h2; omega
      refine ⟨?_, trivial⟩
      have e : cabsSameB a b = true := by
        rw [cabsSameB, decide_eq_true h1, zip_yes h1 fun j x hx y hy => hn j x (Nat.lt_of_lt_of_le (lt_of_get hx) h2) hx y hy]; rfl
      exact (hr.trans e).symm
    have h2 : i < a.length := by simpa using h2
    have h2' : i < b.length := h1 ▸ h2
    refine ⟨a[i], by simp, get_cast a h2, ?_⟩
    cbv
    repeat (refine Pz.mk ?_; cbv)
    refine ⟨b[i], by simp, get_cast b h2', ?_⟩
    cbv
    repeat (refine Pz.mk ?_; cbv)
    refine CallA.by hP (implSameCabin_ok a[i] b[i] (SmP.cab ha h2) (SmP.cab hb h2') (sameCabB a[i] b[i]) rfl) ?_
    cbv
    repeat (refine Pz.mk ?_; cbv)
    refine Br.split (fun h3 => ?_) (fun h3 => ?_) <;> (cbv; repeat (refine Pz.mk ?_; cbv))
    · refine ⟨?_, trivial⟩
      have h3 : sameCabB a[i] b[i] = false := by simpa using h3
      exact (hr.trans (by rw [cabsSameB, zip_no h2 h2' h3]; simp)).symm
    · have h3 : sameCabB a[i] b[i] = true := by simpa using h3
      refine Ar.exact (by (try simp only [nc] at *); omega) (by (try simp only [nc] at *); omega) ?_
      cbv
      repeat (refine Pz.mk ?_; cbv)
      refine NextE.by (i + 1) ?_ ?_ ?_
      · show a.length - (i + 1) < a.length - i
        omega
      · refine ⟨h2, fun j x hj hx y hy => ?_⟩
        rcases Nat.lt_or_ge j i with q | q
        · exact hn j x q hx y hy
        · obtain rfl : j = i := by omega
          rw [List.getElem?_eq_getElem h2] at hx
          rw [List.getElem?_eq_getElem h2'] at hy
          cases hx; cases hy; exact h3
      · cbv
        repeat (refine Pz.mk ?_; cbv)
        repeat' first | exact trivial | refine ⟨rfl, ?_⟩ | fail

set_option maxHeartbeats 1000000 in
theorem implSameHouse_ok (a b : House) (ha : smallHo a) (hb : smallHo b) (r : Bool) (hr : r = sameHoB a b) : Spec Tryz.prog 21 [hoA a, hoA b] (Ret (bR fun _ => r)) := by
  refine spec_of tabOk Tryz.func21 rfl rfl (fr := true) (fun _ => by kernel_rfl) fun P hP hA => ?_
  cbv
  repeat (refine Pz.mk ?_; cbv)
  repeat' first
    | (refine CallA.by hP (implHouseOk_ok a ha (houseOkB a) rfl) ?_; cbv; repeat (refine Pz.mk ?_; cbv))
    | (refine CallA.by hP (implHouseOk_ok b hb (houseOkB b) rfl) ?_; cbv; repeat (refine Pz.mk ?_; cbv))
    | (refine CallA.by hP (implSameRules_ok a.rules b.rules (sameRuB a.rules b.rules) rfl) ?_; cbv; repeat (refine Pz.mk ?_; cbv))
    | (refine CallA.by hP (equalPty_ok a.parties b.parties) ?_; cbv; repeat (refine Pz.mk ?_; cbv))
    | (refine CallA.by hP (equalInt_ok a.todo b.todo) ?_; cbv; repeat (refine Pz.mk ?_; cbv))
    | (refine CallA.by hP (equalInt_ok a.jobs b.jobs) ?_; cbv; repeat (refine Pz.mk ?_; cbv))
    | (refine CallA.by hP (equalCab_ok a.cabins b.cabins ha.2.2.1 hb.2.2.1 (cabsSameB a.cabins b.cabins) rfl) ?_; cbv; repeat (refine Pz.mk ?_; cbv))
    | (refine Br.split (fun h => ?_) (fun h => ?_) <;> (cbv; repeat (refine Pz.mk ?_; cbv)))
    | fail
  all_goals refine ⟨?_, trivial⟩
  all_goals simp_all [sameHoB]

set_option maxHeartbeats 1000000 in
theorem specSameHouse_ok (a b : House) (ha : smallHo a) (hb : smallHo b) (r : Bool) (hr : r = sameHoB a b) : Spec Tryz.prog 38 [hoA a, hoA b] (Ret (bR fun _ => r)) := by
  refine spec_of tabOk Tryz.func38 rfl rfl (fr := true) (fun _ => by kernel_rfl) fun P hP hA => ?_
  have hlp : a.parties.length ≤ 1048576 := ha.2.1
  have hlc : a.cabins.length ≤ 1048576 := ha.2.2.1.1
  have no : ¬ sameHoB a b = true → r = false := fun q => by rw [hr]; simpa using q
  cbv
  repeat (refine Pz.mk ?_; cbv)
  refine CallA.by hP (specHouseOk_ok a ha (houseOkB a) rfl) ?_
  cbv
  repeat (refine Pz.mk ?_; cbv)
  refine Br.split (fun q0 => ?_) (fun q0 => ?_) <;> (cbv; repeat (refine Pz.mk ?_; cbv))
  · refine ⟨?_, trivial⟩
    have q0 : (!houseOkB a) = true := q0
    exact (no fun q => by simp only [sameHoB, Bool.and_eq_true] at q; simp_all).symm
  have q0 : (!houseOkB a) = false := q0
  have q0 : houseOkB a = true := by simpa using q0
  refine CallA.by hP (specHouseOk_ok b hb (houseOkB b) rfl) ?_
  cbv
  repeat (refine Pz.mk ?_; cbv)
  refine Br.split (fun q1 => ?_) (fun q1 => ?_) <;> (cbv; repeat (refine Pz.mk ?_; cbv))
  · refine ⟨?_, trivial⟩
    have q1 : (!houseOkB b) = true := q1
    exact (no fun q => by simp only [sameHoB, Bool.and_eq_true] at q; simp_all).symm
  have q1 : (!houseOkB b) = false := q1
  have q1 : houseOkB b = true := by simpa using q1
  refine CallA.by hP (specSameRules_ok a.rules b.rules (sameRuB a.rules b.rules) rfl) ?_
  cbv
  repeat (refine Pz.mk ?_; cbv)
  refine Br.split (fun q2 => ?_) (fun q2 => ?_) <;> (cbv; repeat (refine Pz.mk ?_; cbv))
  · refine ⟨?_, trivial⟩
    have q2 : (!sameRuB a.rules b.rules) = true := q2
    exact (no fun q => by simp only [sameHoB, Bool.and_eq_true] at q; simp_all).symm
  have q2 : (!sameRuB a.rules b.rules) = false := q2
  have q2 : sameRuB a.rules b.rules = true := by simpa using q2
  refine Br.split (fun q3 => ?_) (fun q3 => ?_) <;> (cbv; repeat (refine Pz.mk ?_; cbv))
  · refine ⟨?_, trivial⟩
    have q3 : (a.now != b.now) = true := q3
    exact (no fun q => by simp only [sameHoB, Bool.and_eq_true] at q; simp_all).symm
  have q3 : (a.now != b.now) = false := q3
  have q3 : (a.now == b.now) = true := by simpa using q3
  refine Br.split (fun q4 => ?_) (fun q4 => ?_) <;> (cbv; repeat (refine Pz.mk ?_; cbv))
  · refine ⟨?_, trivial⟩
    have q4 : (a.turn != b.turn) = true := q4
    exact (no fun q => by simp only [sameHoB, Bool.and_eq_true] at q; simp_all).symm
  have q4 : (a.turn != b.turn) = false := q4
  have q4 : (a.turn == b.turn) = true := by simpa using q4
  refine Br.split (fun q5 => ?_) (fun q5 => ?_) <;> (cbv; repeat (refine Pz.mk ?_; cbv))
  · refine ⟨?_, trivial⟩
    have q5 := len_ne (a := a.parties) (b := b.parties) q5
    exact (no fun q => by simp only [sameHoB, Bool.and_eq_true, decide_eq_true_eq] at q; exact q5 q.2.2.2.2.2.1).symm
  have q5 := len_eq (a := a.parties) (b := b.parties) q5
  refine CallA.by hP (l1Same_ok a.todo b.todo) ?_
  cbv
  repeat (refine Pz.mk ?_; cbv)
  refine Br.split (fun q6 => ?_) (fun q6 => ?_) <;> (cbv; repeat (refine Pz.mk ?_; cbv))
  · refine ⟨?_, trivial⟩
    have q6 : (!decide (a.todo = b.todo)) = true := q6
    exact (no fun q => by simp only [sameHoB, Bool.and_eq_true] at q; simp_all).symm
  have q6 : (!decide (a.todo = b.todo)) = false := q6
  have q6 : decide (a.todo = b.todo) = true := by simpa using q6
  refine CallA.by hP (l1Same_ok a.jobs b.jobs) ?_
  cbv
  repeat (refine Pz.mk ?_; cbv)
  refine Br.split (fun q7 => ?_) (fun q7 => ?_) <;> (cbv; repeat (refine Pz.mk ?_; cbv))
  · refine ⟨?_, trivial⟩
    have q7 : (!decide (a.jobs = b.jobs)) = true := q7
    exact (no fun q => by simp only [sameHoB, Bool.and_eq_true] at q; simp_all).symm
  have q7 : (!decide (a.jobs = b.jobs)) = false := q7
  have q7 : decide (a.jobs = b.jobs) = true := by simpa using q7
  refine LoopE.by (X := Nat) (fun i => [(2, pN 0), (3, pN 1), (5, nT fun _ => i)]) (fun _ => [(0, .box (hoC a)), (1, .box (hoC b))]) (fun i => i ≤ a.parties.length ∧ a.parties.take i = b.parties.take i) (fun i _ => a.parties.length - i) 0 ⟨Nat.zero_le _, by simp⟩ ?_ ?_
  · cbv
    repeat (refine Pz.mk ?_; cbv)
    repeat' first | exact trivial | refine ⟨rfl, ?_⟩ | fail
  · intro i ⟨hi, ht⟩
    cbv
    repeat (refine Pz.mk ?_; cbv)
    refine Br.dec (fun h2 => ?_) (fun h2 => ?_) <;> (cbv; repeat (refine Pz.mk ?_; cbv))
    · have h2 : i < a.parties.length := by simpa using h2
      have h2' : i < b.parties.length := q5 ▸ h2
      repeat' first
        | (refine Ix.mk a.parties[i] (by simp) (get_cast a.parties h2) ?_; cbv)
        | (refine Ix.mk b.parties[i] (by simp) (get_cast b.parties h2') ?_; cbv)
        | (refine Pz.mk ?_; cbv)
        | (refine And.intro ?_ ?_)
        | fail
      all_goals
        refine Br.split (fun h3 => ?_) (fun h3 => ?_) <;> (cbv; repeat (refine Pz.mk ?_; cbv))
        · refine ⟨?_, trivial⟩
          have := take_ne h2 h2' (fun he => by rw [he] at h3; simp at h3)
          exact (no fun q => by simp only [sameHoB, Bool.and_eq_true, decide_eq_true_eq] at q; exact this q.2.2.2.2.2.1).symm
        · refine Ar.exact (by (try simp only [nc] at *); omega) (by (try simp only [nc] at *); omega) ?_
          cbv
          repeat (refine Pz.mk ?_; cbv)
          refine NextE.by (i + 1) ?_ ?_ ?_
          · show a.parties.length - (i + 1) < a.parties.length - i
            omega
          · refine ⟨h2, take_step ht h2 h2' ?_⟩
            simp only [Bool.not_eq_false', Bool.and_eq_true, beq_iff_eq, Bool.and_true] at h3
            exact (by obtain ⟨g0, g1, g2, g3, g4, g5, g6, g7, g8, g9⟩ := h3; exact pa_ext g0 g1 g2 g3 g4 g5 g6 g7 g8 g9)
          · cbv
            repeat (refine Pz.mk ?_; cbv)
            repeat' first | exact trivial | refine ⟨rfl, ?_⟩ | fail
    have h2 : a.parties.length ≤ i := by simp at h2; omega
    have q6' := take_all q5 h2 ht
    refine LoopE.by (X := Nat) (fun i => [(2, pN 0), (3, pN 1), (6, nT fun _ => i)]) (fun _ => [(0, .box (hoC a)), (1, .box (hoC b))]) (fun i => i ≤ a.cabins.length ∧ ∀ (j : Nat) x, j < i → a.cabins[j]? = some x → ∀ y, b.cabins[j]? = some y → sameCabB x y = true) (fun i _ => a.cabins.length - i) 0 ⟨Nat.zero_le _, fun j y hj => by omega⟩ ?_ ?_
    · cbv
      repeat (refine Pz.mk ?_; cbv)
      repeat' first | exact trivial | refine ⟨rfl, ?_⟩ | fail
    · intro i ⟨hi, hn⟩
      cbv
      repeat (refine Pz.mk ?_; cbv)
      refine Br.dec (fun h3 => ?_) (fun h3 => ?_) <;> (cbv; repeat (refine Pz.mk ?_; cbv))
      · have h3 : i < a.cabins.length := by simpa using h3
        have h3' : i < b.cabins.length := by
          have e1 := (houseOk_iff.1 q0).cabs
          have e2 := (houseOk_iff.1 q1).cabs
          have e : a.rules = b.rules := by simpa [sameRu_iff] using q2
          rw [e] at e1
          omega
        repeat' first
          | (refine Ix.mk a.cabins[i] (by simp) (get_cast a.cabins h3) ?_; cbv)
          | (refine Ix.mk b.cabins[i] (by simp) (get_cast b.cabins h3') ?_; cbv)
          | (refine CallA.by hP (specSameCabin_ok a.cabins[i] b.cabins[i] (SmP.cab ha.2.2.1 h3) (SmP.cab hb.2.2.1 h3') (sameCabB a.cabins[i] b.cabins[i]) rfl) ?_; cbv)
          | (refine Pz.mk ?_; cbv)
          | (refine And.intro ?_ ?_)
          | fail
        all_goals
          refine Br.split (fun h4 => ?_) (fun h4 => ?_) <;> (cbv; repeat (refine Pz.mk ?_; cbv))
          · refine ⟨?_, trivial⟩
            have h4 : sameCabB a.cabins[i] b.cabins[i] = false := by simpa using h4
            exact (no fun q => by
              simp only [sameHoB, Bool.and_eq_true] at q
              have q := q.2.2.2.2.2.2.2.2
              rw [cabsSameB, zip_no h3 h3' h4] at q
              simp at q).symm
          · have h4 : sameCabB a.cabins[i] b.cabins[i] = true := by simpa using h4
            refine Ar.exact (by (try simp only [nc] at *); omega) (by (try simp only [nc] at *); omega) ?_
            cbv
            repeat (refine Pz.mk ?_; cbv)
            refine NextE.by (i + 1) ?_ ?_ ?_
            · show a.cabins.length - (i + 1) < a.cabins.length - i
              omega
            · refine ⟨h3, fun j x hj hx y hy => ?_⟩
              rcases Nat.lt_or_ge j i with q | q
              · exact hn j x q hx y hy
              · obtain rfl : j = i := by omega
                rw [List.getElem?_eq_getElem h3] at hx
                rw [List.getElem?_eq_getElem h3'] at hy
                cases hx; cases hy; exact h4
            · cbv
              repeat (refine Pz.mk ?_; cbv)
              repeat' first | exact trivial | refine ⟨rfl, ?_⟩ | fail
      · have h3 : a.cabins.length ≤ i := by simp at h3; omega
        refine ⟨?_, trivial⟩
        have hl : a.cabins.length = b.cabins.length := by
          have e1 := (houseOk_iff.1 q0).cabs
          have e2 := (houseOk_iff.1 q1).cabs
          have e : a.rules = b.rules := by simpa [sameRu_iff] using q2
          rw [e] at e1
          omega
        have e : cabsSameB a.cabins b.cabins = true := by
          rw [cabsSameB, decide_eq_true hl, zip_yes hl fun j x hx y hy => hn j x (Nat.lt_of_lt_of_le (lt_of_get hx) h3) hx y hy]; rfl
        refine (hr.trans ?_).symm
        simp only [sameHoB, Bool.and_eq_true]
        exact ⟨q0, q1, q2, q3, q4, decide_eq_true q6', q6, q7, e⟩

end Go.Proofs.YtmigflddbhiajaaGreat

/-
  The exact laws on houses that return plain values: both sides return the same. No conditions.
-/
namespace Go.Proofs.YtmigflddbhiajaaGreat
open Go
set_option maxRecDepth 100000

theorem zHo_le {a : House} (hs : smallHo a) : zHo a ≤ 4600000000000000000 := by
  obtain ⟨h1, h2, ⟨h3, h3'⟩, h4, h5⟩ := hs
  have e1 : a.rules.seats.length ≤ 1048576 := h1
  have e4 : a.todo.length ≤ 1048576 := h4
  have e5 : a.jobs.length ≤ 1048576 := h5
  have e2 := zAll_le zPty 10 1048576 a.parties (fun _ _ => Nat.le_refl 10) h2
  have e3 := zAll_le zCab (5 + 1048576 * 4 + 1048576 * (1048576 * 2)) 1048576 a.cabins (fun c hc => by
    obtain ⟨q1, q2, q3⟩ := h3' c hc
    have f1 := zAll_le zEnt 4 1048576 c.row (fun _ _ => Nat.le_refl 4) q1
    have f2 := zAll_le zPinS (1048576 * 2) 1048576 c.spoke (fun x hx => zAll_le zPin 2 1048576 x (fun _ _ => Nat.le_refl 2) (q3 x hx)) q2
    show 5 + zAll zEnt c.row + zAll zPinS c.spoke ≤ _
    omega) h3
  show a.rules.seats.length + zAll zPty a.parties + zAll zCab a.cabins + a.todo.length + a.jobs.length ≤ _
  omega

set_option maxHeartbeats 4000000 in
theorem lawHouseOk_ok (x : House) : Spec Tryz.prog 4 [hoA x] (Ret (bR fun _ => true)) := by
  refine spec_of tabOk Tryz.func4 rfl rfl (fr := true) (fun _ => by kernel_rfl) fun P hP hA => ?_
  cbv
  repeat (refine Pz.mk ?_; cbv)
  refine CallA.ex hP (szHouse_ok x 1048576 (by omega) (by omega)) fun r hr => ?_
  cbv
  repeat (refine Pz.mk ?_; cbv)
  refine Br.dec (fun h => ?_) (fun h => ?_) <;> (cbv; repeat (refine Pz.mk ?_; cbv))
  · exact ⟨rfl, trivial⟩
  have h0 : 0 ≤ r := by have h : ¬ r < 0 := h; omega
  have hs : smallHo x := hr.ok h0
  have hz := zHo_le hs
  repeat' first
    | exact trivial
    | exact ⟨rfl, trivial⟩
    | exact ⟨rfl, rfl⟩
    | (refine CallA.by hP (toHouse_ok x hs) ?_; cbv; repeat (refine Pz.mk ?_; cbv))
    | (refine CallA.by hP (specHouseOk_ok x hs (houseOkB x) rfl) ?_; cbv; repeat (refine Pz.mk ?_; cbv))
    | (refine CallA.by hP (implHouseOk_ok x hs (houseOkB x) rfl) ?_; cbv; repeat (refine Pz.mk ?_; cbv))
    | (refine CallA.by hP (eqHouse_ok x x) ?_; cbv; repeat (refine Pz.mk ?_; cbv))
    | (refine Br.split (fun h => ?_) (fun h => ?_) <;> (cbv; repeat (refine Pz.mk ?_; cbv)))
    | exact (neg_no h).elim
    | (exfalso; simp at h; done)
    | refine And.intro ?_ ?_

set_option maxHeartbeats 4000000 in
theorem lawCanHold_ok (x : House) (k : Int) (n : Int) : Spec Tryz.prog 5 [hoA x, iA k, iA n] (Ret (bR fun _ => true)) := by
  refine spec_of tabOk Tryz.func5 rfl rfl (fr := true) (fun _ => by kernel_rfl) fun P hP hA => ?_
  cbv
  repeat (refine Pz.mk ?_; cbv)
  refine CallA.ex hP (szHouse_ok x 1048576 (by omega) (by omega)) fun r hr => ?_
  cbv
  repeat (refine Pz.mk ?_; cbv)
  refine Br.dec (fun h => ?_) (fun h => ?_) <;> (cbv; repeat (refine Pz.mk ?_; cbv))
  · exact ⟨rfl, trivial⟩
  have h0 : 0 ≤ r := by have h : ¬ r < 0 := h; omega
  have hs : smallHo x := hr.ok h0
  have hz := zHo_le hs
  repeat' first
    | exact trivial
    | exact ⟨rfl, trivial⟩
    | exact ⟨rfl, rfl⟩
    | (refine CallA.by hP (toHouse_ok x hs) ?_; cbv; repeat (refine Pz.mk ?_; cbv))
    | (refine CallA.by hP (specCanHold_ok x k n hs (canHoldB x k n) rfl) ?_; cbv; repeat (refine Pz.mk ?_; cbv))
    | (refine CallA.by hP (implCanHold_ok x k n hs (canHoldB x k n) rfl) ?_; cbv; repeat (refine Pz.mk ?_; cbv))
    | (refine CallA.by hP (eqHouse_ok x x) ?_; cbv; repeat (refine Pz.mk ?_; cbv))
    | (refine Br.split (fun h => ?_) (fun h => ?_) <;> (cbv; repeat (refine Pz.mk ?_; cbv)))
    | exact (neg_no h).elim
    | (exfalso; simp at h; done)
    | refine And.intro ?_ ?_

set_option maxHeartbeats 4000000 in
theorem lawLooseIn_ok (x : House) (k : Int) : Spec Tryz.prog 6 [hoA x, iA k] (Ret (bR fun _ => true)) := by
  refine spec_of tabOk Tryz.func6 rfl rfl (fr := true) (fun _ => by kernel_rfl) fun P hP hA => ?_
  cbv
  repeat (refine Pz.mk ?_; cbv)
  refine CallA.ex hP (szHouse_ok x 1048576 (by omega) (by omega)) fun r hr => ?_
  cbv
  repeat (refine Pz.mk ?_; cbv)
  refine Br.dec (fun h => ?_) (fun h => ?_) <;> (cbv; repeat (refine Pz.mk ?_; cbv))
  · exact ⟨rfl, trivial⟩
  have h0 : 0 ≤ r := by have h : ¬ r < 0 := h; omega
  have hs : smallHo x := hr.ok h0
  have hz := zHo_le hs
  repeat' first
    | exact trivial
    | exact ⟨rfl, trivial⟩
    | exact ⟨rfl, rfl⟩
    | (refine CallA.by hP (toHouse_ok x hs) ?_; cbv; repeat (refine Pz.mk ?_; cbv))
    | (refine CallA.by hP (specLooseIn_ok x k hs (looseIn x k) rfl) ?_; cbv; repeat (refine Pz.mk ?_; cbv))
    | (refine CallA.by hP (implLooseIn_ok x k hs (looseIn x k) rfl) ?_; cbv; repeat (refine Pz.mk ?_; cbv))
    | (refine CallA.by hP (eqHouse_ok x x) ?_; cbv; repeat (refine Pz.mk ?_; cbv))
    | (refine Br.split (fun h => ?_) (fun h => ?_) <;> (cbv; repeat (refine Pz.mk ?_; cbv)))
    | exact (neg_no h).elim
    | (exfalso; simp at h; done)
    | refine And.intro ?_ ?_

set_option maxHeartbeats 4000000 in
theorem lawIdle_ok (x : House) : Spec Tryz.prog 7 [hoA x] (Ret (bR fun _ => true)) := by
  refine spec_of tabOk Tryz.func7 rfl rfl (fr := true) (fun _ => by kernel_rfl) fun P hP hA => ?_
  cbv
  repeat (refine Pz.mk ?_; cbv)
  refine CallA.ex hP (szHouse_ok x 1048576 (by omega) (by omega)) fun r hr => ?_
  cbv
  repeat (refine Pz.mk ?_; cbv)
  refine Br.dec (fun h => ?_) (fun h => ?_) <;> (cbv; repeat (refine Pz.mk ?_; cbv))
  · exact ⟨rfl, trivial⟩
  have h0 : 0 ≤ r := by have h : ¬ r < 0 := h; omega
  have hs : smallHo x := hr.ok h0
  have hz := zHo_le hs
  repeat' first
    | exact trivial
    | exact ⟨rfl, trivial⟩
    | exact ⟨rfl, rfl⟩
    | (refine CallA.by hP (toHouse_ok x hs) ?_; cbv; repeat (refine Pz.mk ?_; cbv))
    | (refine CallA.by hP (specIdle_ok x hs (idleB x) rfl) ?_; cbv; repeat (refine Pz.mk ?_; cbv))
    | (refine CallA.by hP (implIdle_ok x hs (idleB x) rfl) ?_; cbv; repeat (refine Pz.mk ?_; cbv))
    | (refine CallA.by hP (eqHouse_ok x x) ?_; cbv; repeat (refine Pz.mk ?_; cbv))
    | (refine Br.split (fun h => ?_) (fun h => ?_) <;> (cbv; repeat (refine Pz.mk ?_; cbv)))
    | exact (neg_no h).elim
    | (exfalso; simp at h; done)
    | refine And.intro ?_ ?_

set_option maxHeartbeats 4000000 in
theorem lawOfferOf_ok (x : House) (id : Int) : Spec Tryz.prog 8 [hoA x, iA id] (Ret (bR fun _ => true)) := by
  refine spec_of tabOk Tryz.func8 rfl rfl (fr := true) (fun _ => by kernel_rfl) fun P hP hA => ?_
  cbv
  repeat (refine Pz.mk ?_; cbv)
  refine CallA.ex hP (szHouse_ok x 1048576 (by omega) (by omega)) fun r hr => ?_
  cbv
  repeat (refine Pz.mk ?_; cbv)
  refine Br.dec (fun h => ?_) (fun h => ?_) <;> (cbv; repeat (refine Pz.mk ?_; cbv))
  · exact ⟨rfl, trivial⟩
  have h0 : 0 ≤ r := by have h : ¬ r < 0 := h; omega
  have hs : smallHo x := hr.ok h0
  have hz := zHo_le hs
  repeat' first
    | exact trivial
    | exact ⟨rfl, trivial⟩
    | exact ⟨rfl, rfl⟩
    | (refine CallA.by hP (toHouse_ok x hs) ?_; cbv; repeat (refine Pz.mk ?_; cbv))
    | (refine CallA.by hP (specOfferOf_ok x id hs (offerOf x id) rfl (offerOkB x id) rfl) ?_; cbv; repeat (refine Pz.mk ?_; cbv))
    | (refine CallA.by hP (implOfferOf_ok x id hs (offerOf x id) rfl (offerOkB x id) rfl) ?_; cbv; repeat (refine Pz.mk ?_; cbv))
    | (refine CallA.by hP (eqHouse_ok x x) ?_; cbv; repeat (refine Pz.mk ?_; cbv))
    | (refine CallA.by hP (eqPin_ok (offerOf x id) (offerOf x id)) ?_; cbv; repeat (refine Pz.mk ?_; cbv))
    | (refine Br.split (fun h => ?_) (fun h => ?_) <;> (cbv; repeat (refine Pz.mk ?_; cbv)))
    | exact (neg_no h).elim
    | (exfalso; simp at h; done)
    | refine And.intro ?_ ?_

set_option maxHeartbeats 4000000 in
theorem lawPlaceOf_ok (x : House) (id : Int) : Spec Tryz.prog 9 [hoA x, iA id] (Ret (bR fun _ => true)) := by
  refine spec_of tabOk Tryz.func9 rfl rfl (fr := true) (fun _ => by kernel_rfl) fun P hP hA => ?_
  cbv
  repeat (refine Pz.mk ?_; cbv)
  refine CallA.ex hP (szHouse_ok x 1048576 (by omega) (by omega)) fun r hr => ?_
  cbv
  repeat (refine Pz.mk ?_; cbv)
  refine Br.dec (fun h => ?_) (fun h => ?_) <;> (cbv; repeat (refine Pz.mk ?_; cbv))
  · exact ⟨rfl, trivial⟩
  have h0 : 0 ≤ r := by have h : ¬ r < 0 := h; omega
  have hs : smallHo x := hr.ok h0
  have hz := zHo_le hs
  repeat' first
    | exact trivial
    | exact ⟨rfl, trivial⟩
    | exact ⟨rfl, rfl⟩
    | (refine CallA.by hP (toHouse_ok x hs) ?_; cbv; repeat (refine Pz.mk ?_; cbv))
    | (refine CallA.by hP (specPlaceOf_ok x id hs (placeOf x id) rfl) ?_; cbv; repeat (refine Pz.mk ?_; cbv))
    | (refine CallA.by hP (implPlaceOf_ok x id hs (placeOf x id) rfl) ?_; cbv; repeat (refine Pz.mk ?_; cbv))
    | (refine CallA.by hP (eqHouse_ok x x) ?_; cbv; repeat (refine Pz.mk ?_; cbv))
    | (refine Br.split (fun h => ?_) (fun h => ?_) <;> (cbv; repeat (refine Pz.mk ?_; cbv)))
    | exact (neg_no h).elim
    | (exfalso; simp at h; done)
    | refine And.intro ?_ ?_

set_option maxHeartbeats 4000000 in
theorem lawNextOffer_ok (x : House) (k : Int) : Spec Tryz.prog 10 [hoA x, iA k] (Ret (bR fun _ => true)) := by
  refine spec_of tabOk Tryz.func10 rfl rfl (fr := true) (fun _ => by kernel_rfl) fun P hP hA => ?_
  cbv
  repeat (refine Pz.mk ?_; cbv)
  refine CallA.ex hP (szHouse_ok x 1048576 (by omega) (by omega)) fun r hr => ?_
  cbv
  repeat (refine Pz.mk ?_; cbv)
  refine Br.dec (fun h => ?_) (fun h => ?_) <;> (cbv; repeat (refine Pz.mk ?_; cbv))
  · exact ⟨rfl, trivial⟩
  have h0 : 0 ≤ r := by have h : ¬ r < 0 := h; omega
  have hs : smallHo x := hr.ok h0
  have hz := zHo_le hs
  repeat' first
    | exact trivial
    | exact ⟨rfl, trivial⟩
    | exact ⟨rfl, rfl⟩
    | (refine CallA.by hP (toHouse_ok x hs) ?_; cbv; repeat (refine Pz.mk ?_; cbv))
    | (refine CallA.by hP (specNextOffer_ok x k hs (nextOffer x k) rfl) ?_; cbv; repeat (refine Pz.mk ?_; cbv))
    | (refine CallA.by hP (implNextOffer_ok x k hs (nextOffer x k) rfl) ?_; cbv; repeat (refine Pz.mk ?_; cbv))
    | (refine CallA.by hP (eqHouse_ok x x) ?_; cbv; repeat (refine Pz.mk ?_; cbv))
    | (refine Br.split (fun h => ?_) (fun h => ?_) <;> (cbv; repeat (refine Pz.mk ?_; cbv)))
    | exact (neg_no h).elim
    | (exfalso; simp at h; done)
    | refine And.intro ?_ ?_

set_option maxHeartbeats 4000000 in
theorem lawSameHouse_ok (x y : House) : Spec Tryz.prog 11 [hoA x, hoA y] (Ret (bR fun _ => true)) := by
  refine spec_of tabOk Tryz.func11 rfl rfl (fr := true) (fun _ => by kernel_rfl) fun P hP hA => ?_
  cbv
  repeat (refine Pz.mk ?_; cbv)
  refine CallA.ex hP (szHouse_ok x 1048576 (by omega) (by omega)) fun r hr => ?_
  cbv
  repeat (refine Pz.mk ?_; cbv)
  refine Br.dec (fun h => ?_) (fun h => ?_) <;> (cbv; repeat (refine Pz.mk ?_; cbv))
  · exact ⟨rfl, trivial⟩
  have h0 : 0 ≤ r := by have h : ¬ r < 0 := h; omega
  have hs : smallHo x := hr.ok h0
  refine CallA.ex hP (szHouse_ok y r h0 (by have := hr.hi; omega)) fun r' hr' => ?_
  cbv
  repeat (refine Pz.mk ?_; cbv)
  refine Br.dec (fun h' => ?_) (fun h' => ?_) <;> (cbv; repeat (refine Pz.mk ?_; cbv))
  · exact ⟨rfl, trivial⟩
  have h0' : 0 ≤ r' := by have h : ¬ r' < 0 := h'; omega
  have hs' : smallHo y := hr'.ok h0'
  have hz := zHo_le hs
  repeat' first
    | exact trivial
    | exact ⟨rfl, trivial⟩
    | exact ⟨rfl, rfl⟩
    | (refine CallA.by hP (toHouse_ok x hs) ?_; cbv; repeat (refine Pz.mk ?_; cbv))
    | (refine CallA.by hP (toHouse_ok y hs') ?_; cbv; repeat (refine Pz.mk ?_; cbv))
    | (refine CallA.by hP (specSameHouse_ok x y hs hs' (sameHoB x y) rfl) ?_; cbv; repeat (refine Pz.mk ?_; cbv))
    | (refine CallA.by hP (implSameHouse_ok x y hs hs' (sameHoB x y) rfl) ?_; cbv; repeat (refine Pz.mk ?_; cbv))
    | (refine CallA.by hP (eqHouse_ok x x) ?_; cbv; repeat (refine Pz.mk ?_; cbv))
    | (refine CallA.by hP (eqHouse_ok y y) ?_; cbv; repeat (refine Pz.mk ?_; cbv))
    | (refine Br.split (fun h => ?_) (fun h => ?_) <;> (cbv; repeat (refine Pz.mk ?_; cbv)))
    | exact (neg_no h).elim
    | (exfalso; simp at h; done)
    | refine And.intro ?_ ?_

set_option maxHeartbeats 4000000 in
theorem lawAsk_ok (x : House) (id : Int) : Spec Tryz.prog 12 [hoA x, iA id] (Ret (bR fun _ => true)) := by
  refine spec_of tabOk Tryz.func12 rfl rfl (fr := true) (fun _ => by kernel_rfl) fun P hP hA => ?_
  cbv
  repeat (refine Pz.mk ?_; cbv)
  refine CallA.ex hP (szHouse_ok x 1048576 (by omega) (by omega)) fun r hr => ?_
  cbv
  repeat (refine Pz.mk ?_; cbv)
  refine Br.dec (fun h => ?_) (fun h => ?_) <;> (cbv; repeat (refine Pz.mk ?_; cbv))
  · exact ⟨rfl, trivial⟩
  have h0 : 0 ≤ r := by have h : ¬ r < 0 := h; omega
  have hs : smallHo x := hr.ok h0
  have hz := zHo_le hs
  repeat' first
    | exact trivial
    | exact ⟨rfl, trivial⟩
    | exact ⟨rfl, rfl⟩
    | (refine CallA.by hP (toHouse_ok x hs) ?_; cbv; repeat (refine Pz.mk ?_; cbv))
    | (refine CallA.by hP (specAsk_ok x id hs (stgOf x id) rfl (knownB x id) rfl) ?_; cbv; repeat (refine Pz.mk ?_; cbv))
    | (refine CallA.by hP (implAsk_ok x id hs (stgOf x id) rfl (knownB x id) rfl) ?_; cbv; repeat (refine Pz.mk ?_; cbv))
    | (refine CallA.by hP (eqHouse_ok x x) ?_; cbv; repeat (refine Pz.mk ?_; cbv))
    | (refine CallA.by hP (eqStanding_ok (stgOf x id) (stgOf x id)) ?_; cbv; repeat (refine Pz.mk ?_; cbv))
    | (refine Br.split (fun h => ?_) (fun h => ?_) <;> (cbv; repeat (refine Pz.mk ?_; cbv)))
    | exact (neg_no h).elim
    | (exfalso; simp at h; done)
    | refine And.intro ?_ ?_

theorem late_len (x : House) (hs : smallHo x) : (lateOf x).length ≤ 1048576 := by
  unfold lateOf
  split
  · exact Nat.le_trans (ids_len _ _) hs.2.1
  · exact Nat.zero_le _

set_option maxHeartbeats 4000000 in
theorem lawLate_ok (x : House) : Spec Tryz.prog 13 [hoA x] (Ret (bR fun _ => true)) := by
  refine spec_of tabOk Tryz.func13 rfl rfl (fr := true) (fun _ => by kernel_rfl) fun P hP hA => ?_
  cbv
  repeat (refine Pz.mk ?_; cbv)
  refine CallA.ex hP (szHouse_ok x 1048576 (by omega) (by omega)) fun r hr => ?_
  cbv
  repeat (refine Pz.mk ?_; cbv)
  refine Br.dec (fun h => ?_) (fun h => ?_) <;> (cbv; repeat (refine Pz.mk ?_; cbv))
  · exact ⟨rfl, trivial⟩
  have h0 : 0 ≤ r := by have h : ¬ r < 0 := h; omega
  have hs : smallHo x := hr.ok h0
  have hz := zHo_le hs
  repeat' first
    | exact trivial
    | exact ⟨rfl, trivial⟩
    | exact ⟨rfl, rfl⟩
    | (refine CallA.by hP (toHouse_ok x hs) ?_; cbv; repeat (refine Pz.mk ?_; cbv))
    | (refine CallA.by hP (specLate_ok x hs (lateOf x) rfl) ?_; cbv; repeat (refine Pz.mk ?_; cbv))
    | (refine CallA.by hP (implLate_ok x hs (lateOf x) rfl) ?_; cbv; repeat (refine Pz.mk ?_; cbv))
    | (refine CallA.by hP (eqHouse_ok x x) ?_; cbv; repeat (refine Pz.mk ?_; cbv))
    | (refine CallA.by hP (eqIntS_ok (lateOf x) (lateOf x)) ?_; cbv; repeat (refine Pz.mk ?_; cbv))
    | (refine CallM.byE hP (markHouse_ok x 1 hs.2.2.1 (by omega)) rfl rfl ?_; cbv; repeat (refine Pz.mk ?_; cbv))
    | (refine CallM.byE hP (markIntS_ok (lateOf x) 1 (by have := late_len x hs; omega)) rfl rfl ?_; cbv; repeat (refine Pz.mk ?_; cbv))
    | (refine CallA.by hP (heldIntS_ok (lateOf x).length 1 (by have := late_len x hs; omega)) ?_; cbv; repeat (refine Pz.mk ?_; cbv))
    | (refine Br.split (fun h => ?_) (fun h => ?_) <;> (cbv; repeat (refine Pz.mk ?_; cbv)))
    | exact (neg_no h).elim
    | (exfalso; simp at h; done)
    | refine And.intro ?_ ?_

end Go.Proofs.YtmigflddbhiajaaGreat
