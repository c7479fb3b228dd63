/-
  What a house is asked: idle, the next to be offered seats, the late ones, whether it is another's like. No conditions.
-/
import Derived.Test.YtnenmkiabclncaaGreatG14
set_option linter.unusedSimpArgs false
set_option linter.unusedVariables false

namespace Go.Proofs.YtnenmkiabclncaaGreat
open Go
set_option maxRecDepth 100000

theorem houseNot {h : House} (k0 : (!houseOkB h) = true) : houseOkB h = false := by simpa using k0
theorem houseYes {h : House} (k0 : (!houseOkB h) = false) : houseOkB h = true := by simpa using k0

theorem l15Ok_ok (h : House) (k : Int) (hs : smallHo h) (b : Bool) (hb : b = hasCabB h k) : Spec Tryz.prog 72 [hoA h, iA k] (Ret (bR fun _ => b)) := by
  refine spec_of tabOk Tryz.func72 rfl rfl (fr := true) (fun _ => by kernel_rfl) fun P hP hA => ?_
  have hc : h.cabins.length ≤ 1048576 := hs.2.2.1.1
  cbv
  repeat (refine Pz.mk ?_; cbv)
  refine CallA.by hP (specHouseOk_ok h hs (houseOkB h) rfl) ?_
  cbv
  repeat (refine Pz.mk ?_; cbv)
  refine Br.split (fun k0 => ?_) (fun k0 => ?_) <;> (cbv; repeat (refine Pz.mk ?_; cbv))
  rotate_left
  · refine ⟨?_, trivial⟩
    have k0 : houseOkB h = false := k0
    exact (hb.trans (by rw [hasCabB, k0]; rfl)).symm
  have k0 : houseOkB h = true := k0
  refine Ar.exact (by (try simp only [nc] at *); omega) (by (try simp only [nc] at *); omega) ?_
  cbv
  repeat (refine Pz.mk ?_; cbv)
  refine CallA.by hP (l1InB_ok k 0 ((h.cabins.length : Int) - 1)) ?_
  cbv
  repeat (refine Pz.mk ?_; cbv)
  refine ⟨?_, trivial⟩
  exact (hb.trans (by rw [hasCabB, k0]; rfl)).symm

theorem hasCabin_ok (h : House) (k : Int) (hs : smallHo h) (b : Bool) (hb : b = hasCabB h k) : Spec Tryz.prog 74 [hoA h, iA k] (Ret (bR fun _ => b)) := by
  refine spec_of tabOk Tryz.func74 rfl rfl (fr := true) (fun _ => by kernel_rfl) fun P hP hA => ?_
  have hc : h.cabins.length ≤ 1048576 := hs.2.2.1.1
  cbv
  repeat (refine Pz.mk ?_; cbv)
  refine CallA.by hP (implHouseOk_ok h hs (houseOkB h) rfl) ?_
  cbv
  repeat (refine Pz.mk ?_; cbv)
  refine Br.split (fun k0 => ?_) (fun k0 => ?_) <;> (cbv; repeat (refine Pz.mk ?_; cbv))
  rotate_left
  · refine ⟨?_, trivial⟩
    have k0 : houseOkB h = false := k0
    exact (hb.trans (by rw [hasCabB, k0]; rfl)).symm
  have k0 : houseOkB h = true := k0
  refine CallA.by hP (isIndexB_ok k (h.cabins.length : Int) (by omega) (by omega)) ?_
  cbv
  repeat (refine Pz.mk ?_; cbv)
  refine ⟨?_, trivial⟩
  exact (hb.trans (by rw [hasCabB, k0]; rfl)).symm

theorem idle_no {h : House} (hn : ¬ (houseOkB h = true ∧ h.todo = [] ∧ ∀ (j : Nat) x, h.jobs[j]? = some x → (x == -1) = true)) : idleB h = false := by
  cases hb : idleB h with
  | false => rfl
  | true =>
    simp only [idleB, Bool.and_eq_true, decide_eq_true_eq, List.all_eq_true] at hb
    exact absurd ⟨hb.1, hb.2.1, fun j x hx => hb.2.2 x (List.mem_of_getElem? hx)⟩ hn
theorem idle_yes {h : House} (h0 : houseOkB h = true) (h1 : h.todo = []) (h2 : ∀ (j : Nat) x, h.jobs[j]? = some x → (x == -1) = true) : idleB h = true := by
  simp only [idleB, Bool.and_eq_true, decide_eq_true_eq, List.all_eq_true]
  refine ⟨h0, h1, fun x hx => ?_⟩
  obtain ⟨j, hj⟩ := List.mem_iff_getElem?.1 hx
  exact h2 j x hj




/-! ### the first that fits -/

def fitB (free : Int) (skip : List Int) (e : Entry) : Bool := decide (e.siz ≤ free) && !hasB skip e.eid
def fitAt (l : List Entry) (free : Int) (skip : List Int) : Int := atOf (fitB free skip) l

theorem specFirstFit_ok (a : List Entry) (free : Int) (skip : List Int) (x : Int) (hx : x = fitAt a free skip) : Spec Tryz.prog 227 [lA .ent a, iA free, lA .int skip] (Ret (iR fun _ => x)) := by
  refine spec_of tabOk Tryz.func227 rfl rfl (fr := true) (fun _ => by kernel_rfl) fun P hP hA => ?_
  obtain ⟨⟨ha, _⟩, _⟩ := hA
  have ha : a.length ≤ 9223372036854775807 := ha
  cbv
  repeat (refine Pz.mk ?_; cbv)
  refine LoopE.by (X := Nat) (fun i => [(0, lA .ent a), (1, iA free), (2, lA .int skip), (7, nT fun _ => i)]) (fun _ => []) (fun i => i ≤ a.length ∧ ∀ (j : Nat) y, j < i → a[j]? = some y → fitB free skip y = false) (fun i _ => a.length - i) 0 ⟨Nat.zero_le _, fun j y hj => by omega⟩ ?_ ?_
  · cbv
    repeat (refine Pz.mk ?_; cbv)
    repeat' first | exact trivial | refine ⟨rfl, ?_⟩ | fail
  · intro i ⟨hi, hn⟩
    cbv
    repeat (refine Pz.mk ?_; cbv)
    refine Br.dec (fun h2 => ?_) (fun h2 => ?_) <;> (cbv; repeat (refine Pz.mk ?_; cbv))
    rotate_left
    · have h2 : a.length ≤ i := by simp at h2; omega
      refine ⟨?_, trivial⟩
      exact (hx.trans (atOf_miss (pre_all h2 hn))).symm
    have h2 : i < a.length := by simpa using h2
    refine ⟨a[i], by simp, get_cast a h2, ?_⟩
    cbv
    repeat (refine Pz.mk ?_; cbv)
    refine Br.dec (fun h3 => ?_) (fun h3 => ?_) <;> (cbv; repeat (refine Pz.mk ?_; cbv))
    rotate_left
    · have h3 : ¬ a[i].siz ≤ free := h3
      refine Ar.exact (by (try simp only [nc] at *); omega) (by (try simp only [nc] at *); omega) ?_
      cbv
      repeat (refine Pz.mk ?_; cbv)
      refine NextE.by (i + 1) ?_ ?_ ?_
      · show a.length - (i + 1) < a.length - i
        omega
      · exact ⟨h2, pre_step h2 hn (by rw [fitB, decide_eq_false h3]; rfl)⟩
      · cbv
        repeat (refine Pz.mk ?_; cbv)
        repeat' first | exact trivial | refine ⟨rfl, ?_⟩ | fail
    have h3 : a[i].siz ≤ free := h3
    refine ⟨a[i], by simp, get_cast a h2, ?_⟩
    cbv
    repeat (refine Pz.mk ?_; cbv)
    refine CallA.by hP (l1Has_ok skip a[i].eid (hasB skip a[i].eid) rfl) ?_
    cbv
    repeat (refine Pz.mk ?_; cbv)
    refine Br.split (fun h4 => ?_) (fun h4 => ?_) <;> (cbv; repeat (refine Pz.mk ?_; cbv))
    · refine ⟨?_, trivial⟩
      have h4 : (!hasB skip a[i].eid) = true := h4
      exact (hx.trans (atOf_hit h2 (by rw [fitB, decide_eq_true h3, h4]; rfl) hn)).symm
    · have h4 : (!hasB skip a[i].eid) = false := h4
      refine Ar.exact (by (try simp only [nc] at *); omega) (by (try simp only [nc] at *); omega) ?_
      cbv
      repeat (refine Pz.mk ?_; cbv)
      refine NextE.by (i + 1) ?_ ?_ ?_
      · show a.length - (i + 1) < a.length - i
        omega
      · exact ⟨h2, pre_step h2 hn (by rw [fitB, h4]; simp)⟩
      · cbv
        repeat (refine Pz.mk ?_; cbv)
        repeat' first | exact trivial | refine ⟨rfl, ?_⟩ | fail

theorem firstFit1_ok (e : Entry) (free : Int) (skip : List Int) (b : Bool) (hb : b = fitB free skip e) : Spec Tryz.prog 230 [eA .ent e, .c (.pcs [.int .i64 fun _ => free] 0), .c (.pcs [.list .int fun _ => skip] 0)] (Ret (bR fun _ => b)) := by
  refine spec_of tabOk Tryz.func230 rfl rfl (fr := true) (fun _ => by kernel_rfl) fun P hP hA => ?_
  cbv
  repeat (refine Pz.mk ?_; cbv)
  repeat' first
    | (refine CallA.by hP (contains_ok skip e.eid (hasB skip e.eid) rfl) ?_; cbv; repeat (refine Pz.mk ?_; cbv))
    | (refine Br.split (fun h => ?_) (fun h => ?_) <;> (cbv; repeat (refine Pz.mk ?_; cbv)))
    | fail
  all_goals refine ⟨?_, trivial⟩
  all_goals simp_all [fitB]

theorem indexFit_ok (a : List Entry) (free : Int) (skip : List Int) (x : Int) (hx : x = fitAt a free skip) : Spec Tryz.prog 229 [lA .ent a, .c (.fn 230 [.pcs [.int .i64 fun _ => free] 0, .pcs [.list .int fun _ => skip] 0])] (Ret (iR fun _ => x)) := by
  refine spec_of tabOk Tryz.func229 rfl rfl (fr := true) (fun _ => by kernel_rfl) fun P hP hA => ?_
  obtain ⟨⟨ha, _⟩, _⟩ := hA
  have ha : a.length ≤ 9223372036854775807 := ha
  cbv
  repeat (refine Pz.mk ?_; cbv)
  refine LoopE.by (X := Nat) (fun i => [(0, lA .ent a), (1, .c (.fn 230 [.pcs [.int .i64 fun _ => free] 0, .pcs [.list .int fun _ => skip] 0])), (7, nT fun _ => a.length), (8, nT fun _ => i)]) (fun _ => []) (fun i => i ≤ a.length ∧ ∀ (j : Nat) y, j < i → a[j]? = some y → fitB free skip y = false) (fun i _ => a.length - i) 0 ⟨Nat.zero_le _, fun j y hj => by omega⟩ ?_ ?_
  · cbv
    repeat (refine Pz.mk ?_; cbv)
    repeat' first | exact trivial | refine ⟨rfl, ?_⟩ | fail
  · intro i ⟨hi, hn⟩
    cbv
    repeat (refine Pz.mk ?_; cbv)
    refine Br.dec (fun h2 => ?_) (fun h2 => ?_) <;> (cbv; repeat (refine Pz.mk ?_; cbv))
    · have h2 : i < a.length := by simpa using h2
      refine ⟨a[i], by simp, get_cast a h2, ?_⟩
      cbv
      repeat (refine Pz.mk ?_; cbv)
      refine CallA.by hP (firstFit1_ok a[i] free skip (fitB free skip a[i]) rfl) ?_
      cbv
      repeat (refine Pz.mk ?_; cbv)
      refine Br.split (fun h3 => ?_) (fun h3 => ?_) <;> (cbv; repeat (refine Pz.mk ?_; cbv))
      · refine ⟨?_, trivial⟩
        exact (hx.trans (atOf_hit h2 h3 hn)).symm
      · refine Ar.exact (by (try simp only [nc] at *); omega) (by (try simp only [nc] at *); omega) ?_
        cbv
        repeat (refine Pz.mk ?_; cbv)
        refine NextE.by (i + 1) ?_ ?_ ?_
        · show a.length - (i + 1) < a.length - i
          omega
        · exact ⟨h2, pre_step h2 hn h3⟩
        · cbv
          repeat (refine Pz.mk ?_; cbv)
          repeat' first | exact trivial | refine ⟨rfl, ?_⟩ | fail
    · have h2 : a.length ≤ i := by simp at h2; omega
      refine ⟨?_, trivial⟩
      exact (hx.trans (atOf_miss (pre_all h2 hn))).symm

theorem implFirstFit_ok (a : List Entry) (free : Int) (skip : List Int) (x : Int) (hx : x = fitAt a free skip) : Spec Tryz.prog 161 [lA .ent a, iA free, lA .int skip] (Ret (iR fun _ => x)) := by
  refine spec_of tabOk Tryz.func161 rfl rfl (fr := true) (fun _ => by kernel_rfl) fun P hP hA => ?_
  cbv
  repeat (refine Pz.mk ?_; cbv)
  refine CallA.by hP (indexFit_ok a free skip x hx) ?_
  cbv
  repeat (refine Pz.mk ?_; cbv)
  repeat' first | exact trivial | refine ⟨rfl, ?_⟩ | fail

/-! ### who is next, who is late -/

def idsOf (q : Party → Bool) (l : List Party) : List Int := (l.filter q).map fun p => p.id
theorem ids_len (q : Party → Bool) (l : List Party) : (idsOf q l).length ≤ l.length := by rw [idsOf, List.length_map]; exact List.length_filter_le _ _
def skipOf (h : House) : List Int := idsOf (fun p => restB' p h.now) h.parties
def nextC (h : House) (c : Cabin) : Int := if fitAt c.row c.seats.free (skipOf h) < 0 then 0 else ((c.row[(fitAt c.row c.seats.free (skipOf h)).toNat]?).getD default).eid
def nextOffer (h : House) (k : Int) : Int := if hasCabB h k = true then nextC h (cabOf h k) else 0
def lateOf (h : House) : List Int := if houseOkB h = true then idsOf (fun p => dueB p h.now) h.parties else []

set_option maxHeartbeats 1000000 in
theorem l15Next_ok (h : House) (n : Nat) (hn : n < h.cabins.length) (hk0 : houseOkB h = true) (x : Int) (hx : x = nextC h h.cabins[n]) : Spec Tryz.prog 157 [hoA h, nT fun _ => n] (Ret (iR fun _ => x)) := by
  refine spec_of tabOk Tryz.func157 rfl rfl (fr := true) (fun _ => by kernel_rfl) fun P hP hA => ?_
  cbv
  repeat (refine Pz.mk ?_; cbv)
  have hl : h.parties.length ≤ 40 := (houseOk_iff.1 hk0).few
  refine LoopE.by (X := Nat) (fun i => [(1, nT fun _ => n), (2, pN 0), (5, oN 1), (6, nT fun _ => i)]) (fun i => [(0, .box (hoC h)), (1, ownB' .int fun _ => idsOf (fun p => restB' p h.now) (h.parties.take i))]) (fun i => i ≤ h.parties.length) (fun i _ => h.parties.length - i) 0 (Nat.zero_le _) ?_ ?_
  · cbv
    repeat (refine Pz.mk ?_; cbv)
    repeat' first | exact trivial | refine ⟨rfl, ?_⟩ | fail
  · intro i hi
    cbv
    repeat (refine Pz.mk ?_; cbv)
    refine Br.dec (fun h2 => ?_) (fun h2 => ?_) <;> (cbv; repeat (refine Pz.mk ?_; cbv))
    rotate_left
    · have h2 : h.parties.length ≤ i := by simp at h2; omega
      have e : idsOf (fun p => restB' p h.now) (h.parties.take i) = idsOf (fun p => restB' p h.now) h.parties := by rw [List.take_of_length_le h2]
      refine ⟨h.cabins[n], by simp, get_cast h.cabins hn, ?_⟩
      cbv
      repeat (refine Pz.mk ?_; cbv)
      refine ⟨h.cabins[n], by simp, get_cast h.cabins hn, ?_⟩
      cbv
      repeat (refine Pz.mk ?_; cbv)
      refine CallA.by hP (specFirstFit_ok h.cabins[n].row h.cabins[n].seats.free (idsOf (fun p => restB' p h.now) (h.parties.take i)) (fitAt h.cabins[n].row h.cabins[n].seats.free (skipOf h)) (by rw [e]; rfl)) ?_
      cbv
      repeat (refine Pz.mk ?_; cbv)
      refine Br.dec (fun k7 => ?_) (fun k7 => ?_) <;> (cbv; repeat (refine Pz.mk ?_; cbv))
      · refine ⟨?_, trivial⟩
        have k7 : fitAt h.cabins[n].row h.cabins[n].seats.free (skipOf h) < 0 := k7
        exact (hx.trans (if_pos k7)).symm
      have k7 : ¬ fitAt h.cabins[n].row h.cabins[n].seats.free (skipOf h) < 0 := k7
      rcases atOf_cases (fitB h.cabins[n].seats.free (skipOf h)) h.cabins[n].row with ⟨q, _⟩ | ⟨m, hm, q, _, _⟩
      · have q : fitAt h.cabins[n].row h.cabins[n].seats.free (skipOf h) = -1 := q
        omega
      have q : fitAt h.cabins[n].row h.cabins[n].seats.free (skipOf h) = (m : Int) := q
      have o0 : 0 ≤ fitAt h.cabins[n].row h.cabins[n].seats.free (skipOf h) := by omega
      have g0 : h.cabins[n].row[(fitAt h.cabins[n].row h.cabins[n].seats.free (skipOf h)).toNat]? = some h.cabins[n].row[m] := by rw [q, Int.toNat_natCast]; exact List.getElem?_eq_getElem hm
      refine ⟨h.cabins[n], by simp, get_cast h.cabins hn, ?_⟩
      cbv
      repeat (refine Pz.mk ?_; cbv)
      refine ⟨h.cabins[n].row[m], o0, g0, ?_⟩
      cbv
      repeat (refine Pz.mk ?_; cbv)
      refine ⟨?_, trivial⟩
      exact (hx.trans ((if_neg k7).trans (by rw [g0]; rfl))).symm
    have h2 : i < h.parties.length := by simpa using h2
    have ob : ((idsOf (fun p => restB' p h.now) (h.parties.take i)).length + 1) * 8 ≤ 140737488355328 := by
      have := ids_len (fun p => restB' p h.now) (h.parties.take i)
      rw [List.length_take] at this
      omega
    refine ⟨h.parties[i], by simp, get_cast h.parties h2, ?_⟩
    cbv
    repeat (refine Pz.mk ?_; cbv)
    refine CallA.by hP (specResting_ok h.parties[i] h.now) ?_
    cbv
    repeat (refine Pz.mk ?_; cbv)
    refine Br.split (fun k0 => ?_) (fun k0 => ?_) <;> (cbv; repeat (refine Pz.mk ?_; cbv))
    · refine ⟨h.parties[i], by simp, get_cast h.parties h2, ?_⟩
      cbv
      repeat (refine Pz.mk ?_; cbv)
      refine ⟨ob, ?_⟩
      cbv
      repeat (refine Pz.mk ?_; cbv)
      refine Ar.exact (by (try simp only [nc] at *); omega) (by (try simp only [nc] at *); omega) ?_
      cbv
      repeat (refine Pz.mk ?_; cbv)
      refine NextE.by (i + 1) ?_ ?_ ?_
      · show h.parties.length - (i + 1) < h.parties.length - i
        omega
      · exact h2
      · cbv
        repeat (refine Pz.mk ?_; cbv)
        repeat' first | exact trivial | refine ⟨rfl, ?_⟩ | fail
        refine ⟨fm_yes (fun p => restB' p h.now) (fun p : Party => p.id) h2 k0, ?_⟩
        repeat' first | exact trivial | refine ⟨rfl, ?_⟩ | fail
    · refine Ar.exact (by (try simp only [nc] at *); omega) (by (try simp only [nc] at *); omega) ?_
      cbv
      repeat (refine Pz.mk ?_; cbv)
      refine NextE.by (i + 1) ?_ ?_ ?_
      · show h.parties.length - (i + 1) < h.parties.length - i
        omega
      · exact h2
      · cbv
        repeat (refine Pz.mk ?_; cbv)
        repeat' first | exact trivial | refine ⟨rfl, ?_⟩ | fail
        refine ⟨fm_no (fun p => restB' p h.now) (fun p : Party => p.id) h2 k0, ?_⟩
        repeat' first | exact trivial | refine ⟨rfl, ?_⟩ | fail


set_option maxHeartbeats 1000000 in
theorem implNextOffer_ok (h : House) (k : Int) (hs : smallHo h) (x : Int) (hx : x = nextOffer h k) : Spec Tryz.prog 98 [hoA h, iA k] (Ret (iR fun _ => x)) := by
  refine spec_of tabOk Tryz.func98 rfl rfl (fr := true) (fun _ => by kernel_rfl) fun P hP hA => ?_
  cbv
  repeat (refine Pz.mk ?_; cbv)
  refine CallA.by hP (hasCabin_ok h k hs (hasCabB h k) rfl) ?_
  cbv
  repeat (refine Pz.mk ?_; cbv)
  refine Br.split (fun kc => ?_) (fun kc => ?_) <;> (cbv; repeat (refine Pz.mk ?_; cbv))
  · refine ⟨?_, trivial⟩
    have kc : (!hasCabB h k) = true := kc
    exact (hx.trans (if_neg (by intro q; rw [q] at kc; cases kc))).symm
  have kc : (!hasCabB h k) = false := kc
  have kc : hasCabB h k = true := by simpa using kc
  have kk := Bool.and_eq_true_iff.1 kc
  obtain ⟨n, hn, rfl, ec⟩ := cab_at kk.2
  have hk0 := kk.1
  have hx := hx.trans ((if_pos kc).trans (by rw [ec]))
  have hl : h.parties.length ≤ 40 := (houseOk_iff.1 hk0).few
  refine LoopE.by (X := Nat) (fun i => [(1, nT fun _ => n), (2, pN 0), (5, oN 1), (15, lA .pty h.parties), (16, nT fun _ => h.parties.length), (17, nT fun _ => i)]) (fun i => [(0, .box (hoC h)), (1, ownB' .int fun _ => idsOf (fun p => restB' p h.now) (h.parties.take i))]) (fun i => i ≤ h.parties.length) (fun i _ => h.parties.length - i) 0 (Nat.zero_le _) ?_ ?_
  · cbv
    repeat (refine Pz.mk ?_; cbv)
    repeat' first | exact trivial | refine ⟨rfl, ?_⟩ | fail
  · intro i hi
    cbv
    repeat (refine Pz.mk ?_; cbv)
    refine Br.dec (fun h2 => ?_) (fun h2 => ?_) <;> (cbv; repeat (refine Pz.mk ?_; cbv))
    rotate_left
    · have h2 : h.parties.length ≤ i := by simp at h2; omega
      have e : idsOf (fun p => restB' p h.now) (h.parties.take i) = idsOf (fun p => restB' p h.now) h.parties := by rw [List.take_of_length_le h2]
      refine ⟨h.cabins[n], by simp, get_cast h.cabins hn, ?_⟩
      cbv
      repeat (refine Pz.mk ?_; cbv)
      refine CallA.by hP (implFirstFit_ok h.cabins[n].row h.cabins[n].seats.free (idsOf (fun p => restB' p h.now) (h.parties.take i)) (fitAt h.cabins[n].row h.cabins[n].seats.free (skipOf h)) (by rw [e]; rfl)) ?_
      cbv
      repeat (refine Pz.mk ?_; cbv)
      refine Br.dec (fun k7 => ?_) (fun k7 => ?_) <;> (cbv; repeat (refine Pz.mk ?_; cbv))
      · refine ⟨?_, trivial⟩
        have k7 : fitAt h.cabins[n].row h.cabins[n].seats.free (skipOf h) < 0 := k7
        exact (hx.trans (if_pos k7)).symm
      have k7 : ¬ fitAt h.cabins[n].row h.cabins[n].seats.free (skipOf h) < 0 := k7
      rcases atOf_cases (fitB h.cabins[n].seats.free (skipOf h)) h.cabins[n].row with ⟨q, _⟩ | ⟨m, hm, q, _, _⟩
      · have q : fitAt h.cabins[n].row h.cabins[n].seats.free (skipOf h) = -1 := q
        omega
      have q : fitAt h.cabins[n].row h.cabins[n].seats.free (skipOf h) = (m : Int) := q
      have o0 : 0 ≤ fitAt h.cabins[n].row h.cabins[n].seats.free (skipOf h) := by omega
      have g0 : h.cabins[n].row[(fitAt h.cabins[n].row h.cabins[n].seats.free (skipOf h)).toNat]? = some h.cabins[n].row[m] := by rw [q, Int.toNat_natCast]; exact List.getElem?_eq_getElem hm
      refine ⟨h.cabins[n].row[m], o0, g0, ?_⟩
      cbv
      repeat (refine Pz.mk ?_; cbv)
      refine ⟨?_, trivial⟩
      exact (hx.trans ((if_neg k7).trans (by rw [g0]; rfl))).symm
    have h2 : i < h.parties.length := by simpa using h2
    have ob : ((idsOf (fun p => restB' p h.now) (h.parties.take i)).length + 1) * 8 ≤ 140737488355328 := by
      have := ids_len (fun p => restB' p h.now) (h.parties.take i)
      rw [List.length_take] at this
      omega
    refine ⟨h.parties[i], by simp, get_cast h.parties h2, ?_⟩
    cbv
    repeat (refine Pz.mk ?_; cbv)
    refine CallA.by hP (implResting_ok h.parties[i] h.now) ?_
    cbv
    repeat (refine Pz.mk ?_; cbv)
    refine Br.split (fun k0 => ?_) (fun k0 => ?_) <;> (cbv; repeat (refine Pz.mk ?_; cbv))
    · refine ⟨ob, ?_⟩
      cbv
      repeat (refine Pz.mk ?_; cbv)
      refine Ar.exact (by (try simp only [nc] at *); omega) (by (try simp only [nc] at *); omega) ?_
      cbv
      repeat (refine Pz.mk ?_; cbv)
      refine NextE.by (i + 1) ?_ ?_ ?_
      · show h.parties.length - (i + 1) < h.parties.length - i
        omega
      · exact h2
      · cbv
        repeat (refine Pz.mk ?_; cbv)
        repeat' first | exact trivial | refine ⟨rfl, ?_⟩ | fail
        refine ⟨fm_yes (fun p => restB' p h.now) (fun p : Party => p.id) h2 k0, ?_⟩
        repeat' first | exact trivial | refine ⟨rfl, ?_⟩ | fail
    · refine Ar.exact (by (try simp only [nc] at *); omega) (by (try simp only [nc] at *); omega) ?_
      cbv
      repeat (refine Pz.mk ?_; cbv)
      refine NextE.by (i + 1) ?_ ?_ ?_
      · show h.parties.length - (i + 1) < h.parties.length - i
        omega
      · exact h2
      · cbv
        repeat (refine Pz.mk ?_; cbv)
        repeat' first | exact trivial | refine ⟨rfl, ?_⟩ | fail
        refine ⟨fm_no (fun p => restB' p h.now) (fun p : Party => p.id) h2 k0, ?_⟩
        repeat' first | exact trivial | refine ⟨rfl, ?_⟩ | fail







end Go.Proofs.YtnenmkiabclncaaGreat
