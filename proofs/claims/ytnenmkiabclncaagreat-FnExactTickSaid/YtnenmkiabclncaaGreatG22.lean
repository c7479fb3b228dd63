/-
  Seats that are freed: the contracts of both sides. No conditions.
-/
import Derived.Test.YtnenmkiabclncaaGreatG16
import Derived.Test.YtnenmkiabclncaaGreatG20
import Derived.Test.YtnenmkiabclncaaGreatG19
import Derived.Test.YtnenmkiabclncaaGreatG07
import Derived.Test.YtnenmkiabclncaaGreatG21
set_option linter.unusedSimpArgs false
set_option linter.unusedVariables false

namespace Go.Proofs.YtnenmkiabclncaaGreat
open Go
set_option maxRecDepth 100000

theorem vd_zero {h : House} {q : Req} (hv : verdictOf h q = 0) : houseOkB h = true ∧ isIn q.kind 1 7 = true ∧ reqOk q = true := by
  cases h0 : houseOkB h with
  | false => rw [vd_bad h0] at hv; cases hv
  | true =>
    cases h1 : isIn q.kind 1 7 with
    | false => rw [vd_kind h0 h1] at hv; cases hv
    | true =>
      cases h2 : reqOk q with
      | false => rw [vd_form h0 h1 h2] at hv; cases hv
      | true => exact ⟨rfl, rfl, rfl⟩

def freeQ (k n : Int) : Req := ⟨3, 0, k, 0, n, 0⟩
def seatsIn (h : House) (k : Int) (n df dh ds dt : Int) : List Cabin := h.cabins.set k.toNat { cabOf h k with seats := seatsOf (cabOf h k).seats n df dh ds dt }
def freeTo (h : House) (k n : Int) : House := { h with cabins := seatsIn h k n 1 0 (-1) 0, todo := todoPut h.todo k }
def freeSeats (h : House) (k n : Int) : House := if verdictOf h (freeQ k n) = 0 then freeTo h k n else h

theorem free_at {h : House} {k n : Int} (hv : verdictOf h (freeQ k n) = 0) : ∃ i : Nat, i < h.cabins.length ∧ k = (i : Int) := by
  obtain ⟨h0, h1, h2⟩ := vd_zero hv
  rw [vd_free h0 h2 rfl, freeV] at hv
  cases h3 : inHouse h k with
  | false => rw [if_pos (show inHouse h (freeQ k n).cab = false from h3)] at hv; cases hv
  | true =>
    have := isIn_ok h3
    exact ⟨k.toNat, by omega, by omega⟩

set_option maxHeartbeats 1000000 in
theorem l14Free_ok (h : House) (k : Nat) (hk : k < h.cabins.length) (n : Int) (ht : h.todo.length ≤ bigN) : SpecM Tryz.prog 95 [hoO h, nT fun _ => k, iA n] (hoBs h) (RetM (hoR fun _ => freeTo h (k : Int) n) []) := by
  have oi : 0 ≤ (k : Int) ∧ (k : Int) < (h.cabins.length : Int) := by omega
  refine specM_of tabOk Tryz.func95 rfl rfl (fr := true) (fun _ => by kernel_rfl) rfl rfl fun P hP hA hB => ?_
  cbv
  repeat (refine Pz.mk ?_; cbv)
  repeat' first
    | exact trivial
    | (refine Ob.mk (oi) ?_; cbv; repeat (refine Pz.mk ?_; cbv))
    | (refine CallA.by hP (specSeatsFree_ok (h.cabins.getD ((k : Int)).toNat default).seats n (seatsOf (cabOf h (k : Int)).seats n 1 0 (-1) 0) rfl (seatsB (cabOf h (k : Int)).seats n 1 0 (-1) 0) rfl) ?_; cbv; repeat (refine Pz.mk ?_; cbv))
    | (refine Sv.mk (fun _ => (freeTo h (k : Int) n).cabins) (rfl) ?_; cbv; repeat (refine Pz.mk ?_; cbv))
    | (refine CallA.by hP (specTodoPut_ok h.todo (k : Int) ht (todoPut h.todo (k : Int)) rfl) ?_; cbv; repeat (refine Pz.mk ?_; cbv))
    | (refine Pz.mk ?_; cbv)
    | (refine TabG.mk ?_ (by kernel_rfl) ?_; rotate_left; cbv; rotate_right)
    | refine ⟨rfl, ?_⟩
    | refine And.intro ?_ ?_
    | exact rfl
    | fail

set_option maxHeartbeats 1000000 in
theorem specFreeSeats_ok (h : House) (k n : Int) (hs : smallHo h) (x : House) (hx : x = freeSeats h k n) (c : Int) (hc : c = verdictOf h (freeQ k n)) : Spec Tryz.prog 35 [hoA h, iA k, iA n] (Ret (.tup [(true, hoS fun _ => x), (false, [.int .i64 fun _ => c])])) := by
  refine spec_of tabOk Tryz.func35 rfl rfl (fr := true) (fun _ => by kernel_rfl) fun P hP hA => ?_
  cbv
  repeat (refine Pz.mk ?_; cbv)
  refine CallA.by hP (l11Copy_ok h hs) ?_
  cbv
  repeat (refine Pz.mk ?_; cbv)
  refine CallA.by hP (specVerdict_ok h (freeQ k n) hs c hc) ?_
  cbv
  repeat (refine Pz.mk ?_; cbv)
  refine Br.split (fun k0 => ?_) (fun k0 => ?_) <;> (cbv; repeat (refine Pz.mk ?_; cbv))
  · have k0 : (c != 0) = true := k0
    have k0 : ¬ c = 0 := by simpa using k0
    obtain rfl : x = h := hx.trans (if_neg (by rw [← hc]; exact k0))
    repeat' first | exact trivial | refine ⟨rfl, ?_⟩ | fail
  have k0 : (c != 0) = false := k0
  obtain rfl : c = 0 := by simpa using k0
  obtain ⟨i, hi, rfl⟩ := free_at hc.symm
  obtain rfl : x = freeTo h (i : Int) n := hx.trans (if_pos hc.symm)
  refine CallM.by hP (l14Free_ok h i hi n hs.2.2.2.1) ?_
  cbv
  repeat (refine Pz.mk ?_; cbv)
  repeat' first | exact trivial | refine ⟨rfl, ?_⟩ | fail

set_option maxHeartbeats 1000000 in
theorem implFreeSeats_ok (h : House) (k n : Int) (hs : smallHo h) (x : House) (hx : x = freeSeats h k n) (c : Int) (hc : c = verdictOf h (freeQ k n)) : Spec Tryz.prog 36 [hoA h, iA k, iA n] (Ret (.tup [(true, hoS fun _ => x), (false, [.int .i64 fun _ => c])])) := by
  refine spec_of tabOk Tryz.func36 rfl rfl (fr := true) (fun _ => by kernel_rfl) fun P hP hA => ?_
  cbv
  repeat (refine Pz.mk ?_; cbv)
  refine CallA.by hP (copyHouse_ok h hs) ?_
  cbv
  repeat (refine Pz.mk ?_; cbv)
  refine CallA.by hP (implVerdict_ok h (freeQ k n) hs c hc) ?_
  cbv
  repeat (refine Pz.mk ?_; cbv)
  refine Br.split (fun k0 => ?_) (fun k0 => ?_) <;> (cbv; repeat (refine Pz.mk ?_; cbv))
  · have k0 : (c != 0) = true := k0
    have k0 : ¬ c = 0 := by simpa using k0
    obtain rfl : x = h := hx.trans (if_neg (by rw [← hc]; exact k0))
    repeat' first | exact trivial | refine ⟨rfl, ?_⟩ | fail
  have k0 : (c != 0) = false := k0
  obtain rfl : c = 0 := by simpa using k0
  obtain ⟨i, hi, rfl⟩ := free_at hc.symm
  obtain rfl : x = freeTo h (i : Int) n := hx.trans (if_pos hc.symm)
  have oi : 0 ≤ (i : Int) ∧ (i : Int) < (h.cabins.length : Int) := by omega
  repeat' first
    | exact trivial
    | (refine Ob.mk (oi) ?_; cbv; repeat (refine Pz.mk ?_; cbv))
    | (refine CallA.by hP (implSeatsFree_ok (h.cabins.getD ((i : Int)).toNat default).seats n (seatsOf (cabOf h (i : Int)).seats n 1 0 (-1) 0) rfl (seatsB (cabOf h (i : Int)).seats n 1 0 (-1) 0) rfl) ?_; cbv; repeat (refine Pz.mk ?_; cbv))
    | (refine Sv.mk (fun _ => (freeTo h (i : Int) n).cabins) (rfl) ?_; cbv; repeat (refine Pz.mk ?_; cbv))
    | (refine CallA.by hP (implTodoPut_ok h.todo (i : Int) hs.2.2.2.1 (todoPut h.todo (i : Int)) rfl) ?_; cbv; repeat (refine Pz.mk ?_; cbv))
    | (refine Pz.mk ?_; cbv)
    | (refine TabG.mk ?_ (by kernel_rfl) ?_; rotate_left; cbv; rotate_right)
    | refine ⟨rfl, ?_⟩
    | refine And.intro ?_ ?_
    | exact rfl
    | fail

end Go.Proofs.YtnenmkiabclncaaGreat

/-
  Ticks: the contracts of both sides. No conditions.
-/
namespace Go.Proofs.YtnenmkiabclncaaGreat
open Go
set_option maxRecDepth 100000

def tickQ : Req := ⟨6, 0, 0, 0, 0, 0⟩
def tickCab (h : House) (k : Nat) (c : Cabin) : Cabin := { c with row := queueOf h.rules h.parties (k : Int) (h.now + 1) }
def tickCabs (h : House) (i : Nat) : List Cabin := h.cabins.mapIdx fun k c => if k < i then tickCab h k c else c
def tickTodo (h : House) : Nat → List Int
  | 0 => h.todo
  | i + 1 => if cntOf h (i : Int) > 0 then todoPut (tickTodo h i) (i : Int) else tickTodo h i
def tickTo (h : House) (i : Nat) : House := { h with now := h.now + 1, cabins := tickCabs h i, todo := tickTodo h i }
def tickOf (h : House) : House := if verdictOf h tickQ = 0 then tickTo h h.cabins.length else h

theorem tickCabs_len (h : House) (i : Nat) : (tickCabs h i).length = h.cabins.length := by simp [tickCabs]
theorem tickCabs_zero (h : House) : tickCabs h 0 = h.cabins := by
  apply List.ext_getElem?
  intro j
  simp [tickCabs]
theorem tickCabs_at (h : House) {i : Nat} (hi : i < h.cabins.length) : (tickCabs h i).getD i default = h.cabins[i] := by
  rw [List.getD_eq_getElem?_getD, List.getElem?_eq_getElem (by rw [tickCabs_len]; exact hi)]
  simp [tickCabs]
theorem tickCabs_step (h : House) {i : Nat} (hi : i < h.cabins.length) : (tickCabs h i).set i (tickCab h i ((tickCabs h i).getD i default)) = tickCabs h (i + 1) := by
  rw [tickCabs_at h hi]
  apply List.ext_getElem?
  intro j
  rw [List.getElem?_set, tickCabs_len]
  by_cases e : i = j
  · subst e
    rw [if_pos rfl, if_pos hi]
    simp [tickCabs, hi]
  · rw [if_neg e]
    simp only [tickCabs, List.getElem?_mapIdx]
    cases hj : h.cabins[j]? with
    | none => rfl
    | some c =>
      simp only [Option.map_some]
      congr 1
      by_cases q : j < i
      · rw [if_pos q, if_pos (by omega)]
      · rw [if_neg q, if_neg (by omega)]

theorem todoPut_len (l : List Int) (k : Int) : (todoPut l k).length ≤ l.length + 1 := by
  unfold todoPut; split
  · omega
  · simp
theorem tickTodo_len (h : House) : ∀ i, (tickTodo h i).length ≤ h.todo.length + i
  | 0 => Nat.le_refl _
  | i + 1 => by
    have ih := tickTodo_len h i
    rw [tickTodo]; split
    · have := todoPut_len (tickTodo h i) (i : Int); omega
    · omega
theorem tickTodo_yes (h : House) {i : Nat} (q : cntOf h (i : Int) > 0) : todoPut (tickTodo h i) (i : Int) = tickTodo h (i + 1) := (if_pos q).symm
theorem tickTodo_no (h : House) {i : Nat} (q : ¬ cntOf h (i : Int) > 0) : tickTodo h i = tickTodo h (i + 1) := (if_neg q).symm

set_option maxHeartbeats 2000000 in
theorem specTick_ok (h : House) (hs : smallHo h) (x : House) (hx : x = tickOf h) (c : Int) (hc : c = verdictOf h tickQ) : Spec Tryz.prog 32 [hoA h] (Ret (.tup [(true, hoS fun _ => x), (false, [.int .i64 fun _ => c])])) := by
  have s1 := hs.1
  have s2 := hs.2.1
  have s4 : h.todo.length ≤ 1048576 := hs.2.2.2.1
  refine spec_of tabOk Tryz.func32 rfl rfl (fr := true) (fun _ => by kernel_rfl) fun P hP hA => ?_
  cbv
  repeat (refine Pz.mk ?_; cbv)
  refine CallA.by hP (l11Copy_ok h hs) ?_
  cbv
  repeat (refine Pz.mk ?_; cbv)
  refine CallA.by hP (specVerdict_ok h tickQ hs c hc) ?_
  cbv
  repeat (refine Pz.mk ?_; cbv)
  refine Br.split (fun k0 => ?_) (fun k0 => ?_) <;> (cbv; repeat (refine Pz.mk ?_; cbv))
  · have k0 : (c != 0) = true := k0
    have k0 : ¬ c = 0 := by simpa using k0
    obtain rfl : x = h := hx.trans (if_neg (by rw [← hc]; exact k0))
    repeat' first | exact trivial | refine ⟨rfl, ?_⟩ | fail
  have k0 : (c != 0) = false := k0
  obtain rfl : c = 0 := by simpa using k0
  obtain rfl : x = tickTo h h.cabins.length := hx.trans (if_pos hc.symm)
  have hg := houseOk_iff.1 (vd_zero hc.symm).1
  have hn := isIn_ok hg.now
  have hcl := hg.cabs
  have hc4 := (ruG hg.rules).len
  refine Ar.exact (by (try simp only [nc] at *); omega) (by (try simp only [nc] at *); omega) ?_
  cbv
  repeat (refine Pz.mk ?_; cbv)
  refine LoopE.by (X := Nat) (fun i => [(2, pN 0), (4, pN 1), (6, nT fun _ => i)]) (fun i => [(0, .box [.nil, .lf (.int .i64 fun _ => 0), .lf (.int .i64 fun _ => 0), .lf (.int .i64 fun _ => 0), .lf (.int .i64 fun _ => 0), .lf (.int .i64 fun _ => 0), .lf (.int .i64 fun _ => 0), .lf (.int .i64 fun _ => 0), .lf (.int .i64 fun _ => 0), .lf (.int .i64 fun _ => 0), .lf (.int .i64 fun _ => 0), .nil, .nil, .nil, .nil]), (1, .box [.own 2, .lf (.int .i64 fun _ => h.rules.tiers), .lf (.int .i64 fun _ => h.rules.room), .lf (.int .i64 fun _ => h.rules.size), .lf (.int .i64 fun _ => h.rules.period), .lf (.int .i64 fun _ => h.rules.window), .lf (.int .i64 fun _ => h.rules.rest), .lf (.int .i64 fun _ => h.rules.tries), .lf (.int .i64 fun _ => h.rules.crew), .lf (.int .i64 fun _ => h.now + 1), .lf (.int .i64 fun _ => h.turn), .own 3, .own 4, .own 5, .own 6]), (2, ownB' .int fun _ => h.rules.seats), (3, ownB' .pty fun _ => h.parties), (4, ownB' .cab fun _ => tickCabs h i), (5, ownB' .int fun _ => tickTodo h i), (6, ownB' .int fun _ => h.jobs)]) (fun i => i ≤ h.cabins.length) (fun i _ => h.cabins.length - i) 0 (Nat.zero_le _) ?_ ?_
  · cbv
    repeat (refine Pz.mk ?_; cbv)
    repeat' first | exact trivial | refine ⟨rfl, ?_⟩ | refine ⟨(tickCabs_zero h).symm, ?_⟩ | fail
  · intro i hi
    have tl := tickCabs_len h i
    cbv
    repeat (refine Pz.mk ?_; cbv)
    refine Br.dec (fun h2 => ?_) (fun h2 => ?_) <;> (cbv; repeat (refine Pz.mk ?_; cbv))
    rotate_left
    · have h2 : h.cabins.length ≤ i := by simp [tickCabs_len] at h2; omega
      obtain rfl : i = h.cabins.length := Nat.le_antisymm hi h2
      repeat' first | exact trivial | refine ⟨rfl, ?_⟩ | fail
    have h2 : i < h.cabins.length := by simpa [tickCabs_len] using h2
    have q1 := queue_few hg h2 (h.now + 1)
    have oi : 0 ≤ (i : Int) ∧ (i : Int) < ((tickCabs h i).length : Int) := by omega
    have st : (tickCabs h i).set ((i : Int)).toNat (tickCab h i ((tickCabs h i).getD ((i : Int)).toNat default)) = tickCabs h (i + 1) := by rw [Int.toNat_natCast]; exact tickCabs_step h h2
    have lt := tickTodo_len h i
    have lf := todo_few hg
    repeat' first
      | exact trivial
      | (refine CallA.by hP (specQueueOf_ok h.rules h.parties (i : Int) (h.now + 1) s1 s2) ?_; cbv; repeat (refine Pz.mk ?_; cbv))
      | (refine Ob.mk (oi) ?_; cbv; repeat (refine Pz.mk ?_; cbv))
      | (refine Sv.mk (fun _ => tickCabs h (i + 1)) (st) ?_; cbv; repeat (refine Pz.mk ?_; cbv))
      | (refine CallA.by hP (specCountIn_ok h.parties (i : Int) s2) ?_; cbv; repeat (refine Pz.mk ?_; cbv))
      | (refine Pz.mk ?_; cbv)
      | (refine TabG.mk ?_ (by kernel_rfl) ?_; rotate_left; cbv; rotate_right)
      | refine ⟨rfl, ?_⟩
      | refine And.intro ?_ ?_
      | exact rfl
      | fail
    refine Br.dec (fun h3 => ?_) (fun h3 => ?_) <;> (cbv; repeat (refine Pz.mk ?_; cbv))
    · have h3 : cntOf h (i : Int) > 0 := h3
      refine CallA.by hP (specTodoPut_ok (tickTodo h i) (i : Int) (by show _ ≤ 1048576; omega) (tickTodo h (i + 1)) (tickTodo_yes h h3).symm) ?_
      cbv
      repeat (refine Pz.mk ?_; cbv)
      refine Ar.exact (by (try simp only [nc] at *); omega) (by (try simp only [nc] at *); omega) ?_
      cbv
      repeat (refine Pz.mk ?_; cbv)
      refine NextE.by (i + 1) ?_ ?_ ?_
      · show h.cabins.length - (i + 1) < h.cabins.length - i
        omega
      · exact h2
      · cbv
        repeat (refine Pz.mk ?_; cbv)
        repeat' first | exact trivial | refine ⟨rfl, ?_⟩ | fail
    · have h3 : ¬ cntOf h (i : Int) > 0 := h3
      refine Ar.exact (by (try simp only [nc] at *); omega) (by (try simp only [nc] at *); omega) ?_
      cbv
      repeat (refine Pz.mk ?_; cbv)
      refine NextE.by (i + 1) ?_ ?_ ?_
      · show h.cabins.length - (i + 1) < h.cabins.length - i
        omega
      · exact h2
      · cbv
        repeat (refine Pz.mk ?_; cbv)
        repeat' first | exact trivial | refine ⟨rfl, ?_⟩ | refine ⟨tickTodo_no h h3, ?_⟩ | fail

set_option maxHeartbeats 2000000 in
theorem implTick_ok (h : House) (hs : smallHo h) (x : House) (hx : x = tickOf h) (c : Int) (hc : c = verdictOf h tickQ) : Spec Tryz.prog 33 [hoA h] (Ret (.tup [(true, hoS fun _ => x), (false, [.int .i64 fun _ => c])])) := by
  have s1 := hs.1
  have s2 := hs.2.1
  have s4 : h.todo.length ≤ 1048576 := hs.2.2.2.1
  refine spec_of tabOk Tryz.func33 rfl rfl (fr := true) (fun _ => by kernel_rfl) fun P hP hA => ?_
  cbv
  repeat (refine Pz.mk ?_; cbv)
  refine CallA.by hP (copyHouse_ok h hs) ?_
  cbv
  repeat (refine Pz.mk ?_; cbv)
  refine CallA.by hP (implVerdict_ok h tickQ hs c hc) ?_
  cbv
  repeat (refine Pz.mk ?_; cbv)
  refine Br.split (fun k0 => ?_) (fun k0 => ?_) <;> (cbv; repeat (refine Pz.mk ?_; cbv))
  · have k0 : (c != 0) = true := k0
    have k0 : ¬ c = 0 := by simpa using k0
    obtain rfl : x = h := hx.trans (if_neg (by rw [← hc]; exact k0))
    repeat' first | exact trivial | refine ⟨rfl, ?_⟩ | fail
  have k0 : (c != 0) = false := k0
  obtain rfl : c = 0 := by simpa using k0
  obtain rfl : x = tickTo h h.cabins.length := hx.trans (if_pos hc.symm)
  have hg := houseOk_iff.1 (vd_zero hc.symm).1
  have hn := isIn_ok hg.now
  have hcl := hg.cabs
  have hc4 := (ruG hg.rules).len
  refine Ar.exact (by (try simp only [nc] at *); omega) (by (try simp only [nc] at *); omega) ?_
  cbv
  repeat (refine Pz.mk ?_; cbv)
  refine LoopE.by (X := Nat) (fun i => [(2, pN 0), (4, pN 1), (22, nT fun _ => h.cabins.length), (23, nT fun _ => i)]) (fun i => [(0, .box [.nil, .lf (.int .i64 fun _ => 0), .lf (.int .i64 fun _ => 0), .lf (.int .i64 fun _ => 0), .lf (.int .i64 fun _ => 0), .lf (.int .i64 fun _ => 0), .lf (.int .i64 fun _ => 0), .lf (.int .i64 fun _ => 0), .lf (.int .i64 fun _ => 0), .lf (.int .i64 fun _ => 0), .lf (.int .i64 fun _ => 0), .nil, .nil, .nil, .nil]), (1, .box [.own 2, .lf (.int .i64 fun _ => h.rules.tiers), .lf (.int .i64 fun _ => h.rules.room), .lf (.int .i64 fun _ => h.rules.size), .lf (.int .i64 fun _ => h.rules.period), .lf (.int .i64 fun _ => h.rules.window), .lf (.int .i64 fun _ => h.rules.rest), .lf (.int .i64 fun _ => h.rules.tries), .lf (.int .i64 fun _ => h.rules.crew), .lf (.int .i64 fun _ => h.now + 1), .lf (.int .i64 fun _ => h.turn), .own 3, .own 4, .own 5, .own 6]), (2, ownB' .int fun _ => h.rules.seats), (3, ownB' .pty fun _ => h.parties), (4, ownB' .cab fun _ => tickCabs h i), (5, ownB' .int fun _ => tickTodo h i), (6, ownB' .int fun _ => h.jobs)]) (fun i => i ≤ h.cabins.length) (fun i _ => h.cabins.length - i) 0 (Nat.zero_le _) ?_ ?_
  · cbv
    repeat (refine Pz.mk ?_; cbv)
    repeat' first | exact trivial | refine ⟨rfl, ?_⟩ | refine ⟨(tickCabs_zero h).symm, ?_⟩ | fail
  · intro i hi
    have tl := tickCabs_len h i
    cbv
    repeat (refine Pz.mk ?_; cbv)
    refine Br.dec (fun h2 => ?_) (fun h2 => ?_) <;> (cbv; repeat (refine Pz.mk ?_; cbv))
    rotate_left
    · have h2 : h.cabins.length ≤ i := by simp [tickCabs_len] at h2; omega
      obtain rfl : i = h.cabins.length := Nat.le_antisymm hi h2
      repeat' first | exact trivial | refine ⟨rfl, ?_⟩ | fail
    have h2 : i < h.cabins.length := by simpa [tickCabs_len] using h2
    have q1 := queue_few hg h2 (h.now + 1)
    have oi : 0 ≤ (i : Int) ∧ (i : Int) < ((tickCabs h i).length : Int) := by omega
    have st : (tickCabs h i).set ((i : Int)).toNat (tickCab h i ((tickCabs h i).getD ((i : Int)).toNat default)) = tickCabs h (i + 1) := by rw [Int.toNat_natCast]; exact tickCabs_step h h2
    have lt := tickTodo_len h i
    have lf := todo_few hg
    repeat' first
      | exact trivial
      | (refine CallA.by hP (implQueueOf_ok h.rules h.parties (i : Int) (h.now + 1) s1 s2 q1) ?_; cbv; repeat (refine Pz.mk ?_; cbv))
      | (refine Ob.mk (oi) ?_; cbv; repeat (refine Pz.mk ?_; cbv))
      | (refine Sv.mk (fun _ => tickCabs h (i + 1)) (st) ?_; cbv; repeat (refine Pz.mk ?_; cbv))
      | (refine CallA.by hP (implCountIn_ok h.parties (i : Int) s2) ?_; cbv; repeat (refine Pz.mk ?_; cbv))
      | (refine Pz.mk ?_; cbv)
      | (refine TabG.mk ?_ (by kernel_rfl) ?_; rotate_left; cbv; rotate_right)
      | refine ⟨rfl, ?_⟩
      | refine And.intro ?_ ?_
      | exact rfl
      | fail
    refine Br.dec (fun h3 => ?_) (fun h3 => ?_) <;> (cbv; repeat (refine Pz.mk ?_; cbv))
    · have h3 : cntOf h (i : Int) > 0 := h3
      refine CallA.by hP (implTodoPut_ok (tickTodo h i) (i : Int) (by show _ ≤ 1048576; omega) (tickTodo h (i + 1)) (tickTodo_yes h h3).symm) ?_
      cbv
      repeat (refine Pz.mk ?_; cbv)
      refine Ar.exact (by (try simp only [nc] at *); omega) (by (try simp only [nc] at *); omega) ?_
      cbv
      repeat (refine Pz.mk ?_; cbv)
      refine NextE.by (i + 1) ?_ ?_ ?_
      · show h.cabins.length - (i + 1) < h.cabins.length - i
        omega
      · exact h2
      · cbv
        repeat (refine Pz.mk ?_; cbv)
        repeat' first | exact trivial | refine ⟨rfl, ?_⟩ | fail
    · have h3 : ¬ cntOf h (i : Int) > 0 := h3
      refine Ar.exact (by (try simp only [nc] at *); omega) (by (try simp only [nc] at *); omega) ?_
      cbv
      repeat (refine Pz.mk ?_; cbv)
      refine NextE.by (i + 1) ?_ ?_ ?_
      · show h.cabins.length - (i + 1) < h.cabins.length - i
        omega
      · exact h2
      · cbv
        repeat (refine Pz.mk ?_; cbv)
        repeat' first | exact trivial | refine ⟨rfl, ?_⟩ | refine ⟨tickTodo_no h h3, ?_⟩ | fail

end Go.Proofs.YtnenmkiabclncaaGreat

/-
  The exact laws on what returns houses: freed seats, ticks. No conditions.
-/
namespace Go.Proofs.YtnenmkiabclncaaGreat
open Go
set_option maxRecDepth 100000

theorem zHo_le2 {a : House} (h1 : a.rules.seats.length ≤ bigN) (h2 : a.parties.length ≤ bigN) (hc : smallCabs a.cabins) (h4 : a.todo.length ≤ bigN + 4) (h5 : a.jobs.length ≤ bigN) : zHo a ≤ 4600000000000000000 := by
  have e1 : a.rules.seats.length ≤ 1048576 := h1
  have e4 : a.todo.length ≤ 1048576 + 4 := h4
  have e5 : a.jobs.length ≤ 1048576 := h5
  have e2 := zAll_le zPty 10 1048576 a.parties (fun _ _ => Nat.le_refl 10) h2
  have e3 := zAll_le zCab (5 + 1048576 * 4 + 1048576 * (1048576 * 2)) 1048576 a.cabins (fun c hx => by
    have q := hc.2 c hx
    have f1 := zAll_le zEnt 4 1048576 c.row (fun _ _ => Nat.le_refl 4) q.1
    have f2 := zAll_le zPinS (1048576 * 2) 1048576 c.spoke (fun x hx => zAll_le zPin 2 1048576 x (fun _ _ => Nat.le_refl 2) (q.2.2 x hx)) q.2.1
    show 5 + zAll zEnt c.row + zAll zPinS c.spoke ≤ _
    omega) hc.1
  show a.rules.seats.length + zAll zPty a.parties + zAll zCab a.cabins + a.todo.length + a.jobs.length ≤ _
  omega

theorem smallCabs_set {l : List Cabin} (h : smallCabs l) {i : Nat} {c : Cabin} (hc : smallCab c) : smallCabs (l.set i c) := by
  refine ⟨by rw [List.length_set]; exact h.1, fun x hx => ?_⟩
  rcases List.mem_or_eq_of_mem_set hx with q | q
  · exact h.2 x q
  · exact q ▸ hc
theorem small_cabOf {h : House} (hs : smallCabs h.cabins) (k : Int) : smallCab (cabOf h k) := by
  unfold cabOf
  cases q : h.cabins[k.toNat]? with
  | none => exact ⟨Nat.zero_le _, Nat.zero_le _, fun y hy => by cases hy⟩
  | some c => exact hs.2 c (List.mem_of_getElem? q)

theorem free_small {h : House} (hs : smallHo h) (k n : Int) : smallCabs (freeSeats h k n).cabins ∧ zHo (freeSeats h k n) ≤ 4600000000000000000 := by
  unfold freeSeats; split
  · have e : smallCabs (freeTo h k n).cabins := smallCabs_set hs.2.2.1 (by have := small_cabOf hs.2.2.1 k; exact this)
    refine ⟨e, zHo_le2 hs.1 hs.2.1 e ?_ hs.2.2.2.2⟩
    have h1 := todoPut_len h.todo k
    have h2 : h.todo.length ≤ bigN := hs.2.2.2.1
    show (todoPut h.todo k).length ≤ bigN + 4
    omega
  · exact ⟨hs.2.2.1, zHo_le hs⟩

theorem tick_small {h : House} (hs : smallHo h) : smallCabs (tickOf h).cabins ∧ zHo (tickOf h) ≤ 4600000000000000000 := by
  unfold tickOf; split
  · rename_i hv
    have hg := houseOk_iff.1 (vd_zero hv).1
    have e : smallCabs (tickTo h h.cabins.length).cabins := by
      refine ⟨by show (tickCabs h h.cabins.length).length ≤ _; rw [tickCabs_len]; exact hs.2.2.1.1, fun c hc => ?_⟩
      obtain ⟨j, hj⟩ := List.mem_iff_getElem?.1 hc
      have hj : (tickCabs h h.cabins.length)[j]? = some c := hj
      simp only [tickCabs, List.getElem?_mapIdx] at hj
      cases q : h.cabins[j]? with
      | none => rw [q] at hj; cases hj
      | some d =>
        rw [q] at hj
        have hl := lt_of_get q
        have hd := hs.2.2.1.2 d (List.mem_of_getElem? q)
        simp only [Option.map_some, if_pos hl, Option.some.injEq] at hj
        subst hj
        refine ⟨?_, hd.2⟩
        have := queue_few hg hl (h.now + 1)
        show (queueOf h.rules h.parties (j : Int) (h.now + 1)).length ≤ 1048576
        rw [queueOf, sortR_len]; omega
    refine ⟨e, zHo_le2 hs.1 hs.2.1 e ?_ hs.2.2.2.2⟩
    have h1 := tickTodo_len h h.cabins.length
    have h2 : h.todo.length ≤ bigN := hs.2.2.2.1
    have h3 := hg.cabs
    have h4 := (ruG hg.rules).len
    show (tickTodo h h.cabins.length).length ≤ bigN + 4
    omega
  · exact ⟨hs.2.2.1, zHo_le hs⟩

set_option maxHeartbeats 4000000 in
theorem lawFreeSeats_ok (x : House) (k n : Int) : Spec Tryz.prog 7 [hoA x, iA k, iA n] (Ret (bR fun _ => true)) := by
  refine spec_of tabOk Tryz.func7 rfl rfl (fr := true) (fun _ => by kernel_rfl) fun P hP hA => ?_
  cbv
  repeat (refine Pz.mk ?_; cbv)
  refine CallA.ex hP (szHouse_ok x 1048576 (by omega) (by omega)) fun r hr => ?_
  cbv
  repeat (refine Pz.mk ?_; cbv)
  refine Br.dec (fun h => ?_) (fun h => ?_) <;> (cbv; repeat (refine Pz.mk ?_; cbv))
  · exact ⟨rfl, trivial⟩
  have h0 : 0 ≤ r := by have h : ¬ r < 0 := h; omega
  have hs : smallHo x := hr.ok h0
  have hz := zHo_le hs
  have sm := free_small hs k n
  have sz := sm.2
  repeat' first
    | exact trivial
    | exact ⟨rfl, trivial⟩
    | exact ⟨rfl, rfl⟩
    | (refine CallA.by hP (toHouse_ok x hs) ?_; cbv; repeat (refine Pz.mk ?_; cbv))
    | (refine CallA.by hP (specFreeSeats_ok x k n hs (freeSeats x k n) rfl (verdictOf x (freeQ k n)) rfl) ?_; cbv; repeat (refine Pz.mk ?_; cbv))
    | (refine CallA.by hP (implFreeSeats_ok x k n hs (freeSeats x k n) rfl (verdictOf x (freeQ k n)) rfl) ?_; cbv; repeat (refine Pz.mk ?_; cbv))
    | (refine CallA.by hP (eqHouse_ok x x) ?_; cbv; repeat (refine Pz.mk ?_; cbv))
    | (refine CallA.by hP (eqHouse_ok (freeSeats x k n) (freeSeats x k n)) ?_; cbv; repeat (refine Pz.mk ?_; cbv))
    | (refine CallM.byE hP (markHouse_ok x 1 hs.2.2.1 (by omega)) rfl rfl ?_; cbv; repeat (refine Pz.mk ?_; cbv))
    | (refine CallM.byE hP (markHouse_ok (freeSeats x k n) 1 sm.1 (by omega)) rfl rfl ?_; cbv; repeat (refine Pz.mk ?_; cbv))
    | (refine CallA.byE hP (heldHouse_ok (freeSeats x k n) 1 sm.1 (by omega)) rfl ?_; cbv; repeat (refine Pz.mk ?_; cbv))
    | (refine Br.split (fun h => ?_) (fun h => ?_) <;> (cbv; repeat (refine Pz.mk ?_; cbv)))
    | exact (neg_no h).elim
    | (exfalso; simp at h; done)
    | refine And.intro ?_ ?_

set_option maxHeartbeats 4000000 in
theorem lawTick_ok (x : House) : Spec Tryz.prog 6 [hoA x] (Ret (bR fun _ => true)) := by
  refine spec_of tabOk Tryz.func6 rfl rfl (fr := true) (fun _ => by kernel_rfl) fun P hP hA => ?_
  cbv
  repeat (refine Pz.mk ?_; cbv)
  refine CallA.ex hP (szHouse_ok x 1048576 (by omega) (by omega)) fun r hr => ?_
  cbv
  repeat (refine Pz.mk ?_; cbv)
  refine Br.dec (fun h => ?_) (fun h => ?_) <;> (cbv; repeat (refine Pz.mk ?_; cbv))
  · exact ⟨rfl, trivial⟩
  have h0 : 0 ≤ r := by have h : ¬ r < 0 := h; omega
  have hs : smallHo x := hr.ok h0
  have hz := zHo_le hs
  have sm := tick_small hs
  have sz := sm.2
  repeat' first
    | exact trivial
    | exact ⟨rfl, trivial⟩
    | exact ⟨rfl, rfl⟩
    | (refine CallA.by hP (toHouse_ok x hs) ?_; cbv; repeat (refine Pz.mk ?_; cbv))
    | (refine CallA.by hP (specTick_ok x hs (tickOf x) rfl (verdictOf x tickQ) rfl) ?_; cbv; repeat (refine Pz.mk ?_; cbv))
    | (refine CallA.by hP (implTick_ok x hs (tickOf x) rfl (verdictOf x tickQ) rfl) ?_; cbv; repeat (refine Pz.mk ?_; cbv))
    | (refine CallA.by hP (eqHouse_ok x x) ?_; cbv; repeat (refine Pz.mk ?_; cbv))
    | (refine CallA.by hP (eqHouse_ok (tickOf x) (tickOf x)) ?_; cbv; repeat (refine Pz.mk ?_; cbv))
    | (refine CallM.byE hP (markHouse_ok x 1 hs.2.2.1 (by omega)) rfl rfl ?_; cbv; repeat (refine Pz.mk ?_; cbv))
    | (refine CallM.byE hP (markHouse_ok (tickOf x) 1 sm.1 (by omega)) rfl rfl ?_; cbv; repeat (refine Pz.mk ?_; cbv))
    | (refine CallA.byE hP (heldHouse_ok (tickOf x) 1 sm.1 (by omega)) rfl ?_; cbv; repeat (refine Pz.mk ?_; cbv))
    | (refine Br.split (fun h => ?_) (fun h => ?_) <;> (cbv; repeat (refine Pz.mk ?_; cbv)))
    | exact (neg_no h).elim
    | (exfalso; simp at h; done)
    | refine And.intro ?_ ?_

end Go.Proofs.YtnenmkiabclncaaGreat
