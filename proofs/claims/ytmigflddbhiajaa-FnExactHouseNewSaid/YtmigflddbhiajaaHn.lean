/-
  New ledgers, wheels, cabins, houses: the contracts of HouseNew and of the law on it. No conditions.
-/
import Derived.Test.YtmigflddbhiajaaMn
import Derived.Test.YtmigflddbhiajaaBa
namespace Go.Proofs.Ytmigflddbhiajaa
open Go
set_option maxRecDepth 100000

theorem and_no {a : Bool} (h : a = false) (b : Bool) : (a && b) = false := by simp [h]

def ledOkB (x : Ledger) : Bool := isIn x.total 1 60 && (isIn x.free 0 x.total && (isIn x.held 0 x.total && (isIn x.sold 0 x.total && (decide (x.free + x.held + x.sold = x.total) && isIn x.tied 0 x.sold))))

theorem specLedgerOk_ok (x : Ledger) (b : Bool) (hb : b = ledOkB x) : Spec Try.prog 44 [leA x] (Ret (bR fun _ => b)) := by
  refine spec_of tabOk Try.func44 rfl rfl fun P hP hA => ?_
  cbv
  refine CallA.by hP (l1InB_ok x.total 1 60) ?_
  cbv
  refine Br.split (fun h0 => ?_) (fun h0 => ?_) <;> cbv
  rotate_left
  · refine ⟨?_, trivial⟩
    have h0 : isIn x.total 1 60 = false := h0
    simp [hb, ledOkB, h0]
  have h0 : isIn x.total 1 60 = true := h0
  have e0 := isIn_ok h0
  refine CallA.by hP (l1InB_ok x.free 0 x.total) ?_
  cbv
  refine Br.split (fun h1 => ?_) (fun h1 => ?_) <;> cbv
  rotate_left
  · refine ⟨?_, trivial⟩
    have h1 : isIn x.free 0 x.total = false := h1
    simp [hb, ledOkB, h0, h1]
  have h1 : isIn x.free 0 x.total = true := h1
  have e1 := isIn_ok h1
  refine CallA.by hP (l1InB_ok x.held 0 x.total) ?_
  cbv
  refine Br.split (fun h2 => ?_) (fun h2 => ?_) <;> cbv
  rotate_left
  · refine ⟨?_, trivial⟩
    have h2 : isIn x.held 0 x.total = false := h2
    simp [hb, ledOkB, h0, h1, h2]
  have h2 : isIn x.held 0 x.total = true := h2
  have e2 := isIn_ok h2
  refine CallA.by hP (l1InB_ok x.sold 0 x.total) ?_
  cbv
  refine Br.split (fun h3 => ?_) (fun h3 => ?_) <;> cbv
  rotate_left
  · refine ⟨?_, trivial⟩
    have h3 : isIn x.sold 0 x.total = false := h3
    simp [hb, ledOkB, h0, h1, h2, h3]
  have h3 : isIn x.sold 0 x.total = true := h3
  have e3 := isIn_ok h3
  refine Ar.exact ?_ ?_ ?_
  · show -9223372036854775808 ≤ x.free + x.held
    omega
  · show x.free + x.held ≤ 9223372036854775807
    omega
  cbv
  refine Ar.exact ?_ ?_ ?_
  · show -9223372036854775808 ≤ x.free + x.held + x.sold
    omega
  · show x.free + x.held + x.sold ≤ 9223372036854775807
    omega
  cbv
  refine Br.split (fun h4 => ?_) (fun h4 => ?_) <;> cbv
  rotate_left
  · refine ⟨?_, trivial⟩
    have h4 : (x.free + x.held + x.sold == x.total) = false := h4
    have h4 : ¬ (x.free + x.held + x.sold = x.total) := by simpa using h4
    simp [hb, ledOkB, h0, h1, h2, h3, h4]
  have h4 : (x.free + x.held + x.sold == x.total) = true := h4
  have h4 : x.free + x.held + x.sold = x.total := by simpa using h4
  refine CallA.by hP (l1InB_ok x.tied 0 x.sold) ?_
  cbv
  refine ⟨?_, trivial⟩
  simp [hb, ledOkB, h0, h1, h2, h3, h4]

theorem implLedgerOk_ok (x : Ledger) (b : Bool) (hb : b = ledOkB x) : Spec Try.prog 45 [leA x] (Ret (bR fun _ => b)) := by
  refine spec_of tabOk Try.func45 rfl rfl fun P hP hA => ?_
  cbv
  refine CallA.by hP (withisIn_ok x.total 1 60) ?_
  cbv
  refine Br.split (fun h0 => ?_) (fun h0 => ?_) <;> cbv
  rotate_left
  · refine ⟨?_, trivial⟩
    have h0 : isIn x.total 1 60 = false := h0
    simp [hb, ledOkB, h0]
  have h0 : isIn x.total 1 60 = true := h0
  have e0 := isIn_ok h0
  refine CallA.by hP (withisIn_ok x.free 0 x.total) ?_
  cbv
  refine Br.split (fun h1 => ?_) (fun h1 => ?_) <;> cbv
  rotate_left
  · refine ⟨?_, trivial⟩
    have h1 : isIn x.free 0 x.total = false := h1
    simp [hb, ledOkB, h0, h1]
  have h1 : isIn x.free 0 x.total = true := h1
  have e1 := isIn_ok h1
  refine CallA.by hP (withisIn_ok x.held 0 x.total) ?_
  cbv
  refine Br.split (fun h2 => ?_) (fun h2 => ?_) <;> cbv
  rotate_left
  · refine ⟨?_, trivial⟩
    have h2 : isIn x.held 0 x.total = false := h2
    simp [hb, ledOkB, h0, h1, h2]
  have h2 : isIn x.held 0 x.total = true := h2
  have e2 := isIn_ok h2
  refine CallA.by hP (withisIn_ok x.sold 0 x.total) ?_
  cbv
  refine Br.split (fun h3 => ?_) (fun h3 => ?_) <;> cbv
  rotate_left
  · refine ⟨?_, trivial⟩
    have h3 : isIn x.sold 0 x.total = false := h3
    simp [hb, ledOkB, h0, h1, h2, h3]
  have h3 : isIn x.sold 0 x.total = true := h3
  have e3 := isIn_ok h3
  refine Ar.exact ?_ ?_ ?_
  · show -9223372036854775808 ≤ x.free + x.held
    omega
  · show x.free + x.held ≤ 9223372036854775807
    omega
  cbv
  refine Ar.exact ?_ ?_ ?_
  · show -9223372036854775808 ≤ x.free + x.held + x.sold
    omega
  · show x.free + x.held + x.sold ≤ 9223372036854775807
    omega
  cbv
  refine Br.split (fun h4 => ?_) (fun h4 => ?_) <;> cbv
  rotate_left
  · refine ⟨?_, trivial⟩
    have h4 : (x.free + x.held + x.sold == x.total) = false := h4
    have h4 : ¬ (x.free + x.held + x.sold = x.total) := by simpa using h4
    simp [hb, ledOkB, h0, h1, h2, h3, h4]
  have h4 : (x.free + x.held + x.sold == x.total) = true := h4
  have h4 : x.free + x.held + x.sold = x.total := by simpa using h4
  refine CallA.by hP (withisIn_ok x.tied 0 x.sold) ?_
  cbv
  refine ⟨?_, trivial⟩
  simp [hb, ledOkB, h0, h1, h2, h3, h4]

def leS (x : Unit → Ledger) : List Sh := [.int .i64 fun _ => (x ()).total, .int .i64 fun _ => (x ()).free, .int .i64 fun _ => (x ()).held, .int .i64 fun _ => (x ()).sold, .int .i64 fun _ => (x ()).tied]
def caS (x : Unit → Cabin) : List Sh := [.int .i64 fun _ => (x ()).seats.total, .int .i64 fun _ => (x ()).seats.free, .int .i64 fun _ => (x ()).seats.held, .int .i64 fun _ => (x ()).seats.sold, .int .i64 fun _ => (x ()).seats.tied, .own .ent fun _ => (x ()).row, .own .spk fun _ => (x ()).spoke]
def ledAt (n : Int) : Ledger := ⟨n, 0, 0, n, 0⟩
def ledNew (n : Int) : Ledger := if isIn n 1 60 = true then ledAt n else default
def cabAt (n : Int) : Cabin := ⟨ledAt n, [], List.replicate 9 []⟩
def cabNew (n : Int) : Cabin := if isIn n 1 60 = true then cabAt n else default

theorem ledOk_at (n : Int) : ledOkB (ledAt n) = isIn n 1 60 := by
  unfold ledOkB ledAt isIn
  rw [Bool.eq_iff_iff]
  simp only [Bool.and_eq_true, decide_eq_true_eq]
  omega

theorem specLedgerNew_ok (n : Int) (x : Ledger) (hx : x = ledNew n) (b : Bool) (hb : b = isIn n 1 60) : Spec Try.prog 32 [iA n] (Ret (.tup [(true, leS fun _ => x), (false, [.bool fun _ => b])])) := by
  refine spec_of tabOk Try.func32 rfl rfl fun P hP hA => ?_
  cbv
  refine CallA.by hP (specLedgerOk_ok (ledAt n) (isIn n 1 60) (ledOk_at n).symm) ?_
  cbv
  refine Br.split (fun h => ?_) (fun h => ?_) <;> cbv
  · have h : isIn n 1 60 = false := by simpa using h
    obtain rfl : x = default := hx.trans (if_neg (by rw [h]; simp))
    obtain rfl : b = false := hb.trans h
    exact ⟨rfl, rfl, rfl, rfl, rfl, rfl, trivial⟩
  · have h : isIn n 1 60 = true := by simpa using h
    obtain rfl : x = ledAt n := hx.trans (if_pos h)
    obtain rfl : b = true := hb.trans h
    exact ⟨rfl, rfl, rfl, rfl, rfl, rfl, trivial⟩

theorem implLedgerNew_ok (n : Int) (x : Ledger) (hx : x = ledNew n) (b : Bool) (hb : b = isIn n 1 60) : Spec Try.prog 36 [iA n] (Ret (.tup [(true, leS fun _ => x), (false, [.bool fun _ => b])])) := by
  refine spec_of tabOk Try.func36 rfl rfl fun P hP hA => ?_
  cbv
  refine CallA.by hP (implLedgerOk_ok (ledAt n) (isIn n 1 60) (ledOk_at n).symm) ?_
  cbv
  refine Br.split (fun h => ?_) (fun h => ?_) <;> cbv
  · have h : isIn n 1 60 = false := by simpa using h
    obtain rfl : x = default := hx.trans (if_neg (by rw [h]; simp))
    obtain rfl : b = false := hb.trans h
    exact ⟨rfl, rfl, rfl, rfl, rfl, rfl, trivial⟩
  · have h : isIn n 1 60 = true := by simpa using h
    obtain rfl : x = ledAt n := hx.trans (if_pos h)
    obtain rfl : b = true := hb.trans h
    exact ⟨rfl, rfl, rfl, rfl, rfl, rfl, trivial⟩

theorem implWheelNew_ok : Spec Try.prog 37 [] (Ret (whR fun _ => List.replicate 9 [])) := by
  refine spec_of tabOk Try.func37 rfl rfl fun P hP hA => ?_
  cbv
  refine ⟨by decide, ?_⟩
  cbv
  exact ⟨rfl, trivial⟩

theorem specWheelNew_ok : Spec Try.prog 33 [] (Ret (whR fun _ => List.replicate 9 [])) := by
  refine spec_of tabOk Try.func33 rfl rfl fun P hP hA => ?_
  cbv
  refine LoopE.by (X := Nat) (fun i => [(0, pN 0), (1, pN 1), (2, nT fun _ => i)]) (fun i => [(0, .box [.nil]), (1, .box [.own 2]), (2, ownB' .spk fun _ => List.replicate i [])]) (fun i => i ≤ 9) (fun i _ => 9 - i) 0 (Nat.zero_le _) ?_ ?_
  · cbv
    repeat' first | exact trivial | refine ⟨rfl, ?_⟩ | fail
  · intro i hi
    cbv
    refine Br.dec (fun h2 => ?_) (fun h2 => ?_) <;> cbv
    · have h2 : (i : Int) < 9 := h2
      have h2 : i < 9 := by omega
      refine ⟨?_, ?_⟩
      · show ((List.replicate i ([] : List Pin)).length + 1) * 24 ≤ 140737488355328
        rw [List.length_replicate]; omega
      cbv
      refine Ar.exact ?_ ?_ ?_
      · show -9223372036854775808 ≤ (i : Int) + 1
        omega
      · show (i : Int) + 1 ≤ 9223372036854775807
        omega
      cbv
      refine NextE.by (i + 1) ?_ ?_ ?_
      · show 9 - (i + 1) < 9 - i
        omega
      · exact h2
      · cbv
        repeat' first | exact trivial | refine ⟨rfl, ?_⟩ | fail
        refine ⟨?_, trivial⟩
        exact (List.replicate_succ' (n := i) (a := ([] : List Pin))).symm
    · have h2 : ¬ (i : Int) < 9 := h2
      obtain rfl : i = 9 := by omega
      repeat' first | exact trivial | refine ⟨rfl, ?_⟩ | fail

theorem specCabinNew_ok (n : Int) (x : Cabin) (hx : x = cabNew n) (b : Bool) (hb : b = isIn n 1 60) : Spec Try.prog 16 [iA n] (Ret (.tup [(true, caS fun _ => x), (false, [.bool fun _ => b])])) := by
  refine spec_of tabOk Try.func16 rfl rfl fun P hP hA => ?_
  cbv
  refine CallA.by hP (specLedgerNew_ok n (ledNew n) rfl (isIn n 1 60) rfl) ?_
  cbv
  refine Br.split (fun h => ?_) (fun h => ?_) <;> cbv
  · have h : isIn n 1 60 = false := by simpa using h
    obtain rfl : x = default := hx.trans (if_neg (by rw [h]; simp))
    obtain rfl : b = false := hb.trans h
    exact ⟨rfl, rfl, rfl, rfl, rfl, rfl, rfl, rfl, trivial⟩
  · have h : isIn n 1 60 = true := by simpa using h
    have e : ledNew n = ledAt n := if_pos h
    obtain rfl : x = cabAt n := hx.trans (if_pos h)
    obtain rfl : b = true := hb.trans h
    rw [e]
    refine ⟨?_, ?_⟩
    · refine CallA.by hP (specWheelNew_ok) ?_
      cbv
      repeat' first | exact trivial | refine ⟨rfl, ?_⟩ | fail
    · refine CallA.by hP (specWheelNew_ok) ?_
      cbv
      repeat' first | exact trivial | refine ⟨rfl, ?_⟩ | fail

theorem implCabinNew_ok (n : Int) (x : Cabin) (hx : x = cabNew n) (b : Bool) (hb : b = isIn n 1 60) : Spec Try.prog 20 [iA n] (Ret (.tup [(true, caS fun _ => x), (false, [.bool fun _ => b])])) := by
  refine spec_of tabOk Try.func20 rfl rfl fun P hP hA => ?_
  cbv
  refine CallA.by hP (implLedgerNew_ok n (ledNew n) rfl (isIn n 1 60) rfl) ?_
  cbv
  refine Br.split (fun h => ?_) (fun h => ?_) <;> cbv
  · have h : isIn n 1 60 = false := by simpa using h
    obtain rfl : x = default := hx.trans (if_neg (by rw [h]; simp))
    obtain rfl : b = false := hb.trans h
    exact ⟨rfl, rfl, rfl, rfl, rfl, rfl, rfl, rfl, trivial⟩
  · have h : isIn n 1 60 = true := by simpa using h
    have e : ledNew n = ledAt n := if_pos h
    obtain rfl : x = cabAt n := hx.trans (if_pos h)
    obtain rfl : b = true := hb.trans h
    rw [e]
    refine ⟨?_, ?_⟩
    · refine CallA.by hP (implWheelNew_ok) ?_
      cbv
      repeat' first | exact trivial | refine ⟨rfl, ?_⟩ | fail
    · refine CallA.by hP (implWheelNew_ok) ?_
      cbv
      repeat' first | exact trivial | refine ⟨rfl, ?_⟩ | fail

def rulesOkB (x : Rules) : Bool := isIn x.seats.length 1 4 && (x.seats.all (fun y => isIn y 1 60) && (isIn x.tiers 1 5 && (isIn x.room 1 10 && (isIn x.size 1 6 && (isIn x.period 1 12 && (isIn x.window 1 8 && (isIn x.tries 1 4 && (isIn x.crew 1 3 && isIn x.rest 0 8))))))))

theorem all_step {p : Int → Bool} {a : List Int} {i : Nat} (h : i < a.length) (h1 : ∀ y ∈ a.take i, p y = true) (h2 : p a[i] = true) : ∀ y ∈ a.take (i + 1), p y = true := by
  intro y hy
  rw [take_one h, List.mem_append] at hy
  rcases hy with hy | hy
  · exact h1 y hy
  · simp at hy; subst hy; exact h2

theorem all_no {p : Int → Bool} {a : List Int} {i : Nat} (h : i < a.length) (h2 : p a[i] = false) : a.all p = false := by
  rw [List.all_eq_false]
  exact ⟨a[i], List.getElem_mem _, by simp [h2]⟩

theorem all_yes {p : Int → Bool} {a : List Int} {i : Nat} (h : a.length ≤ i) (h1 : ∀ y ∈ a.take i, p y = true) : a.all p = true := by
  rw [List.take_of_length_le h] at h1
  exact List.all_eq_true.2 h1

theorem specRulesOk_ok (x : Rules) (hs : x.seats.length ≤ bigN) (b : Bool) (hb : b = rulesOkB x) : Spec Try.prog 14 [ruA x] (Ret (bR fun _ => b)) := by
  refine spec_of tabOk Try.func14 rfl rfl fun P hP hA => ?_
  have hn : x.seats.length ≤ 1048576 := hs
  cbv
  refine CallA.by hP (l1InB_ok x.seats.length 1 4) ?_
  cbv
  refine Br.split (fun h0 => ?_) (fun h0 => ?_) <;> cbv
  · refine ⟨?_, trivial⟩
    have h0 : isIn x.seats.length 1 4 = false := by simpa using h0
    simp [hb, rulesOkB, h0]
  have h0 : isIn x.seats.length 1 4 = true := by simpa using h0
  refine CallA.by hP (l1InB_ok x.tiers 1 5) ?_
  cbv
  refine Br.split (fun h1 => ?_) (fun h1 => ?_) <;> cbv
  · refine ⟨?_, trivial⟩
    have h1 : isIn x.tiers 1 5 = false := by simpa using h1
    simp [hb, rulesOkB, h0, h1]
  have h1 : isIn x.tiers 1 5 = true := by simpa using h1
  refine CallA.by hP (l1InB_ok x.room 1 10) ?_
  cbv
  refine Br.split (fun h2 => ?_) (fun h2 => ?_) <;> cbv
  · refine ⟨?_, trivial⟩
    have h2 : isIn x.room 1 10 = false := by simpa using h2
    simp [hb, rulesOkB, h0, h1, h2]
  have h2 : isIn x.room 1 10 = true := by simpa using h2
  refine CallA.by hP (l1InB_ok x.size 1 6) ?_
  cbv
  refine Br.split (fun h3 => ?_) (fun h3 => ?_) <;> cbv
  · refine ⟨?_, trivial⟩
    have h3 : isIn x.size 1 6 = false := by simpa using h3
    simp [hb, rulesOkB, h0, h1, h2, h3]
  have h3 : isIn x.size 1 6 = true := by simpa using h3
  refine CallA.by hP (l1InB_ok x.period 1 12) ?_
  cbv
  refine Br.split (fun h4 => ?_) (fun h4 => ?_) <;> cbv
  · refine ⟨?_, trivial⟩
    have h4 : isIn x.period 1 12 = false := by simpa using h4
    simp [hb, rulesOkB, h0, h1, h2, h3, h4]
  have h4 : isIn x.period 1 12 = true := by simpa using h4
  have g0 := h0
  have g1 := h1
  have g2 := h2
  have g3 := h3
  have g4 := h4
  refine LoopE.by (X := Nat) (fun i => [(1, pN 0), (3, nT fun _ => i)]) (fun _ => [(0, .box [.lf (.list .int fun _ => x.seats), .lf (.int .i64 fun _ => x.tiers), .lf (.int .i64 fun _ => x.room), .lf (.int .i64 fun _ => x.size), .lf (.int .i64 fun _ => x.period), .lf (.int .i64 fun _ => x.window), .lf (.int .i64 fun _ => x.rest), .lf (.int .i64 fun _ => x.tries), .lf (.int .i64 fun _ => x.crew)])]) (fun i => i ≤ x.seats.length ∧ ∀ y ∈ x.seats.take i, isIn y 1 60 = true) (fun i _ => x.seats.length - i) 0 ⟨Nat.zero_le _, by simp⟩ ?_ ?_
  · cbv
    repeat' first | exact trivial | refine ⟨rfl, ?_⟩ | fail
  · intro i ⟨hi, ht⟩
    cbv
    refine Br.dec (fun h2 => ?_) (fun h2 => ?_) <;> cbv
    · have h2 : (i : Int) < (x.seats.length : Int) := h2
      have h2 : i < x.seats.length := by omega
      refine ⟨x.seats[i], by simp, get_cast x.seats h2, ?_⟩
      cbv
      refine CallA.by hP (l1InB_ok x.seats[i] 1 60) ?_
      cbv
      refine Br.split (fun h3 => ?_) (fun h3 => ?_) <;> cbv
      · refine ⟨?_, trivial⟩
        have h3 : isIn x.seats[i] 1 60 = false := by simpa using h3
        have h3 : x.seats.all (fun y => isIn y 1 60) = false := all_no (p := fun y => isIn y 1 60) h2 h3
        simp [hb, rulesOkB, g0, g1, g2, g3, g4, h3]
      have h3 : isIn x.seats[i] 1 60 = true := by simpa using h3
      refine Ar.exact ?_ ?_ ?_
      · show -9223372036854775808 ≤ (i : Int) + 1
        omega
      · show (i : Int) + 1 ≤ 9223372036854775807
        omega
      cbv
      refine NextE.by (i + 1) ?_ ?_ ?_
      · show x.seats.length - (i + 1) < x.seats.length - i
        omega
      · exact ⟨h2, all_step (p := fun y => isIn y 1 60) h2 ht h3⟩
      · cbv
        repeat' first | exact trivial | refine ⟨rfl, ?_⟩ | fail
    have h2 : ¬ (i : Int) < (x.seats.length : Int) := h2
    have h2 : x.seats.length ≤ i := by omega
    have hall : x.seats.all (fun y => isIn y 1 60) = true := all_yes (p := fun y => isIn y 1 60) h2 ht
    refine CallA.by hP (l1InB_ok x.window 1 8) ?_
    cbv
    refine Br.split (fun k0 => ?_) (fun k0 => ?_) <;> cbv
    rotate_left
    · refine ⟨?_, trivial⟩
      have k0 : isIn x.window 1 8 = false := by simpa using k0
      simp [hb, rulesOkB, g0, g1, g2, g3, g4, hall, k0]
    have k0 : isIn x.window 1 8 = true := by simpa using k0
    refine CallA.by hP (l1InB_ok x.rest 0 8) ?_
    cbv
    refine Br.split (fun k1 => ?_) (fun k1 => ?_) <;> cbv
    rotate_left
    · refine ⟨?_, trivial⟩
      have k1 : isIn x.rest 0 8 = false := by simpa using k1
      simp [hb, rulesOkB, g0, g1, g2, g3, g4, hall, k0, k1]
    have k1 : isIn x.rest 0 8 = true := by simpa using k1
    refine CallA.by hP (l1InB_ok x.tries 1 4) ?_
    cbv
    refine Br.split (fun k2 => ?_) (fun k2 => ?_) <;> cbv
    rotate_left
    · refine ⟨?_, trivial⟩
      have k2 : isIn x.tries 1 4 = false := by simpa using k2
      simp [hb, rulesOkB, g0, g1, g2, g3, g4, hall, k0, k1, k2]
    have k2 : isIn x.tries 1 4 = true := by simpa using k2
    refine CallA.by hP (l1InB_ok x.crew 1 3) ?_
    cbv
    refine ⟨?_, trivial⟩
    simp [hb, rulesOkB, g0, g1, g2, g3, g4, hall, k0, k1, k2]

theorem implRulesOk_ok (x : Rules) (hs : x.seats.length ≤ bigN) (b : Bool) (hb : b = rulesOkB x) : Spec Try.prog 18 [ruA x] (Ret (bR fun _ => b)) := by
  refine spec_of tabOk Try.func18 rfl rfl fun P hP hA => ?_
  have hn : x.seats.length ≤ 1048576 := hs
  cbv
  refine CallA.by hP (withisIn_ok x.seats.length 1 4) ?_
  cbv
  refine Br.split (fun h0 => ?_) (fun h0 => ?_) <;> cbv
  · refine ⟨?_, trivial⟩
    have h0 : isIn x.seats.length 1 4 = false := by simpa using h0
    simp [hb, rulesOkB, h0]
  have h0 : isIn x.seats.length 1 4 = true := by simpa using h0
  have g0 := h0
  refine LoopE.by (X := Nat) (fun i => [(1, pN 0), (11, lT .int fun _ => x.seats), (12, nT fun _ => x.seats.length), (13, nT fun _ => i)]) (fun _ => [(0, .box [.lf (.list .int fun _ => x.seats), .lf (.int .i64 fun _ => x.tiers), .lf (.int .i64 fun _ => x.room), .lf (.int .i64 fun _ => x.size), .lf (.int .i64 fun _ => x.period), .lf (.int .i64 fun _ => x.window), .lf (.int .i64 fun _ => x.rest), .lf (.int .i64 fun _ => x.tries), .lf (.int .i64 fun _ => x.crew)])]) (fun i => i ≤ x.seats.length ∧ ∀ y ∈ x.seats.take i, isIn y 1 60 = true) (fun i _ => x.seats.length - i) 0 ⟨Nat.zero_le _, by simp⟩ ?_ ?_
  · cbv
    repeat' first | exact trivial | refine ⟨rfl, ?_⟩ | fail
  · intro i ⟨hi, ht⟩
    cbv
    refine Br.dec (fun h2 => ?_) (fun h2 => ?_) <;> cbv
    · have h2 : (i : Int) < (x.seats.length : Int) := h2
      have h2 : i < x.seats.length := by omega
      refine ⟨x.seats[i], by simp, get_cast x.seats h2, ?_⟩
      cbv
      refine CallA.by hP (withisIn_ok x.seats[i] 1 60) ?_
      cbv
      refine Br.split (fun h3 => ?_) (fun h3 => ?_) <;> cbv
      · refine ⟨?_, trivial⟩
        have h3 : isIn x.seats[i] 1 60 = false := by simpa using h3
        have h3 : x.seats.all (fun y => isIn y 1 60) = false := all_no (p := fun y => isIn y 1 60) h2 h3
        simp [hb, rulesOkB, g0, h3]
      have h3 : isIn x.seats[i] 1 60 = true := by simpa using h3
      refine Ar.exact ?_ ?_ ?_
      · show -9223372036854775808 ≤ (i : Int) + 1
        omega
      · show (i : Int) + 1 ≤ 9223372036854775807
        omega
      cbv
      refine NextE.by (i + 1) ?_ ?_ ?_
      · show x.seats.length - (i + 1) < x.seats.length - i
        omega
      · exact ⟨h2, all_step (p := fun y => isIn y 1 60) h2 ht h3⟩
      · cbv
        repeat' first | exact trivial | refine ⟨rfl, ?_⟩ | fail
    have h2 : ¬ (i : Int) < (x.seats.length : Int) := h2
    have h2 : x.seats.length ≤ i := by omega
    have hall : x.seats.all (fun y => isIn y 1 60) = true := all_yes (p := fun y => isIn y 1 60) h2 ht
    refine CallA.by hP (withisIn_ok x.tiers 1 5) ?_
    cbv
    refine Br.split (fun k0 => ?_) (fun k0 => ?_) <;> cbv
    rotate_left
    · refine ⟨?_, trivial⟩
      have k0 : isIn x.tiers 1 5 = false := by simpa using k0
      simp [hb, rulesOkB, g0, hall, k0]
    have k0 : isIn x.tiers 1 5 = true := by simpa using k0
    refine CallA.by hP (withisIn_ok x.room 1 10) ?_
    cbv
    refine Br.split (fun k1 => ?_) (fun k1 => ?_) <;> cbv
    rotate_left
    · refine ⟨?_, trivial⟩
      have k1 : isIn x.room 1 10 = false := by simpa using k1
      simp [hb, rulesOkB, g0, hall, k0, k1]
    have k1 : isIn x.room 1 10 = true := by simpa using k1
    refine CallA.by hP (withisIn_ok x.size 1 6) ?_
    cbv
    refine Br.split (fun k2 => ?_) (fun k2 => ?_) <;> cbv
    rotate_left
    · refine ⟨?_, trivial⟩
      have k2 : isIn x.size 1 6 = false := by simpa using k2
      simp [hb, rulesOkB, g0, hall, k0, k1, k2]
    have k2 : isIn x.size 1 6 = true := by simpa using k2
    refine CallA.by hP (withisIn_ok x.period 1 12) ?_
    cbv
    refine Br.split (fun k3 => ?_) (fun k3 => ?_) <;> cbv
    rotate_left
    · refine ⟨?_, trivial⟩
      have k3 : isIn x.period 1 12 = false := by simpa using k3
      simp [hb, rulesOkB, g0, hall, k0, k1, k2, k3]
    have k3 : isIn x.period 1 12 = true := by simpa using k3
    refine CallA.by hP (withisIn_ok x.window 1 8) ?_
    cbv
    refine Br.split (fun k4 => ?_) (fun k4 => ?_) <;> cbv
    rotate_left
    · refine ⟨?_, trivial⟩
      have k4 : isIn x.window 1 8 = false := by simpa using k4
      simp [hb, rulesOkB, g0, hall, k0, k1, k2, k3, k4]
    have k4 : isIn x.window 1 8 = true := by simpa using k4
    refine CallA.by hP (withisIn_ok x.tries 1 4) ?_
    cbv
    refine Br.split (fun k5 => ?_) (fun k5 => ?_) <;> cbv
    rotate_left
    · refine ⟨?_, trivial⟩
      have k5 : isIn x.tries 1 4 = false := by simpa using k5
      simp [hb, rulesOkB, g0, hall, k0, k1, k2, k3, k4, k5]
    have k5 : isIn x.tries 1 4 = true := by simpa using k5
    refine CallA.by hP (withisIn_ok x.crew 1 3) ?_
    cbv
    refine Br.split (fun k6 => ?_) (fun k6 => ?_) <;> cbv
    rotate_left
    · refine ⟨?_, trivial⟩
      have k6 : isIn x.crew 1 3 = false := by simpa using k6
      simp [hb, rulesOkB, g0, hall, k0, k1, k2, k3, k4, k5, k6]
    have k6 : isIn x.crew 1 3 = true := by simpa using k6
    refine CallA.by hP (withisIn_ok x.rest 0 8) ?_
    cbv
    refine ⟨?_, trivial⟩
    simp [hb, rulesOkB, g0, hall, k0, k1, k2, k3, k4, k5, k6]

theorem copyInts_ok (a : List Int) (hn : a.length ≤ bigN) : Spec Try.prog 35 [lA .int a] (Ret (lR .int fun _ => a)) := by
  refine spec_of tabOk Try.func35 rfl rfl fun P hP hA => ?_
  have hn : a.length ≤ 1048576 := hn
  cbv
  refine ⟨?_, ?_⟩
  · show (0 + a.length) * 8 ≤ 140737488355328
    omega
  cbv
  exact ⟨rfl, trivial⟩

theorem copyRules_ok (x : Rules) (hs : x.seats.length ≤ bigN) : Spec Try.prog 19 [ruA x] (Ret (ruR fun _ => x)) := by
  refine spec_of tabOk Try.func19 rfl rfl fun P hP hA => ?_
  cbv
  refine CallA.by hP (copyInts_ok x.seats hs) ?_
  cbv
  exact ⟨rfl, rfl, rfl, rfl, rfl, rfl, rfl, rfl, rfl, trivial⟩

theorem l5Copy_ok (x : Rules) (hs : x.seats.length ≤ bigN) : Spec Try.prog 15 [ruA x] (Ret (ruR fun _ => x)) := by
  refine spec_of tabOk Try.func15 rfl rfl fun P hP hA => ?_
  have hn : x.seats.length ≤ 1048576 := hs
  cbv
  refine ⟨?_, ?_⟩
  · show (0 + x.seats.length) * 8 ≤ 140737488355328
    omega
  cbv
  exact ⟨rfl, rfl, rfl, rfl, rfl, rfl, rfl, rfl, rfl, trivial⟩

end Go.Proofs.Ytmigflddbhiajaa
