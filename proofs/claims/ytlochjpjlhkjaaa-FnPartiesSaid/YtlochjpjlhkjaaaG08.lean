/- Parts of a proof. No conditions. -/

import Derived.Test.YtlochjpjlhkjaaaG06
import Derived.Test.YtlochjpjlhkjaaaG05
import Derived.Test.YtlochjpjlhkjaaaG07
import Derived.Test.YtlochjpjlhkjaaaG01
set_option linter.unusedSimpArgs false
set_option linter.unusedVariables false
namespace Go.Proofs.Ytlochjpjlhkjaaa
open Go
set_option maxRecDepth 100000
def ledOkB (x : Ledger) : Bool := isIn x.total 1 60 && (isIn x.free 0 x.total && (isIn x.held 0 x.total && (isIn x.sold 0 x.total && (decide (x.free + x.held + x.sold = x.total) && isIn x.tied 0 x.sold))))
theorem specLedgerOk_ok (x : Ledger) (b : Bool) (hb : b = ledOkB x) : Spec Try.prog 68 [leA x] (Ret (bR fun _ => b)) := by
  refine spec_of tabOk Try.func68 rfl rfl (fr := true) (fun _ => by kernel_rfl) fun P hP hA => ?_
  cbv
  refine CallA.by hP (l1InB_ok x.total 1 60) ?_
  cbv
  repeat (refine Pz.mk ?_; cbv)
  refine Br.split (fun h0 => ?_) (fun h0 => ?_) <;> (cbv; repeat (refine Pz.mk ?_; cbv))
  rotate_left
  · refine ⟨?_, trivial⟩
    have h0 : isIn x.total 1 60 = false := h0
    simp [hb, ledOkB, h0]
  have h0 : isIn x.total 1 60 = true := h0
  have e0 := isIn_ok h0
  refine CallA.by hP (l1InB_ok x.free 0 x.total) ?_
  cbv
  repeat (refine Pz.mk ?_; cbv)
  refine Br.split (fun h1 => ?_) (fun h1 => ?_) <;> (cbv; repeat (refine Pz.mk ?_; cbv))
  rotate_left
  · refine ⟨?_, trivial⟩
    have h1 : isIn x.free 0 x.total = false := h1
    simp [hb, ledOkB, h0, h1]
  have h1 : isIn x.free 0 x.total = true := h1
  have e1 := isIn_ok h1
  refine CallA.by hP (l1InB_ok x.held 0 x.total) ?_
  cbv
  repeat (refine Pz.mk ?_; cbv)
  refine Br.split (fun h2 => ?_) (fun h2 => ?_) <;> (cbv; repeat (refine Pz.mk ?_; cbv))
  rotate_left
  · refine ⟨?_, trivial⟩
    have h2 : isIn x.held 0 x.total = false := h2
    simp [hb, ledOkB, h0, h1, h2]
  have h2 : isIn x.held 0 x.total = true := h2
  have e2 := isIn_ok h2
  refine CallA.by hP (l1InB_ok x.sold 0 x.total) ?_
  cbv
  repeat (refine Pz.mk ?_; cbv)
  refine Br.split (fun h3 => ?_) (fun h3 => ?_) <;> (cbv; repeat (refine Pz.mk ?_; cbv))
  rotate_left
  · refine ⟨?_, trivial⟩
    have h3 : isIn x.sold 0 x.total = false := h3
    simp [hb, ledOkB, h0, h1, h2, h3]
  have h3 : isIn x.sold 0 x.total = true := h3
  have e3 := isIn_ok h3
  refine Ar.exact ?_ ?_ ?_
  · show -9223372036854775808 ≤ x.free + x.held
    omega
  · show x.free + x.held ≤ 9223372036854775807
    omega
  cbv
  refine Ar.exact ?_ ?_ ?_
  · show -9223372036854775808 ≤ x.free + x.held + x.sold
    omega
  · show x.free + x.held + x.sold ≤ 9223372036854775807
    omega
  cbv
  refine Br.split (fun h4 => ?_) (fun h4 => ?_) <;> (cbv; repeat (refine Pz.mk ?_; cbv))
  rotate_left
  · refine ⟨?_, trivial⟩
    have h4 : (x.free + x.held + x.sold == x.total) = false := h4
    have h4 : ¬ (x.free + x.held + x.sold = x.total) := by simpa using h4
    simp [hb, ledOkB, h0, h1, h2, h3, h4]
  have h4 : (x.free + x.held + x.sold == x.total) = true := h4
  have h4 : x.free + x.held + x.sold = x.total := by simpa using h4
  refine CallA.by hP (l1InB_ok x.tied 0 x.sold) ?_
  cbv
  repeat (refine Pz.mk ?_; cbv)
  refine ⟨?_, trivial⟩
  simp [hb, ledOkB, h0, h1, h2, h3, h4]
def leS (x : Unit → Ledger) : List Sh := [.int .i64 fun _ => (x ()).total, .int .i64 fun _ => (x ()).free, .int .i64 fun _ => (x ()).held, .int .i64 fun _ => (x ()).sold, .int .i64 fun _ => (x ()).tied]
def caS (x : Unit → Cabin) : List Sh := [.int .i64 fun _ => (x ()).seats.total, .int .i64 fun _ => (x ()).seats.free, .int .i64 fun _ => (x ()).seats.held, .int .i64 fun _ => (x ()).seats.sold, .int .i64 fun _ => (x ()).seats.tied, .own .ent fun _ => (x ()).row, .own .spk fun _ => (x ()).spoke]
def ledAt (n : Int) : Ledger := ⟨n, 0, 0, n, 0⟩
def ledNew (n : Int) : Ledger := if isIn n 1 60 = true then ledAt n else default
def cabAt (n : Int) : Cabin := ⟨ledAt n, [], List.replicate 9 []⟩
def cabNew (n : Int) : Cabin := if isIn n 1 60 = true then cabAt n else default
theorem ledOk_at (n : Int) : ledOkB (ledAt n) = isIn n 1 60 := by
  unfold ledOkB ledAt isIn
  rw [Bool.eq_iff_iff]
  simp only [Bool.and_eq_true, decide_eq_true_eq]
  omega
theorem specLedgerNew_ok (n : Int) (x : Ledger) (hx : x = ledNew n) (b : Bool) (hb : b = isIn n 1 60) : Spec Try.prog 60 [iA n] (Ret (.tup [(true, leS fun _ => x), (false, [.bool fun _ => b])])) := by
  refine spec_of tabOk Try.func60 rfl rfl (fr := true) (fun _ => by kernel_rfl) fun P hP hA => ?_
  cbv
  refine CallA.by hP (specLedgerOk_ok (ledAt n) (isIn n 1 60) (ledOk_at n).symm) ?_
  cbv
  repeat (refine Pz.mk ?_; cbv)
  refine Br.split (fun h => ?_) (fun h => ?_) <;> (cbv; repeat (refine Pz.mk ?_; cbv))
  · have h : isIn n 1 60 = false := by simpa using h
    obtain rfl : x = default := hx.trans (if_neg (by rw [h]; simp))
    obtain rfl : b = false := hb.trans h
    exact ⟨rfl, rfl, rfl, rfl, rfl, rfl, trivial⟩
  · have h : isIn n 1 60 = true := by simpa using h
    obtain rfl : x = ledAt n := hx.trans (if_pos h)
    obtain rfl : b = true := hb.trans h
    exact ⟨rfl, rfl, rfl, rfl, rfl, rfl, trivial⟩
theorem specWheelNew_ok : Spec Try.prog 48 [] (Ret (whR fun _ => List.replicate 9 [])) := by
  refine spec_of tabOk Try.func48 rfl rfl (fr := true) (fun _ => by kernel_rfl) fun P hP hA => ?_
  cbv
  refine LoopE.by (X := Nat) (fun i => [(0, pN 0), (1, pN 1), (2, nT fun _ => i)]) (fun i => [(0, .box [.nil]), (1, .box [.own 2]), (2, ownB' .spk fun _ => List.replicate i [])]) (fun i => i ≤ 9) (fun i _ => 9 - i) 0 (Nat.zero_le _) ?_ ?_
  · cbv
    repeat' first | exact trivial | refine ⟨rfl, ?_⟩ | fail
  · intro i hi
    cbv
    refine Br.dec (fun h2 => ?_) (fun h2 => ?_) <;> (cbv; repeat (refine Pz.mk ?_; cbv))
    · have h2 : (i : Int) < 9 := h2
      have h2 : i < 9 := by omega
      refine ⟨?_, ?_⟩
      · show ((List.replicate i ([] : List Pin)).length + 1) * 24 ≤ 140737488355328
        rw [List.length_replicate]; omega
      cbv
      refine Ar.exact ?_ ?_ ?_
      · show -9223372036854775808 ≤ (i : Int) + 1
        omega
      · show (i : Int) + 1 ≤ 9223372036854775807
        omega
      cbv
      refine NextE.by (i + 1) ?_ ?_ ?_
      · show 9 - (i + 1) < 9 - i
        omega
      · exact h2
      · cbv
        repeat' first | exact trivial | refine ⟨rfl, ?_⟩ | fail
        refine ⟨?_, trivial⟩
        exact (List.replicate_succ' (n := i) (a := ([] : List Pin))).symm
    · have h2 : ¬ (i : Int) < 9 := h2
      obtain rfl : i = 9 := by omega
      repeat' first | exact trivial | refine ⟨rfl, ?_⟩ | fail
theorem specCabinNew_ok (n : Int) (x : Cabin) (hx : x = cabNew n) (b : Bool) (hb : b = isIn n 1 60) : Spec Try.prog 45 [iA n] (Ret (.tup [(true, caS fun _ => x), (false, [.bool fun _ => b])])) := by
  refine spec_of tabOk Try.func45 rfl rfl (fr := true) (fun _ => by kernel_rfl) fun P hP hA => ?_
  cbv
  refine CallA.by hP (specLedgerNew_ok n (ledNew n) rfl (isIn n 1 60) rfl) ?_
  cbv
  repeat (refine Pz.mk ?_; cbv)
  refine Br.split (fun h => ?_) (fun h => ?_) <;> (cbv; repeat (refine Pz.mk ?_; cbv))
  · have h : isIn n 1 60 = false := by simpa using h
    obtain rfl : x = default := hx.trans (if_neg (by rw [h]; simp))
    obtain rfl : b = false := hb.trans h
    exact ⟨rfl, rfl, rfl, rfl, rfl, rfl, rfl, rfl, trivial⟩
  · have h : isIn n 1 60 = true := by simpa using h
    have e : ledNew n = ledAt n := if_pos h
    obtain rfl : x = cabAt n := hx.trans (if_pos h)
    obtain rfl : b = true := hb.trans h
    rw [e]
    repeat' first | exact trivial | (refine CallA.by hP specWheelNew_ok ?_; cbv; repeat (refine Pz.mk ?_; cbv)) | refine ⟨rfl, ?_⟩ | refine And.intro ?_ ?_ | fail
def rulesOkB (x : Rules) : Bool := isIn x.seats.length 1 4 && (x.seats.all (fun y => isIn y 1 60) && (isIn x.tiers 1 5 && (isIn x.room 1 10 && (isIn x.size 1 6 && (isIn x.period 1 12 && (isIn x.window 1 8 && (isIn x.tries 1 4 && (isIn x.crew 1 3 && isIn x.rest 0 8))))))))
theorem takeOne' {α : Type} {a : List α} {i : Nat} (h : i < a.length) : a.take (i + 1) = a.take i ++ [a[i]] := by
  rw [List.take_add_one, List.getElem?_eq_getElem h]; rfl
theorem all_step {p : Int → Bool} {a : List Int} {i : Nat} (h : i < a.length) (h1 : ∀ y ∈ a.take i, p y = true) (h2 : p a[i] = true) : ∀ y ∈ a.take (i + 1), p y = true := by
  intro y hy
  rw [takeOne' h, List.mem_append] at hy
  rcases hy with hy | hy
  · exact h1 y hy
  · simp at hy; subst hy; exact h2
theorem all_no {p : Int → Bool} {a : List Int} {i : Nat} (h : i < a.length) (h2 : p a[i] = false) : a.all p = false := by
  rw [List.all_eq_false]
  exact ⟨a[i], List.getElem_mem _, by simp [h2]⟩
theorem all_yes {p : Int → Bool} {a : List Int} {i : Nat} (h : a.length ≤ i) (h1 : ∀ y ∈ a.take i, p y = true) : a.all p = true := by
  rw [List.take_of_length_le h] at h1
  exact List.all_eq_true.2 h1
theorem specRulesOk_ok (x : Rules) (hs : x.seats.length ≤ bigN) (b : Bool) (hb : b = rulesOkB x) : Spec Try.prog 38 [ruA x] (Ret (bR fun _ => b)) := by
  refine spec_of tabOk Try.func38 rfl rfl (fr := true) (fun _ => by kernel_rfl) fun P hP hA => ?_
  have hn : x.seats.length ≤ 1048576 := hs
  cbv
  refine CallA.by hP (l1InB_ok x.seats.length 1 4) ?_
  cbv
  repeat (refine Pz.mk ?_; cbv)
  refine Br.split (fun h0 => ?_) (fun h0 => ?_) <;> (cbv; repeat (refine Pz.mk ?_; cbv))
  · refine ⟨?_, trivial⟩
    have h0 : isIn x.seats.length 1 4 = false := by simpa using h0
    simp [hb, rulesOkB, h0]
  have h0 : isIn x.seats.length 1 4 = true := by simpa using h0
  refine CallA.by hP (l1InB_ok x.tiers 1 5) ?_
  cbv
  repeat (refine Pz.mk ?_; cbv)
  refine Br.split (fun h1 => ?_) (fun h1 => ?_) <;> (cbv; repeat (refine Pz.mk ?_; cbv))
  · refine ⟨?_, trivial⟩
    have h1 : isIn x.tiers 1 5 = false := by simpa using h1
    simp [hb, rulesOkB, h0, h1]
  have h1 : isIn x.tiers 1 5 = true := by simpa using h1
  refine CallA.by hP (l1InB_ok x.room 1 10) ?_
  cbv
  repeat (refine Pz.mk ?_; cbv)
  refine Br.split (fun h2 => ?_) (fun h2 => ?_) <;> (cbv; repeat (refine Pz.mk ?_; cbv))
  · refine ⟨?_, trivial⟩
    have h2 : isIn x.room 1 10 = false := by simpa using h2
    simp [hb, rulesOkB, h0, h1, h2]
  have h2 : isIn x.room 1 10 = true := by simpa using h2
  refine CallA.by hP (l1InB_ok x.size 1 6) ?_
  cbv
  repeat (refine Pz.mk ?_; cbv)
  refine Br.split (fun h3 => ?_) (fun h3 => ?_) <;> (cbv; repeat (refine Pz.mk ?_; cbv))
  · refine ⟨?_, trivial⟩
    have h3 : isIn x.size 1 6 = false := by simpa using h3
    simp [hb, rulesOkB, h0, h1, h2, h3]
  have h3 : isIn x.size 1 6 = true := by simpa using h3
  refine CallA.by hP (l1InB_ok x.period 1 12) ?_
  cbv
  repeat (refine Pz.mk ?_; cbv)
  refine Br.split (fun h4 => ?_) (fun h4 => ?_) <;> (cbv; repeat (refine Pz.mk ?_; cbv))
  · refine ⟨?_, trivial⟩
    have h4 : isIn x.period 1 12 = false := by simpa using h4
    simp [hb, rulesOkB, h0, h1, h2, h3, h4]
  have h4 : isIn x.period 1 12 = true := by simpa using h4
  have g0 := h0
  have g1 := h1
  have g2 := h2
  have g3 := h3
  have g4 := h4
  refine LoopE.by (X := Nat) (fun i => [(1, pN 0), (3, nT fun _ => i)]) (fun _ => [(0, .box [.lf (.list .int fun _ => x.seats), .lf (.int .i64 fun _ => x.tiers), .lf (.int .i64 fun _ => x.room), .lf (.int .i64 fun _ => x.size), .lf (.int .i64 fun _ => x.period), .lf (.int .i64 fun _ => x.window), .lf (.int .i64 fun _ => x.rest), .lf (.int .i64 fun _ => x.tries), .lf (.int .i64 fun _ => x.crew)])]) (fun i => i ≤ x.seats.length ∧ ∀ y ∈ x.seats.take i, isIn y 1 60 = true) (fun i _ => x.seats.length - i) 0 ⟨Nat.zero_le _, by simp⟩ ?_ ?_
  · cbv
    repeat' first | exact trivial | refine ⟨rfl, ?_⟩ | fail
  · intro i ⟨hi, ht⟩
    cbv
    refine Br.dec (fun h2 => ?_) (fun h2 => ?_) <;> (cbv; repeat (refine Pz.mk ?_; cbv))
    · have h2 : (i : Int) < (x.seats.length : Int) := h2
      have h2 : i < x.seats.length := by omega
      refine ⟨x.seats[i], by simp, get_cast x.seats h2, ?_⟩
      cbv
      refine CallA.by hP (l1InB_ok x.seats[i] 1 60) ?_
      cbv
      repeat (refine Pz.mk ?_; cbv)
      refine Br.split (fun h3 => ?_) (fun h3 => ?_) <;> (cbv; repeat (refine Pz.mk ?_; cbv))
      · refine ⟨?_, trivial⟩
        have h3 : isIn x.seats[i] 1 60 = false := by simpa using h3
        have h3 : x.seats.all (fun y => isIn y 1 60) = false := all_no (p := fun y => isIn y 1 60) h2 h3
        simp [hb, rulesOkB, g0, g1, g2, g3, g4, h3]
      have h3 : isIn x.seats[i] 1 60 = true := by simpa using h3
      refine Ar.exact ?_ ?_ ?_
      · show -9223372036854775808 ≤ (i : Int) + 1
        omega
      · show (i : Int) + 1 ≤ 9223372036854775807
        omega
      cbv
      refine NextE.by (i + 1) ?_ ?_ ?_
      · show x.seats.length - (i + 1) < x.seats.length - i
        omega
      · exact ⟨h2, all_step (p := fun y => isIn y 1 60) h2 ht h3⟩
      · cbv
        repeat' first | exact trivial | refine ⟨rfl, ?_⟩ | fail
    have h2 : ¬ (i : Int) < (x.seats.length : Int) := h2
    have h2 : x.seats.length ≤ i := by omega
    have hall : x.seats.all (fun y => isIn y 1 60) = true := all_yes (p := fun y => isIn y 1 60) h2 ht
    refine CallA.by hP (l1InB_ok x.window 1 8) ?_
    cbv
    repeat (refine Pz.mk ?_; cbv)
    refine Br.split (fun k0 => ?_) (fun k0 => ?_) <;> (cbv; repeat (refine Pz.mk ?_; cbv))
    rotate_left
    · refine ⟨?_, trivial⟩
      have k0 : isIn x.window 1 8 = false := by simpa using k0
      simp [hb, rulesOkB, g0, g1, g2, g3, g4, hall, k0]
    have k0 : isIn x.window 1 8 = true := by simpa using k0
    refine CallA.by hP (l1InB_ok x.rest 0 8) ?_
    cbv
    repeat (refine Pz.mk ?_; cbv)
    refine Br.split (fun k1 => ?_) (fun k1 => ?_) <;> (cbv; repeat (refine Pz.mk ?_; cbv))
    rotate_left
    · refine ⟨?_, trivial⟩
      have k1 : isIn x.rest 0 8 = false := by simpa using k1
      simp [hb, rulesOkB, g0, g1, g2, g3, g4, hall, k0, k1]
    have k1 : isIn x.rest 0 8 = true := by simpa using k1
    refine CallA.by hP (l1InB_ok x.tries 1 4) ?_
    cbv
    repeat (refine Pz.mk ?_; cbv)
    refine Br.split (fun k2 => ?_) (fun k2 => ?_) <;> (cbv; repeat (refine Pz.mk ?_; cbv))
    rotate_left
    · refine ⟨?_, trivial⟩
      have k2 : isIn x.tries 1 4 = false := by simpa using k2
      simp [hb, rulesOkB, g0, g1, g2, g3, g4, hall, k0, k1, k2]
    have k2 : isIn x.tries 1 4 = true := by simpa using k2
    refine CallA.by hP (l1InB_ok x.crew 1 3) ?_
    cbv
    repeat (refine Pz.mk ?_; cbv)
    refine ⟨?_, trivial⟩
    simp [hb, rulesOkB, g0, g1, g2, g3, g4, hall, k0, k1, k2]
theorem l5Copy_ok (x : Rules) (hs : x.seats.length ≤ bigN) : Spec Try.prog 44 [ruA x] (Ret (ruR fun _ => x)) := by
  refine spec_of tabOk Try.func44 rfl rfl (fr := true) (fun _ => by kernel_rfl) fun P hP hA => ?_
  have hn : x.seats.length ≤ 1048576 := hs
  cbv
  refine ⟨?_, ?_⟩
  · show (0 + x.seats.length) * 8 ≤ 140737488355328
    omega
  cbv
  exact ⟨rfl, rfl, rfl, rfl, rfl, rfl, rfl, rfl, rfl, trivial⟩
end Go.Proofs.Ytlochjpjlhkjaaa
namespace Go.Proofs.Ytlochjpjlhkjaaa
open Go
set_option maxRecDepth 100000
structure RuG (x : Rules) : Prop where
  len : 1 ≤ x.seats.length ∧ x.seats.length ≤ 4
  tiers : 1 ≤ x.tiers ∧ x.tiers ≤ 5
  room : 1 ≤ x.room ∧ x.room ≤ 10
  size : 1 ≤ x.size ∧ x.size ≤ 6
  period : 1 ≤ x.period ∧ x.period ≤ 12
  window : 1 ≤ x.window ∧ x.window ≤ 8
  tries : 1 ≤ x.tries ∧ x.tries ≤ 4
  crew : 1 ≤ x.crew ∧ x.crew ≤ 3
  rest : 0 ≤ x.rest ∧ x.rest ≤ 8
theorem ruG {x : Rules} (h : rulesOkB x = true) : RuG x := by
  simp only [rulesOkB, Bool.and_eq_true, List.all_eq_true] at h
  obtain ⟨h1, _, h2, h3, h4, h5, h6, h7, h8, h9⟩ := h
  have h1 := isIn_ok h1
  exact ⟨by omega, isIn_ok h2, isIn_ok h3, isIn_ok h4, isIn_ok h5, isIn_ok h6, isIn_ok h7, isIn_ok h8, isIn_ok h9⟩
def partyOkB (R : Rules) (p : Party) (now : Int) : Bool :=
  rulesOkB R && (isIn now 0 1000000 && (isIn p.id 1 999 && (isIn p.cab 0 (R.seats.length - 1) && (isIn p.frm (-1) (R.seats.length - 1) && (!(p.frm == p.cab) &&
    (isIn p.siz 1 R.size && (isIn p.tier 0 (R.tiers - 1) && (isIn p.since 0 now && (isIn p.turn 1 1000000 && (isIn p.asked 0 (R.tries - 1) &&
      ((p.st == 1 && isIn p.untl 0 (now + R.rest)) || (p.st == 2 && isIn p.untl 1 (now + R.window)))))))))))))
theorem specPartyOk_ok (R : Rules) (p : Party) (now : Int) (hs : R.seats.length ≤ bigN) (b : Bool) (hb : b = partyOkB R p now) : Spec Try.prog 75 [ruA R, eA .pty p, iA now] (Ret (bR fun _ => b)) := by
  refine spec_of tabOk Try.func75 rfl rfl (fr := true) (fun _ => by kernel_rfl) fun P hP hA => ?_
  have hn : R.seats.length ≤ 1048576 := hs
  cbv
  refine CallA.by hP (specRulesOk_ok R hs (rulesOkB R) rfl) ?_
  cbv
  repeat (refine Pz.mk ?_; cbv)
  refine Br.split (fun h0 => ?_) (fun h0 => ?_) <;> (cbv; repeat (refine Pz.mk ?_; cbv))
  · refine ⟨?_, trivial⟩
    have h0 : rulesOkB R = false := by simpa using h0
    simp [hb, partyOkB, h0]
  have h0 : rulesOkB R = true := by simpa using h0
  obtain ⟨⟨a1, a2⟩, ⟨b1, b2⟩, _, ⟨d1, d2⟩, _, ⟨f1, f2⟩, ⟨g1, g2⟩, _, ⟨i1, i2⟩⟩ := ruG h0
  refine CallA.by hP (l1InB_ok now 0 1000000) ?_
  cbv
  repeat (refine Pz.mk ?_; cbv)
  refine Br.split (fun h1 => ?_) (fun h1 => ?_) <;> (cbv; repeat (refine Pz.mk ?_; cbv))
  · refine ⟨?_, trivial⟩
    have h1 : isIn now 0 1000000 = false := by simpa using h1
    simp [hb, partyOkB, h0, h1]
  have h1 : isIn now 0 1000000 = true := by simpa using h1
  obtain ⟨n1, n2⟩ := isIn_ok h1
  refine CallA.by hP (l1InB_ok p.id 1 999) ?_
  cbv
  repeat (refine Pz.mk ?_; cbv)
  refine Br.split (fun h2 => ?_) (fun h2 => ?_) <;> (cbv; repeat (refine Pz.mk ?_; cbv))
  · refine ⟨?_, trivial⟩
    have h2 : isIn p.id 1 999 = false := by simpa using h2
    simp [hb, partyOkB, h0, h1, h2]
  have h2 : isIn p.id 1 999 = true := by simpa using h2
  refine Ar.exact ?_ ?_ ?_
  · show -9223372036854775808 ≤ (R.seats.length : Int) - 1
    omega
  · show (R.seats.length : Int) - 1 ≤ 9223372036854775807
    omega
  cbv
  refine CallA.by hP (l1InB_ok p.cab 0 ((R.seats.length : Int) - 1)) ?_
  cbv
  repeat (refine Pz.mk ?_; cbv)
  refine Br.split (fun h3 => ?_) (fun h3 => ?_) <;> (cbv; repeat (refine Pz.mk ?_; cbv))
  · refine ⟨?_, trivial⟩
    have h3 : isIn p.cab 0 ((R.seats.length : Int) - 1) = false := by simpa using h3
    simp [hb, partyOkB, h0, h1, h2, h3]
  have h3 : isIn p.cab 0 ((R.seats.length : Int) - 1) = true := by simpa using h3
  refine Ar.exact ?_ ?_ ?_
  · show -9223372036854775808 ≤ (R.seats.length : Int) - 1
    omega
  · show (R.seats.length : Int) - 1 ≤ 9223372036854775807
    omega
  cbv
  refine CallA.by hP (l1InB_ok p.frm (-1) ((R.seats.length : Int) - 1)) ?_
  cbv
  repeat (refine Pz.mk ?_; cbv)
  refine Br.split (fun h4 => ?_) (fun h4 => ?_) <;> (cbv; repeat (refine Pz.mk ?_; cbv))
  · refine ⟨?_, trivial⟩
    have h4 : isIn p.frm (-1) ((R.seats.length : Int) - 1) = false := by simpa using h4
    simp [hb, partyOkB, h0, h1, h2, h3, h4]
  have h4 : isIn p.frm (-1) ((R.seats.length : Int) - 1) = true := by simpa using h4
  refine Br.split (fun h5 => ?_) (fun h5 => ?_) <;> (cbv; repeat (refine Pz.mk ?_; cbv))
  · refine ⟨?_, trivial⟩
    have h5 : (p.frm == p.cab) = true := h5
    simp [hb, partyOkB, h0, h1, h2, h3, h4, h5]
  have h5 : (!(p.frm == p.cab)) = true := by simpa using h5
  refine CallA.by hP (l1InB_ok p.siz 1 R.size) ?_
  cbv
  repeat (refine Pz.mk ?_; cbv)
  refine Br.split (fun h6 => ?_) (fun h6 => ?_) <;> (cbv; repeat (refine Pz.mk ?_; cbv))
  · refine ⟨?_, trivial⟩
    have h6 : isIn p.siz 1 R.size = false := by simpa using h6
    simp [hb, partyOkB, h0, h1, h2, h3, h4, h5, h6]
  have h6 : isIn p.siz 1 R.size = true := by simpa using h6
  refine Ar.exact ?_ ?_ ?_
  · show -9223372036854775808 ≤ R.tiers - 1
    omega
  · show R.tiers - 1 ≤ 9223372036854775807
    omega
  cbv
  refine CallA.by hP (l1InB_ok p.tier 0 (R.tiers - 1)) ?_
  cbv
  repeat (refine Pz.mk ?_; cbv)
  refine Br.split (fun h7 => ?_) (fun h7 => ?_) <;> (cbv; repeat (refine Pz.mk ?_; cbv))
  · refine ⟨?_, trivial⟩
    have h7 : isIn p.tier 0 (R.tiers - 1) = false := by simpa using h7
    simp [hb, partyOkB, h0, h1, h2, h3, h4, h5, h6, h7]
  have h7 : isIn p.tier 0 (R.tiers - 1) = true := by simpa using h7
  refine CallA.by hP (l1InB_ok p.since 0 now) ?_
  cbv
  repeat (refine Pz.mk ?_; cbv)
  refine Br.split (fun h8 => ?_) (fun h8 => ?_) <;> (cbv; repeat (refine Pz.mk ?_; cbv))
  · refine ⟨?_, trivial⟩
    have h8 : isIn p.since 0 now = false := by simpa using h8
    simp [hb, partyOkB, h0, h1, h2, h3, h4, h5, h6, h7, h8]
  have h8 : isIn p.since 0 now = true := by simpa using h8
  refine CallA.by hP (l1InB_ok p.turn 1 1000000) ?_
  cbv
  repeat (refine Pz.mk ?_; cbv)
  refine Br.split (fun h9 => ?_) (fun h9 => ?_) <;> (cbv; repeat (refine Pz.mk ?_; cbv))
  · refine ⟨?_, trivial⟩
    have h9 : isIn p.turn 1 1000000 = false := by simpa using h9
    simp [hb, partyOkB, h0, h1, h2, h3, h4, h5, h6, h7, h8, h9]
  have h9 : isIn p.turn 1 1000000 = true := by simpa using h9
  refine Ar.exact ?_ ?_ ?_
  · show -9223372036854775808 ≤ R.tries - 1
    omega
  · show R.tries - 1 ≤ 9223372036854775807
    omega
  cbv
  refine CallA.by hP (l1InB_ok p.asked 0 (R.tries - 1)) ?_
  cbv
  repeat (refine Pz.mk ?_; cbv)
  refine Br.split (fun h10 => ?_) (fun h10 => ?_) <;> (cbv; repeat (refine Pz.mk ?_; cbv))
  · refine ⟨?_, trivial⟩
    have h10 : isIn p.asked 0 (R.tries - 1) = false := by simpa using h10
    simp [hb, partyOkB, h0, h1, h2, h3, h4, h5, h6, h7, h8, h9, h10]
  have h10 : isIn p.asked 0 (R.tries - 1) = true := by simpa using h10
  have e : b = ((p.st == 1 && isIn p.untl 0 (now + R.rest)) || (p.st == 2 && isIn p.untl 1 (now + R.window))) := by simp [hb, partyOkB, h0, h1, h2, h3, h4, h5, h6, h7, h8, h9, h10]
  clear hb h0 h2 h3 h4 h5 h6 h7 h8 h9 h10
  repeat' first
    | (refine Ar.exact (t := fun _ => now + R.rest) (by show -9223372036854775808 ≤ now + R.rest; omega) (by show now + R.rest ≤ 9223372036854775807; omega) ?_; cbv)
    | (refine Ar.exact (t := fun _ => now + R.window) (by show -9223372036854775808 ≤ now + R.window; omega) (by show now + R.window ≤ 9223372036854775807; omega) ?_; cbv)
    | (refine CallA.by hP (l1InB_ok p.untl 0 (now + R.rest)) ?_; cbv)
    | (refine CallA.by hP (l1InB_ok p.untl 1 (now + R.window)) ?_; cbv)
    | (refine Br.split (fun h => ?_) (fun h => ?_) <;> cbv)
  all_goals refine ⟨?_, trivial⟩
  all_goals simp_all
theorem zs_no {α : Type} (z : α → Nat) {a : List α} {i : Nat} (h : i < a.length) (hv : z a[i] = 0) : ((zAll z (a.take i) : Nat) : Int) = ((zAll z (a.take (i + 1)) : Nat) : Int) := by
  rw [zAll_step z h, hv, Nat.add_zero]
theorem zs_yes {α : Type} (z : α → Nat) {a : List α} {i : Nat} (h : i < a.length) {v : Int} (hv : ((z a[i] : Nat) : Int) = v) : ((zAll z (a.take i) : Nat) : Int) + v = ((zAll z (a.take (i + 1)) : Nat) : Int) := by
  rw [zAll_step z h, ← hv]; omega
def cntIn (c : Int) (p : Party) : Nat := if (p.cab == c) = true then 1 else 0
def heldB (c : Int) (p : Party) : Bool := p.st == 2 && (p.cab == c && isIn p.siz 1 6)
def tiedB (c : Int) (p : Party) : Bool := p.frm == c && isIn p.siz 1 6
def heldZ (c : Int) (p : Party) : Nat := if heldB c p = true then p.siz.toNat else 0
def tiedZ (c : Int) (p : Party) : Nat := if tiedB c p = true then p.siz.toNat else 0
theorem cnt_le (c : Int) (a : List Party) (hn : a.length ≤ bigN) (i : Nat) : zAll (cntIn c) (a.take i) ≤ 1048576 := by
  have hn : a.length ≤ 1048576 := hn
  exact zAll_le _ 1 1048576 (a.take i) (fun x _ => by unfold cntIn; split <;> omega) (by rw [List.length_take]; omega)
theorem held_le (c : Int) (a : List Party) (hn : a.length ≤ bigN) (i : Nat) : zAll (heldZ c) (a.take i) ≤ 6291456 := by
  have hn : a.length ≤ 1048576 := hn
  exact zAll_le _ 6 1048576 (a.take i) (fun x _ => by
    unfold heldZ; split
    · rename_i h; simp only [heldB, Bool.and_eq_true] at h; have := isIn_ok h.2.2; omega
    · omega) (by rw [List.length_take]; omega)
theorem tied_le (c : Int) (a : List Party) (hn : a.length ≤ bigN) (i : Nat) : zAll (tiedZ c) (a.take i) ≤ 6291456 := by
  have hn : a.length ≤ 1048576 := hn
  exact zAll_le _ 6 1048576 (a.take i) (fun x _ => by
    unfold tiedZ; split
    · rename_i h; simp only [tiedB, Bool.and_eq_true] at h; have := isIn_ok h.2; omega
    · omega) (by rw [List.length_take]; omega)
theorem specCountIn_ok (a : List Party) (c : Int) (hn : a.length ≤ bigN) : Spec Try.prog 32 [lA .pty a, iA c] (Ret (nR fun _ => zAll (cntIn c) a)) := by
  refine spec_of tabOk Try.func32 rfl rfl (fr := true) (fun _ => by kernel_rfl) fun P hP hA => ?_
  have hn' : a.length ≤ 1048576 := hn
  cbv
  refine LoopE.by (X := Nat) (fun i => [(0, lA .pty a), (1, iA c), (5, nT fun _ => zAll (cntIn c) (a.take i)), (6, nT fun _ => i)]) (fun _ => []) (fun i => i ≤ a.length) (fun i _ => a.length - i) 0 (Nat.zero_le _) ?_ ?_
  · cbv
    repeat' first | exact trivial | refine ⟨rfl, ?_⟩ | fail
  · intro i hi
    have hle := cnt_le c a hn i
    cbv
    refine Br.dec (fun h2 => ?_) (fun h2 => ?_) <;> (cbv; repeat (refine Pz.mk ?_; cbv))
    rotate_left
    · have h2 : a.length ≤ i := by simp at h2; omega
      refine ⟨?_, trivial⟩
      show ((zAll (cntIn c) (a.take i) : Nat) : Int) = ((zAll (cntIn c) a : Nat) : Int)
      rw [List.take_of_length_le h2]
    have h2 : i < a.length := by simpa using h2
    refine ⟨a[i], by simp, get_cast a h2, ?_⟩
    cbv
    refine Br.split (fun k0 => ?_) (fun k0 => ?_) <;> (cbv; repeat (refine Pz.mk ?_; cbv))
    rotate_left
    · have k0 : (a[i].cab == c) = false := by simpa using k0
      have hz : cntIn c a[i] = 0 := by simp [cntIn, k0]
      refine Ar.exact ?_ ?_ ?_
      · show -9223372036854775808 ≤ (i : Int) + 1
        omega
      · show (i : Int) + 1 ≤ 9223372036854775807
        omega
      cbv
      refine NextE.by (i + 1) ?_ ?_ ?_
      · show a.length - (i + 1) < a.length - i
        omega
      · exact h2
      · cbv
        repeat' first | exact trivial | refine ⟨rfl, ?_⟩ | fail
        refine ⟨?_, ?_⟩
        · exact zs_no (cntIn c) h2 hz
        repeat' first | exact trivial | refine ⟨rfl, ?_⟩ | fail
    have k0 : (a[i].cab == c) = true := by simpa using k0
    have hz : ((cntIn c a[i] : Nat) : Int) = 1 := by simp [cntIn, k0]
    refine Ar.exact ?_ ?_ ?_
    · show -9223372036854775808 ≤ ((zAll (cntIn c) (a.take i) : Nat) : Int) + 1
      omega
    · show ((zAll (cntIn c) (a.take i) : Nat) : Int) + 1 ≤ 9223372036854775807
      omega
    cbv
    refine Ar.exact ?_ ?_ ?_
    · show -9223372036854775808 ≤ (i : Int) + 1
      omega
    · show (i : Int) + 1 ≤ 9223372036854775807
      omega
    cbv
    refine NextE.by (i + 1) ?_ ?_ ?_
    · show a.length - (i + 1) < a.length - i
      omega
    · exact h2
    · cbv
      repeat' first | exact trivial | refine ⟨rfl, ?_⟩ | fail
      refine ⟨?_, ?_⟩
      · exact zs_yes (cntIn c) h2 hz
      repeat' first | exact trivial | refine ⟨rfl, ?_⟩ | fail
theorem specHeldIn_ok (a : List Party) (c : Int) (hn : a.length ≤ bigN) : Spec Try.prog 46 [lA .pty a, iA c] (Ret (nR fun _ => zAll (heldZ c) a)) := by
  refine spec_of tabOk Try.func46 rfl rfl (fr := true) (fun _ => by kernel_rfl) fun P hP hA => ?_
  have hn' : a.length ≤ 1048576 := hn
  cbv
  refine LoopE.by (X := Nat) (fun i => [(0, lA .pty a), (1, iA c), (5, nT fun _ => zAll (heldZ c) (a.take i)), (6, nT fun _ => i)]) (fun _ => []) (fun i => i ≤ a.length) (fun i _ => a.length - i) 0 (Nat.zero_le _) ?_ ?_
  · cbv
    repeat' first | exact trivial | refine ⟨rfl, ?_⟩ | fail
  · intro i hi
    have hle := held_le c a hn i
    cbv
    refine Br.dec (fun h2 => ?_) (fun h2 => ?_) <;> (cbv; repeat (refine Pz.mk ?_; cbv))
    rotate_left
    · have h2 : a.length ≤ i := by simp at h2; omega
      refine ⟨?_, trivial⟩
      show ((zAll (heldZ c) (a.take i) : Nat) : Int) = ((zAll (heldZ c) a : Nat) : Int)
      rw [List.take_of_length_le h2]
    have h2 : i < a.length := by simpa using h2
    refine ⟨a[i], by simp, get_cast a h2, ?_⟩
    cbv
    refine Br.split (fun k0 => ?_) (fun k0 => ?_) <;> (cbv; repeat (refine Pz.mk ?_; cbv))
    rotate_left
    · have k0 : (a[i].st == 2) = false := by simpa using k0
      have hz : heldZ c a[i] = 0 := by simp [heldZ, heldB, k0]
      refine Ar.exact ?_ ?_ ?_
      · show -9223372036854775808 ≤ (i : Int) + 1
        omega
      · show (i : Int) + 1 ≤ 9223372036854775807
        omega
      cbv
      refine NextE.by (i + 1) ?_ ?_ ?_
      · show a.length - (i + 1) < a.length - i
        omega
      · exact h2
      · cbv
        repeat' first | exact trivial | refine ⟨rfl, ?_⟩ | fail
        refine ⟨?_, ?_⟩
        · exact zs_no (heldZ c) h2 hz
        repeat' first | exact trivial | refine ⟨rfl, ?_⟩ | fail
    have k0 : (a[i].st == 2) = true := by simpa using k0
    refine ⟨a[i], by simp, get_cast a h2, ?_⟩
    cbv
    refine Br.split (fun k1 => ?_) (fun k1 => ?_) <;> (cbv; repeat (refine Pz.mk ?_; cbv))
    rotate_left
    · have k1 : (a[i].cab == c) = false := by simpa using k1
      have hz : heldZ c a[i] = 0 := by simp [heldZ, heldB, k0, k1]
      refine Ar.exact ?_ ?_ ?_
      · show -9223372036854775808 ≤ (i : Int) + 1
        omega
      · show (i : Int) + 1 ≤ 9223372036854775807
        omega
      cbv
      refine NextE.by (i + 1) ?_ ?_ ?_
      · show a.length - (i + 1) < a.length - i
        omega
      · exact h2
      · cbv
        repeat' first | exact trivial | refine ⟨rfl, ?_⟩ | fail
        refine ⟨?_, ?_⟩
        · exact zs_no (heldZ c) h2 hz
        repeat' first | exact trivial | refine ⟨rfl, ?_⟩ | fail
    have k1 : (a[i].cab == c) = true := by simpa using k1
    refine ⟨a[i], by simp, get_cast a h2, ?_⟩
    cbv
    refine CallA.by hP (l1InB_ok a[i].siz 1 6) ?_
    cbv
    repeat (refine Pz.mk ?_; cbv)
    refine Br.split (fun k2 => ?_) (fun k2 => ?_) <;> (cbv; repeat (refine Pz.mk ?_; cbv))
    rotate_left
    · have k2 : isIn a[i].siz 1 6 = false := by simpa using k2
      have hz : heldZ c a[i] = 0 := by simp [heldZ, heldB, k0, k1, k2]
      refine Ar.exact ?_ ?_ ?_
      · show -9223372036854775808 ≤ (i : Int) + 1
        omega
      · show (i : Int) + 1 ≤ 9223372036854775807
        omega
      cbv
      refine NextE.by (i + 1) ?_ ?_ ?_
      · show a.length - (i + 1) < a.length - i
        omega
      · exact h2
      · cbv
        repeat' first | exact trivial | refine ⟨rfl, ?_⟩ | fail
        refine ⟨?_, ?_⟩
        · exact zs_no (heldZ c) h2 hz
        repeat' first | exact trivial | refine ⟨rfl, ?_⟩ | fail
    have k2 : isIn a[i].siz 1 6 = true := by simpa using k2
    have hq := isIn_ok k2
    have hz : ((heldZ c a[i] : Nat) : Int) = a[i].siz := by simp [heldZ, heldB, k0, k1, k2]; omega
    refine ⟨a[i], by simp, get_cast a h2, ?_⟩
    cbv
    refine Ar.exact ?_ ?_ ?_
    · show -9223372036854775808 ≤ ((zAll (heldZ c) (a.take i) : Nat) : Int) + a[i].siz
      omega
    · show ((zAll (heldZ c) (a.take i) : Nat) : Int) + a[i].siz ≤ 9223372036854775807
      omega
    cbv
    refine Ar.exact ?_ ?_ ?_
    · show -9223372036854775808 ≤ (i : Int) + 1
      omega
    · show (i : Int) + 1 ≤ 9223372036854775807
      omega
    cbv
    refine NextE.by (i + 1) ?_ ?_ ?_
    · show a.length - (i + 1) < a.length - i
      omega
    · exact h2
    · cbv
      repeat' first | exact trivial | refine ⟨rfl, ?_⟩ | fail
      refine ⟨?_, ?_⟩
      · exact zs_yes (heldZ c) h2 hz
      repeat' first | exact trivial | refine ⟨rfl, ?_⟩ | fail
theorem specTiedIn_ok (a : List Party) (c : Int) (hn : a.length ≤ bigN) : Spec Try.prog 47 [lA .pty a, iA c] (Ret (nR fun _ => zAll (tiedZ c) a)) := by
  refine spec_of tabOk Try.func47 rfl rfl (fr := true) (fun _ => by kernel_rfl) fun P hP hA => ?_
  have hn' : a.length ≤ 1048576 := hn
  cbv
  refine LoopE.by (X := Nat) (fun i => [(0, lA .pty a), (1, iA c), (5, nT fun _ => zAll (tiedZ c) (a.take i)), (6, nT fun _ => i)]) (fun _ => []) (fun i => i ≤ a.length) (fun i _ => a.length - i) 0 (Nat.zero_le _) ?_ ?_
  · cbv
    repeat' first | exact trivial | refine ⟨rfl, ?_⟩ | fail
  · intro i hi
    have hle := tied_le c a hn i
    cbv
    refine Br.dec (fun h2 => ?_) (fun h2 => ?_) <;> (cbv; repeat (refine Pz.mk ?_; cbv))
    rotate_left
    · have h2 : a.length ≤ i := by simp at h2; omega
      refine ⟨?_, trivial⟩
      show ((zAll (tiedZ c) (a.take i) : Nat) : Int) = ((zAll (tiedZ c) a : Nat) : Int)
      rw [List.take_of_length_le h2]
    have h2 : i < a.length := by simpa using h2
    refine ⟨a[i], by simp, get_cast a h2, ?_⟩
    cbv
    refine Br.split (fun k0 => ?_) (fun k0 => ?_) <;> (cbv; repeat (refine Pz.mk ?_; cbv))
    rotate_left
    · have k0 : (a[i].frm == c) = false := by simpa using k0
      have hz : tiedZ c a[i] = 0 := by simp [tiedZ, tiedB, k0]
      refine Ar.exact ?_ ?_ ?_
      · show -9223372036854775808 ≤ (i : Int) + 1
        omega
      · show (i : Int) + 1 ≤ 9223372036854775807
        omega
      cbv
      refine NextE.by (i + 1) ?_ ?_ ?_
      · show a.length - (i + 1) < a.length - i
        omega
      · exact h2
      · cbv
        repeat' first | exact trivial | refine ⟨rfl, ?_⟩ | fail
        refine ⟨?_, ?_⟩
        · exact zs_no (tiedZ c) h2 hz
        repeat' first | exact trivial | refine ⟨rfl, ?_⟩ | fail
    have k0 : (a[i].frm == c) = true := by simpa using k0
    refine ⟨a[i], by simp, get_cast a h2, ?_⟩
    cbv
    refine CallA.by hP (l1InB_ok a[i].siz 1 6) ?_
    cbv
    repeat (refine Pz.mk ?_; cbv)
    refine Br.split (fun k1 => ?_) (fun k1 => ?_) <;> (cbv; repeat (refine Pz.mk ?_; cbv))
    rotate_left
    · have k1 : isIn a[i].siz 1 6 = false := by simpa using k1
      have hz : tiedZ c a[i] = 0 := by simp [tiedZ, tiedB, k0, k1]
      refine Ar.exact ?_ ?_ ?_
      · show -9223372036854775808 ≤ (i : Int) + 1
        omega
      · show (i : Int) + 1 ≤ 9223372036854775807
        omega
      cbv
      refine NextE.by (i + 1) ?_ ?_ ?_
      · show a.length - (i + 1) < a.length - i
        omega
      · exact h2
      · cbv
        repeat' first | exact trivial | refine ⟨rfl, ?_⟩ | fail
        refine ⟨?_, ?_⟩
        · exact zs_no (tiedZ c) h2 hz
        repeat' first | exact trivial | refine ⟨rfl, ?_⟩ | fail
    have k1 : isIn a[i].siz 1 6 = true := by simpa using k1
    have hq := isIn_ok k1
    have hz : ((tiedZ c a[i] : Nat) : Int) = a[i].siz := by simp [tiedZ, tiedB, k0, k1]; omega
    refine ⟨a[i], by simp, get_cast a h2, ?_⟩
    cbv
    refine Ar.exact ?_ ?_ ?_
    · show -9223372036854775808 ≤ ((zAll (tiedZ c) (a.take i) : Nat) : Int) + a[i].siz
      omega
    · show ((zAll (tiedZ c) (a.take i) : Nat) : Int) + a[i].siz ≤ 9223372036854775807
      omega
    cbv
    refine Ar.exact ?_ ?_ ?_
    · show -9223372036854775808 ≤ (i : Int) + 1
      omega
    · show (i : Int) + 1 ≤ 9223372036854775807
      omega
    cbv
    refine NextE.by (i + 1) ?_ ?_ ?_
    · show a.length - (i + 1) < a.length - i
      omega
    · exact h2
    · cbv
      repeat' first | exact trivial | refine ⟨rfl, ?_⟩ | fail
      refine ⟨?_, ?_⟩
      · exact zs_yes (tiedZ c) h2 hz
      repeat' first | exact trivial | refine ⟨rfl, ?_⟩ | fail
end Go.Proofs.Ytlochjpjlhkjaaa
namespace Go.Proofs.Ytlochjpjlhkjaaa
open Go
set_option maxRecDepth 100000
theorem l1Max_ok (a b : Int) : Spec Try.prog 51 [iA a, iA b] (Ret (iR fun _ => if a > b then a else b)) := by
  refine spec_of tabOk Try.func51 rfl rfl (fr := true) (fun _ => by kernel_rfl) fun P hP hA => ?_
  cbv
  refine Br.dec (fun h => ?_) (fun h => ?_) <;> (cbv; repeat (refine Pz.mk ?_; cbv))
  · refine ⟨?_, trivial⟩
    rw [if_pos h]
  · refine ⟨?_, trivial⟩
    rw [if_neg h]
def lvl (R : Rules) (tier waited : Int) : Int := if 0 > tier - waited.tdiv R.period then 0 else tier - waited.tdiv R.period
theorem tdiv_in {a b : Int} (h0 : 0 ≤ a) (h1 : a ≤ 1000000) (h2 : 1 ≤ b) : 0 ≤ a.tdiv b ∧ a.tdiv b ≤ 1000000 :=
  ⟨Int.tdiv_nonneg h0 (by omega), Int.le_trans (Int.tdiv_le_self b h0) h1⟩
theorem l5Level_ok (R : Rules) (tier waited : Int) (h0 : 0 ≤ waited) (h1 : waited ≤ 1000000) (h2 : 0 ≤ tier) (h3 : tier ≤ 10) (h4 : 1 ≤ R.period) : Spec Try.prog 76 [ruA R, iA tier, iA waited] (Ret (iR fun _ => lvl R tier waited)) := by
  refine spec_of tabOk Try.func76 rfl rfl (fr := true) (fun _ => by kernel_rfl) fun P hP hA => ?_
  obtain ⟨q0, q1⟩ := tdiv_in h0 h1 h4
  cbv
  refine ⟨by show R.period ≠ 0; omega, ?_⟩
  cbv
  refine Ar.exact (t := fun _ => waited.tdiv R.period) ?_ ?_ ?_
  · show -9223372036854775808 ≤ waited.tdiv R.period
    omega
  · show waited.tdiv R.period ≤ 9223372036854775807
    omega
  cbv
  refine Ar.exact (t := fun _ => tier - waited.tdiv R.period) ?_ ?_ ?_
  · show -9223372036854775808 ≤ tier - waited.tdiv R.period
    omega
  · show tier - waited.tdiv R.period ≤ 9223372036854775807
    omega
  refine CallA.byE hP (l1Max_ok 0 (tier - waited.tdiv R.period)) rfl ?_
  cbv
  repeat' first | exact trivial | refine ⟨rfl, ?_⟩ | fail
structure ParG (R : Rules) (p : Party) (now : Int) : Prop where
  rules : rulesOkB R = true
  nowR : 0 ≤ now ∧ now ≤ 1000000
  siz : 1 ≤ p.siz ∧ p.siz ≤ R.size
  tier : isIn p.tier 0 (R.tiers - 1) = true
  since : 0 ≤ p.since ∧ p.since ≤ now
theorem parG {R : Rules} {p : Party} {now : Int} (h : partyOkB R p now = true) : ParG R p now := by
  simp only [partyOkB, Bool.and_eq_true] at h
  obtain ⟨h1, h2, _, _, _, _, h3, h4, h5, _⟩ := h
  exact ⟨h1, isIn_ok h2, isIn_ok h3, h4, isIn_ok h5⟩
def levelOf (R : Rules) (p : Party) (now : Int) : Int := if partyOkB R p now = true then lvl R p.tier (now - p.since) else -1
theorem specLevelOf_ok (R : Rules) (p : Party) (now : Int) (hs : R.seats.length ≤ bigN) (x : Int) (hx : x = levelOf R p now) : Spec Try.prog 71 [ruA R, eA .pty p, iA now] (Ret (iR fun _ => x)) := by
  refine spec_of tabOk Try.func71 rfl rfl (fr := true) (fun _ => by kernel_rfl) fun P hP hA => ?_
  cbv
  refine CallA.by hP (specPartyOk_ok R p now hs (partyOkB R p now) rfl) ?_
  cbv
  repeat (refine Pz.mk ?_; cbv)
  refine Br.split (fun k0 => ?_) (fun k0 => ?_) <;> (cbv; repeat (refine Pz.mk ?_; cbv))
  · have k0 : partyOkB R p now = false := by simpa using k0
    obtain rfl : x = -1 := hx.trans (if_neg (by rw [k0]; simp))
    repeat' first | exact trivial | refine ⟨rfl, ?_⟩ | fail
  have k0 : partyOkB R p now = true := by simpa using k0
  obtain rfl : x = lvl R p.tier (now - p.since) := hx.trans (if_pos k0)
  have hp := parG k0
  have hr := ruG hp.rules
  obtain ⟨a1, a2⟩ := hp.nowR
  obtain ⟨b1, b2⟩ := hp.since
  obtain ⟨c1, c2⟩ := hr.tiers
  obtain ⟨d1, d2⟩ := hr.period
  obtain ⟨e1, e2⟩ := isIn_ok hp.tier
  refine Ar.exact (t := fun _ => now - p.since) ?_ ?_ ?_
  · show -9223372036854775808 ≤ now - p.since
    omega
  · show now - p.since ≤ 9223372036854775807
    omega
  cbv
  refine CallA.by hP (l5Level_ok R p.tier (now - p.since) (by omega) (by omega) (by omega) (by omega) (by omega)) ?_
  cbv
  repeat (refine Pz.mk ?_; cbv)
  repeat' first | exact trivial | refine ⟨rfl, ?_⟩ | fail
end Go.Proofs.Ytlochjpjlhkjaaa
namespace Go.Proofs.Ytlochjpjlhkjaaa
open Go
set_option maxRecDepth 100000
theorem lvl_nn (R : Rules) (t w : Int) : 0 ≤ lvl R t w := by
  unfold lvl; split <;> omega
theorem levelOf_yes {R : Rules} {p : Party} {now : Int} (h : partyOkB R p now = true) : 0 ≤ levelOf R p now := by
  rw [levelOf, if_pos h]; exact lvl_nn _ _ _
theorem levelOf_no {R : Rules} {p : Party} {now : Int} (h : partyOkB R p now = false) : levelOf R p now = -1 := by
  rw [levelOf, if_neg (by rw [h]; simp)]
def entOkB (R : Rules) (p : Party) (now : Int) : Bool := partyOkB R p now && p.st == 1
def entAt (R : Rules) (p : Party) (now : Int) : Entry := ⟨levelOf R p now, p.turn, p.id, p.siz⟩
def entryOf (R : Rules) (p : Party) (now : Int) : Entry := if entOkB R p now = true then entAt R p now else default
def enS (x : Unit → Entry) : List Sh := [.int .i64 fun _ => (x ()).lvl, .int .i64 fun _ => (x ()).turn, .int .i64 fun _ => (x ()).eid, .int .i64 fun _ => (x ()).siz]
theorem specEntryOf_ok (R : Rules) (p : Party) (now : Int) (hs : R.seats.length ≤ bigN) (x : Entry) (hx : x = entryOf R p now) (b : Bool) (hb : b = entOkB R p now) : Spec Try.prog 64 [ruA R, eA .pty p, iA now] (Ret (.tup [(true, enS fun _ => x), (false, [.bool fun _ => b])])) := by
  refine spec_of tabOk Try.func64 rfl rfl (fr := true) (fun _ => by kernel_rfl) fun P hP hA => ?_
  cbv
  refine CallA.by hP (specLevelOf_ok R p now hs (levelOf R p now) rfl) ?_
  cbv
  repeat (refine Pz.mk ?_; cbv)
  refine Br.dec (fun k0 => ?_) (fun k0 => ?_) <;> (cbv; repeat (refine Pz.mk ?_; cbv))
  · have k0 : levelOf R p now < 0 := k0
    have e : entOkB R p now = false := by
      rcases hq : partyOkB R p now with _ | _
      · simp [entOkB, hq]
      · have := levelOf_yes hq
        omega
    obtain rfl : b = false := hb.trans e
    obtain rfl : x = default := hx.trans (if_neg (by rw [e]; simp))
    repeat' first | exact trivial | refine ⟨rfl, ?_⟩ | fail
  have k0 : ¬ levelOf R p now < 0 := k0
  have hq : partyOkB R p now = true := by
    rcases hq : partyOkB R p now with _ | _
    · have := levelOf_no hq
      omega
    · rfl
  refine Br.split (fun k1 => ?_) (fun k1 => ?_) <;> (cbv; repeat (refine Pz.mk ?_; cbv))
  · have e : entOkB R p now = false := by simp_all [entOkB]
    obtain rfl : b = false := hb.trans e
    obtain rfl : x = default := hx.trans (if_neg (by rw [e]; simp))
    repeat' first | exact trivial | refine ⟨rfl, ?_⟩ | fail
  have e : entOkB R p now = true := by simp_all [entOkB]
  obtain rfl : b = true := hb.trans e
  obtain rfl : x = entAt R p now := hx.trans (if_pos e)
  repeat' first | exact trivial | refine ⟨rfl, ?_⟩ | fail
theorem specEntryLess_ok (a b : Entry) : Spec Try.prog 72 [eA .ent a, eA .ent b] (Ret (bR fun _ => entLt a b)) := by
  refine spec_of tabOk Try.func72 rfl rfl (fr := true) (fun _ => by kernel_rfl) fun P hP hA => ?_
  cbv
  repeat' first
    | (refine Br.split (fun h => ?_) (fun h => ?_) <;> (cbv; repeat (refine Pz.mk ?_; cbv)))
    | fail
  all_goals refine ⟨?_, trivial⟩
  all_goals simp_all [entLt]
theorem l9Less_ok (a b : Pin) : Spec Try.prog 69 [eA .pin a, eA .pin b] (Ret (bR fun _ => pinLt a b)) := by
  refine spec_of tabOk Try.func69 rfl rfl (fr := true) (fun _ => by kernel_rfl) fun P hP hA => ?_
  cbv
  repeat' first
    | (refine Br.split (fun h => ?_) (fun h => ?_) <;> (cbv; repeat (refine Pz.mk ?_; cbv)))
    | fail
  all_goals refine ⟨?_, trivial⟩
  all_goals simp_all [pinLt]
def pinOkB (p : Pin) : Bool := isIn p.tm 1 1000008 && isIn p.pid 1 999
end Go.Proofs.Ytlochjpjlhkjaaa

