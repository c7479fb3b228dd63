/- Parts of a proof. No conditions. -/

import Derived.Test.YtlochjpjlhkjaaaG08
import Derived.Test.YtlochjpjlhkjaaaG07
set_option linter.unusedSimpArgs false
set_option linter.unusedVariables false
namespace Go.Proofs.Ytlochjpjlhkjaaa
open Go
set_option maxRecDepth 100000
def houseAt (x : Rules) : House := ⟨x, 0, 1, [], x.seats.map cabNew, [], List.replicate x.crew.toNat (-1)⟩
def houseNew (x : Rules) : House := if rulesOkB x = true then houseAt x else default
theorem mapStep {α β : Type} (f : α → β) (a : List α) {i : Nat} (h : i < a.length) : (a.take i).map f ++ [f a[i]] = (a.take (i + 1)).map f := by
  rw [List.take_add_one, List.getElem?_eq_getElem h]; simp only [Option.toList_some, List.map_append, List.map_cons, List.map_nil]
theorem succ_lo (i : Nat) : -9223372036854775808 ≤ ((i : Nat) : Int) + 1 := by omega
theorem succ_hi {i : Nat} (h : i + 1 ≤ 3) : ((i : Nat) : Int) + 1 ≤ 9223372036854775807 := by omega
structure RuF (x : Rules) : Prop where
  len : x.seats.length ≤ 4
  lo : 1 ≤ x.crew
  hi : x.crew ≤ 3
  all : ∀ y ∈ x.seats, isIn y 1 60 = true
theorem ruF {x : Rules} (h : rulesOkB x = true) : RuF x := by
  simp only [rulesOkB, Bool.and_eq_true, List.all_eq_true] at h
  obtain ⟨h1, h2, _, _, _, _, _, _, h3, _⟩ := h
  have h1 := isIn_ok h1
  have h3 := isIn_ok h3
  exact ⟨by omega, h3.1, h3.2, h2⟩
theorem specHouseNew_ok (x : Rules) (hs : x.seats.length ≤ bigN) (h : House) (hh : h = houseNew x) (b : Bool) (hb : b = rulesOkB x) : Spec Try.prog 30 [ruA x] (Ret (.tup [(true, hoS fun _ => h), (false, [.bool fun _ => b])])) := by
  refine spec_of tabOk Try.func30 rfl rfl (fr := true) (fun _ => by kernel_rfl) fun P hP hA => ?_
  cbv
  refine CallA.by hP (specRulesOk_ok x hs (rulesOkB x) rfl) ?_
  cbv
  repeat (refine Pz.mk ?_; cbv)
  refine Br.split (fun h0 => ?_) (fun h0 => ?_) <;> (cbv; repeat (refine Pz.mk ?_; cbv))
  · have h0 : rulesOkB x = false := by simpa using h0
    obtain rfl : h = default := hh.trans (if_neg (by rw [h0]; simp))
    obtain rfl : b = false := hb.trans h0
    repeat' first | exact trivial | refine ⟨rfl, ?_⟩ | fail
  have h0 : rulesOkB x = true := by simpa using h0
  obtain rfl : h = houseAt x := hh.trans (if_pos h0)
  obtain rfl : b = true := hb.trans h0
  have hF := ruF h0
  have hl := hF.len
  have hc1 := hF.lo
  have hc2 := hF.hi
  refine CallA.by hP (l5Copy_ok x hs) ?_
  cbv
  repeat (refine Pz.mk ?_; cbv)
  refine LoopE.by (X := Nat) (fun i => [(1, pN 0), (2, pN 1), (4, pN 2), (5, nT fun _ => i)]) (fun i => [(0, .box [.lf (.list .int fun _ => x.seats), .lf (.int .i64 fun _ => x.tiers), .lf (.int .i64 fun _ => x.room), .lf (.int .i64 fun _ => x.size), .lf (.int .i64 fun _ => x.period), .lf (.int .i64 fun _ => x.window), .lf (.int .i64 fun _ => x.rest), .lf (.int .i64 fun _ => x.tries), .lf (.int .i64 fun _ => x.crew)]), (1, .box [.nil, .lf (.int .i64 fun _ => 0), .lf (.int .i64 fun _ => 0), .lf (.int .i64 fun _ => 0), .lf (.int .i64 fun _ => 0), .lf (.int .i64 fun _ => 0), .lf (.int .i64 fun _ => 0), .lf (.int .i64 fun _ => 0), .lf (.int .i64 fun _ => 0), .lf (.int .i64 fun _ => 0), .lf (.int .i64 fun _ => 0), .nil, .nil, .nil, .nil]), (2, .box [.own 3, .lf (.int .i64 fun _ => x.tiers), .lf (.int .i64 fun _ => x.room), .lf (.int .i64 fun _ => x.size), .lf (.int .i64 fun _ => x.period), .lf (.int .i64 fun _ => x.window), .lf (.int .i64 fun _ => x.rest), .lf (.int .i64 fun _ => x.tries), .lf (.int .i64 fun _ => x.crew), .lf (.int .i64 fun _ => 0), .lf (.int .i64 fun _ => 1), .nil, .own 4, .nil, .nil]), (3, ownB' .int fun _ => x.seats), (4, ownB' .cab fun _ => (x.seats.take i).map cabNew)]) (fun i => i ≤ x.seats.length) (fun i _ => x.seats.length - i) 0 (Nat.zero_le _) ?_ ?_
  · cbv
    repeat' first | exact trivial | refine ⟨rfl, ?_⟩ | fail
  · intro i hi
    cbv
    refine Br.dec (fun h2 => ?_) (fun h2 => ?_) <;> (cbv; repeat (refine Pz.mk ?_; cbv))
    · have h2 : (i : Int) < (x.seats.length : Int) := h2
      have h2 : i < x.seats.length := by omega
      refine ⟨x.seats[i], by simp, get_cast x.seats h2, ?_⟩
      cbv
      refine CallA.by hP (specCabinNew_ok x.seats[i] (cabNew x.seats[i]) rfl (isIn x.seats[i] 1 60) rfl) ?_
      cbv
      repeat (refine Pz.mk ?_; cbv)
      refine ⟨?_, ?_⟩
      · show (((x.seats.take i).map cabNew).length + 1) * 88 ≤ 140737488355328
        rw [List.length_map, List.length_take]; omega
      cbv
      refine Ar.exact ?_ ?_ ?_
      · show -9223372036854775808 ≤ (i : Int) + 1
        omega
      · show (i : Int) + 1 ≤ 9223372036854775807
        omega
      cbv
      refine NextE.by (i + 1) ?_ ?_ ?_
      · show x.seats.length - (i + 1) < x.seats.length - i
        omega
      · exact h2
      · cbv
        repeat' first | exact trivial | refine ⟨rfl, ?_⟩ | fail
        refine ⟨?_, trivial⟩
        exact mapStep cabNew x.seats h2
    have h2 : ¬ (i : Int) < (x.seats.length : Int) := h2
    have h2 : x.seats.length ≤ i := by omega
    have hcab : (x.seats.take i).map cabNew = x.seats.map cabNew := by rw [List.take_of_length_le h2]
    refine LoopE.by (X := Nat) (fun j => [(1, pN 0), (2, pN 1), (4, pN 2), (8, nT fun _ => j)]) (fun j => [(0, .box [.lf (.list .int fun _ => x.seats), .lf (.int .i64 fun _ => x.tiers), .lf (.int .i64 fun _ => x.room), .lf (.int .i64 fun _ => x.size), .lf (.int .i64 fun _ => x.period), .lf (.int .i64 fun _ => x.window), .lf (.int .i64 fun _ => x.rest), .lf (.int .i64 fun _ => x.tries), .lf (.int .i64 fun _ => x.crew)]), (1, .box [.nil, .lf (.int .i64 fun _ => 0), .lf (.int .i64 fun _ => 0), .lf (.int .i64 fun _ => 0), .lf (.int .i64 fun _ => 0), .lf (.int .i64 fun _ => 0), .lf (.int .i64 fun _ => 0), .lf (.int .i64 fun _ => 0), .lf (.int .i64 fun _ => 0), .lf (.int .i64 fun _ => 0), .lf (.int .i64 fun _ => 0), .nil, .nil, .nil, .nil]), (2, .box [.own 3, .lf (.int .i64 fun _ => x.tiers), .lf (.int .i64 fun _ => x.room), .lf (.int .i64 fun _ => x.size), .lf (.int .i64 fun _ => x.period), .lf (.int .i64 fun _ => x.window), .lf (.int .i64 fun _ => x.rest), .lf (.int .i64 fun _ => x.tries), .lf (.int .i64 fun _ => x.crew), .lf (.int .i64 fun _ => 0), .lf (.int .i64 fun _ => 1), .nil, .own 4, .nil, .own 5]), (3, ownB' .int fun _ => x.seats), (4, ownB' .cab fun _ => x.seats.map cabNew), (5, ownB' .int fun _ => List.replicate j (-1))]) (fun j => j ≤ x.crew.toNat) (fun j _ => x.crew.toNat - j) 0 (Nat.zero_le _) ?_ ?_
    · cbv
      repeat' first | exact trivial | refine ⟨rfl, ?_⟩ | fail
      refine ⟨hcab, ?_⟩
      repeat' first | exact trivial | refine ⟨rfl, ?_⟩ | fail
    · intro i hi
      cbv
      refine Br.dec (fun h2 => ?_) (fun h2 => ?_) <;> (cbv; repeat (refine Pz.mk ?_; cbv))
      · have h2 : (i : Int) < x.crew := h2
        have h4 : i + 1 ≤ 3 := by omega
        have h5 : i + 1 ≤ x.crew.toNat := by omega
        refine ⟨?_, ?_⟩
        · show ((List.replicate i (-1 : Int)).length + 1) * 8 ≤ 140737488355328
          rw [List.length_replicate]; omega
        cbv
        refine Ar.exact (succ_lo i) (succ_hi h4) ?_
        cbv
        refine NextE.by (i + 1) ?_ ?_ ?_
        · show x.crew.toNat - (i + 1) < x.crew.toNat - i
          omega
        · exact h5
        · cbv
          repeat' first | exact trivial | refine ⟨rfl, ?_⟩ | fail
          refine ⟨?_, trivial⟩
          exact (List.replicate_succ' (n := i) (a := (-1 : Int))).symm
      have h2 : ¬ (i : Int) < x.crew := h2
      have hi : i ≤ x.crew.toNat := hi
      obtain rfl : i = x.crew.toNat := by omega
      repeat' first | exact trivial | refine ⟨rfl, ?_⟩ | fail
end Go.Proofs.Ytlochjpjlhkjaaa

