/- Parts of a proof. No conditions. -/

import Derived.Test.YtnenmkiabclncaaGreatG19
set_option linter.unusedSimpArgs false
set_option linter.unusedVariables false
namespace Go.Proofs.YtnenmkiabclncaaGreat
open Go
set_option maxRecDepth 100000
set_option maxHeartbeats 20000000 in
theorem copyHouse_ok (h : House) (hs : smallHo h) : Spec Tryz.prog 90 [hoA h] (Ret (hoR fun _ => h)) := by
  have q1 : h.rules.seats.length ≤ 1048576 := hs.1
  have q2 : h.parties.length ≤ 1048576 := hs.2.1
  have q3 : h.cabins.length ≤ 1048576 := hs.2.2.1.1
  have q4 : h.todo.length ≤ 1048576 := hs.2.2.2.1
  have q5 : h.jobs.length ≤ 1048576 := hs.2.2.2.2
  have o3 : (0 + h.parties.length) * 80 ≤ 140737488355328 := by omega
  have o4 : (0 + h.todo.length) * 8 ≤ 140737488355328 := by omega
  have o5 : (0 + h.jobs.length) * 8 ≤ 140737488355328 := by omega
  refine spec_of tabOk Tryz.func90 rfl rfl (fr := true) (fun _ => by kernel_rfl) fun P hP hA => ?_
  cbv
  repeat (refine Pz.mk ?_; cbv)
  repeat' first
    | (refine CallA.by hP (copyRules_ok h.rules hs.1) ?_; cbv; repeat (refine Pz.mk ?_; cbv))
    | (refine CallA.by hP (copyInts_ok h.todo hs.2.2.2.1) ?_; cbv; repeat (refine Pz.mk ?_; cbv))
    | (refine CallA.by hP (copyInts_ok h.jobs hs.2.2.2.2) ?_; cbv; repeat (refine Pz.mk ?_; cbv))
    | (refine Ob.mk o3 ?_; cbv; repeat (refine Pz.mk ?_; cbv))
    | refine And.intro ?_ ?_
    | fail
  all_goals
    refine LoopE.by (X := Nat) (fun i => [(2, pN 0), (3, pN 1), (24, lA .cab h.cabins), (25, nT fun _ => h.cabins.length), (26, nT fun _ => i)]) (fun i => [(0, .box [.nil, .lf (.int .i64 fun _ => 0), .lf (.int .i64 fun _ => 0), .lf (.int .i64 fun _ => 0), .lf (.int .i64 fun _ => 0), .lf (.int .i64 fun _ => 0), .lf (.int .i64 fun _ => 0), .lf (.int .i64 fun _ => 0), .lf (.int .i64 fun _ => 0), .lf (.int .i64 fun _ => 0), .lf (.int .i64 fun _ => 0), .nil, .nil, .nil, .nil]), (1, .box [.own 2, .lf (.int .i64 fun _ => h.rules.tiers), .lf (.int .i64 fun _ => h.rules.room), .lf (.int .i64 fun _ => h.rules.size), .lf (.int .i64 fun _ => h.rules.period), .lf (.int .i64 fun _ => h.rules.window), .lf (.int .i64 fun _ => h.rules.rest), .lf (.int .i64 fun _ => h.rules.tries), .lf (.int .i64 fun _ => h.rules.crew), .lf (.int .i64 fun _ => h.now), .lf (.int .i64 fun _ => h.turn), .own 3, .own 4, .own 5, .own 6]), (2, ownB' .int fun _ => h.rules.seats), (3, ownB' .pty fun _ => h.parties), (4, ownB' .cab fun _ => h.cabins.take i), (5, ownB' .int fun _ => h.todo), (6, ownB' .int fun _ => h.jobs)]) (fun i => i ≤ h.cabins.length) (fun i _ => h.cabins.length - i) 0 (Nat.zero_le _) ?_ ?_
    · cbv
      repeat (refine Pz.mk ?_; cbv)
      repeat' first | exact trivial | refine ⟨rfl, ?_⟩ | fail
    · intro i hi
      cbv
      repeat (refine Pz.mk ?_; cbv)
      refine Br.dec (fun h2 => ?_) (fun h2 => ?_) <;> (cbv; repeat (refine Pz.mk ?_; cbv))
      · have h2 : i < h.cabins.length := by simpa using h2
        have o2 : ((h.cabins.take i).length + 1) * 88 ≤ 140737488355328 := by rw [List.length_take]; omega
        repeat' first
          | (refine Ob.mk o2 ?_; cbv; repeat (refine Pz.mk ?_; cbv))
          | (refine Ix.mk h.cabins[i] (by simp) (get_cast h.cabins h2) ?_; cbv; repeat (refine Pz.mk ?_; cbv))
          | (refine CallA.by hP (copyCabin_ok h.cabins[i] (hs.2.2.1.2 _ (List.getElem_mem h2))) ?_; cbv; repeat (refine Pz.mk ?_; cbv))
          | refine And.intro ?_ ?_
          | fail
        all_goals
          refine Ar.exact (by (try simp only [nc] at *); omega) (by (try simp only [nc] at *); omega) ?_
          cbv
          repeat (refine Pz.mk ?_; cbv)
          refine NextE.by (i + 1) ?_ ?_ ?_
          · show h.cabins.length - (i + 1) < h.cabins.length - i
            omega
          · exact h2
          · cbv
            repeat (refine Pz.mk ?_; cbv)
            repeat' first | exact trivial | refine ⟨rfl, ?_⟩ | refine ⟨tk1 h2, ?_⟩ | fail
      · have h2 : h.cabins.length ≤ i := by simp at h2; omega
        have e : h.cabins.take i = h.cabins := List.take_of_length_le h2
        repeat' first | exact trivial | refine ⟨rfl, ?_⟩ | refine ⟨e, ?_⟩ | fail
end Go.Proofs.YtnenmkiabclncaaGreat
namespace Go.Proofs.YtnenmkiabclncaaGreat
open Go
set_option maxRecDepth 100000
set_option maxHeartbeats 20000000 in
theorem l11Copy_ok (h : House) (hs : smallHo h) : Spec Tryz.prog 87 [hoA h] (Ret (hoR fun _ => h)) := by
  have q1 : h.rules.seats.length ≤ 1048576 := hs.1
  have q2 : h.parties.length ≤ 1048576 := hs.2.1
  have q3 : h.cabins.length ≤ 1048576 := hs.2.2.1.1
  have q4 : h.todo.length ≤ 1048576 := hs.2.2.2.1
  have q5 : h.jobs.length ≤ 1048576 := hs.2.2.2.2
  have o3 : (0 + h.parties.length) * 80 ≤ 140737488355328 := by omega
  have o4 : (0 + h.todo.length) * 8 ≤ 140737488355328 := by omega
  have o5 : (0 + h.jobs.length) * 8 ≤ 140737488355328 := by omega
  refine spec_of tabOk Tryz.func87 rfl rfl (fr := true) (fun _ => by kernel_rfl) fun P hP hA => ?_
  cbv
  repeat (refine Pz.mk ?_; cbv)
  refine CallA.by hP (l5Copy_ok h.rules hs.1) ?_
  cbv
  repeat (refine Pz.mk ?_; cbv)
  refine Ob.mk o3 ?_
  cbv
  repeat (refine Pz.mk ?_; cbv)
  refine Ob.mk o4 ?_
  cbv
  repeat (refine Pz.mk ?_; cbv)
  refine Ob.mk o5 ?_
  cbv
  repeat (refine Pz.mk ?_; cbv)
  refine TabG.mk ?_ (by kernel_rfl) ?_
  rotate_left
  · cbv
    repeat' first
      | exact trivial
      | (refine Pz.mk ?_; cbv)
      | (refine CallA.by hP (l5Copy_ok h.rules hs.1) ?_; cbv; repeat (refine Pz.mk ?_; cbv))
      | (refine Ob.mk o3 ?_; cbv; repeat (refine Pz.mk ?_; cbv))
      | (refine Ob.mk o4 ?_; cbv; repeat (refine Pz.mk ?_; cbv))
      | (refine Ob.mk o5 ?_; cbv; repeat (refine Pz.mk ?_; cbv))
      | refine And.intro ?_ ?_
      | rfl
      | fail
  refine LoopE.by (X := Nat) (fun i => [(1, pN 0), (2, pN 1), (3, pN 2), (4, nT fun _ => i)]) (fun i => [(0, .box (hoC h)), (1, .box [.nil, .lf (.int .i64 fun _ => 0), .lf (.int .i64 fun _ => 0), .lf (.int .i64 fun _ => 0), .lf (.int .i64 fun _ => 0), .lf (.int .i64 fun _ => 0), .lf (.int .i64 fun _ => 0), .lf (.int .i64 fun _ => 0), .lf (.int .i64 fun _ => 0), .lf (.int .i64 fun _ => 0), .lf (.int .i64 fun _ => 0), .nil, .nil, .nil, .nil]), (2, .box [.own 3, .lf (.int .i64 fun _ => h.rules.tiers), .lf (.int .i64 fun _ => h.rules.room), .lf (.int .i64 fun _ => h.rules.size), .lf (.int .i64 fun _ => h.rules.period), .lf (.int .i64 fun _ => h.rules.window), .lf (.int .i64 fun _ => h.rules.rest), .lf (.int .i64 fun _ => h.rules.tries), .lf (.int .i64 fun _ => h.rules.crew), .lf (.int .i64 fun _ => h.now), .lf (.int .i64 fun _ => h.turn), .own 4, .own 5, .own 6, .own 7]), (3, ownB' .int fun _ => h.rules.seats), (4, ownB' .pty fun _ => h.parties), (5, ownB' .cab fun _ => h.cabins.take i), (6, ownB' .int fun _ => h.todo), (7, ownB' .int fun _ => h.jobs)]) (fun i => i ≤ h.cabins.length) (fun i _ => h.cabins.length - i) 0 (Nat.zero_le _) ?_ ?_
  · cbv
    repeat (refine Pz.mk ?_; cbv)
    repeat' first | exact trivial | refine ⟨rfl, ?_⟩ | fail
  · intro i hi
    cbv
    repeat (refine Pz.mk ?_; cbv)
    refine Br.dec (fun h2 => ?_) (fun h2 => ?_) <;> (cbv; repeat (refine Pz.mk ?_; cbv))
    · have h2 : i < h.cabins.length := by simpa using h2
      have o2 : ((h.cabins.take i).length + 1) * 88 ≤ 140737488355328 := by rw [List.length_take]; omega
      repeat' first
        | (refine Ob.mk o2 ?_; cbv; repeat (refine Pz.mk ?_; cbv))
        | (refine Ix.mk h.cabins[i] (by simp) (get_cast h.cabins h2) ?_; cbv; repeat (refine Pz.mk ?_; cbv))
        | (refine CallA.by hP (l10Copy_ok h.cabins[i] (hs.2.2.1.2 _ (List.getElem_mem h2))) ?_; cbv; repeat (refine Pz.mk ?_; cbv))
        | refine And.intro ?_ ?_
        | fail
      all_goals
        refine Ar.exact (by (try simp only [nc] at *); omega) (by (try simp only [nc] at *); omega) ?_
        cbv
        repeat (refine Pz.mk ?_; cbv)
        refine NextE.by (i + 1) ?_ ?_ ?_
        · show h.cabins.length - (i + 1) < h.cabins.length - i
          omega
        · exact h2
        · cbv
          repeat (refine Pz.mk ?_; cbv)
          repeat' first | exact trivial | refine ⟨rfl, ?_⟩ | refine ⟨tk1 h2, ?_⟩ | fail
    · have h2 : h.cabins.length ≤ i := by simp at h2; omega
      have e : h.cabins.take i = h.cabins := List.take_of_length_le h2
      repeat' first | exact trivial | refine ⟨rfl, ?_⟩ | refine ⟨e, ?_⟩ | fail
end Go.Proofs.YtnenmkiabclncaaGreat

