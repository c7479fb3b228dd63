/- Parts of a proof. No conditions. -/

import Derived.Test.YtehpbaiclfilaaaGreatG19
set_option linter.unusedSimpArgs false
set_option linter.unusedVariables false
namespace Go.Proofs.YtehpbaiclfilaaaGreat
open Go
set_option maxRecDepth 100000
set_option maxHeartbeats 20000000 in
theorem mJ (h : ai) (hs : bh h) : Spec Tryz.prog 81 [dk h] (aE (rR fun _ => h)) := by
 have q1 : h.rules.ah.length ≤ 1048576 := hs.1;have q2 : h.ae.length ≤ 1048576 := hs.2.1;have q3 : h.cabins.length ≤ 1048576 := hs.2.2.1.1;have q4 : h.todo.length ≤ 1048576 := hs.2.2.2.1;have q5 : h.aN.length ≤ 1048576 := hs.2.2.2.2;have o3 : (0 + h.ae.length) * 80 ≤ 140737488355328 := by omega
 have o4 : (0 + h.todo.length) * 8 ≤ 140737488355328 := by omega
 have o5 : (0 + h.aN.length) * 8 ≤ 140737488355328 := by omega
 refine aH ay Tryz.func81 rfl rfl (fr := true) (fun _ => by kernel_rfl) fun P hP hA => ?_;cbv
 repeat' first
  | (refine ag.by hP (Pr h.rules hs.1) ?_; cbv)
  | (refine ag.by hP (zO h.todo hs.2.2.2.1) ?_; cbv)
  | (refine ag.by hP (zO h.aN hs.2.2.2.2) ?_; cbv)
  | (refine Ob.mk o3 ?_; cbv)
  | refine And.intro ?_ ?_
  | fail
 all_goals
  refine aT.by (X := Nat) (fun i => [(2, pN 0), (3, pN 1), (24, lA .cf h.cabins), (25, nT fun _ => h.cabins.length), (26, nT fun _ => i)]) (fun i => [(0, .box [.nil, .lf (.int .i64 fun _ => 0), .lf (.int .i64 fun _ => 0), .lf (.int .i64 fun _ => 0), .lf (.int .i64 fun _ => 0), .lf (.int .i64 fun _ => 0), .lf (.int .i64 fun _ => 0), .lf (.int .i64 fun _ => 0), .lf (.int .i64 fun _ => 0), .lf (.int .i64 fun _ => 0), .lf (.int .i64 fun _ => 0), .nil, .nil, .nil, .nil]), (1, .box [.own 2, .lf (.int .i64 fun _ => h.rules.cm), .lf (.int .i64 fun _ => h.rules.room), .lf (.int .i64 fun _ => h.rules.size), .lf (.int .i64 fun _ => h.rules.period), .lf (.int .i64 fun _ => h.rules.ck), .lf (.int .i64 fun _ => h.rules.rest), .lf (.int .i64 fun _ => h.rules.tries), .lf (.int .i64 fun _ => h.rules.bP), .lf (.int .i64 fun _ => h.now), .lf (.int .i64 fun _ => h.aw), .own 3, .own 4, .own 5, .own 6]), (2, aQ .int fun _ => h.rules.ah), (3, aQ .az fun _ => h.ae), (4, aQ .cf fun _ => h.cabins.take i), (5, aQ .int fun _ => h.todo), (6, aQ .int fun _ => h.aN)]) (fun i => i ≤ h.cabins.length) (fun i _ => h.cabins.length - i) 0 (Nat.zero_le _) ?_ ?_
  · cbv
    repeat' first | exact trivial | refine ⟨rfl, ?_⟩ | fail
  · intro i hi;cbv;refine Br.dec (fun h2 => ?_) (fun h2 => ?_) <;> cbv
    · have h2 : i < h.cabins.length := by simpa using h2
      have o2 : ((h.cabins.take i).length + 1) * 88 ≤ 140737488355328 := by rw [List.length_take]; omega
      repeat' first
       | (refine Ob.mk o2 ?_; cbv)
       | (refine Ix.mk h.cabins[i] (by simp) (get_cast h.cabins h2) ?_; cbv)
       | (refine ag.by hP (QQ h.cabins[i] (hs.2.2.1.2 _ (List.getElem_mem h2))) ?_; cbv)
       | refine And.intro ?_ ?_
       | fail
      all_goals
       refine Ar.exact (by (try simp only [nc] at *); omega) (by (try simp only [nc] at *); omega) ?_;cbv;refine aJ.by (i + 1) ?_ ?_ ?_
       · show h.cabins.length - (i + 1) < h.cabins.length - i;omega
       · exact h2
       · cbv
         repeat' first | exact trivial | refine ⟨rfl, ?_⟩ | refine ⟨Ee h2, ?_⟩ | fail
    · have h2 : h.cabins.length ≤ i := by simp at h2; omega
      have e : h.cabins.take i = h.cabins := List.take_of_length_le h2
      repeat' first | exact trivial | refine ⟨rfl, ?_⟩ | refine ⟨e, ?_⟩ | fail
end Go.Proofs.YtehpbaiclfilaaaGreat

