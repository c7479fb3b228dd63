/- Parts of a proof. No conditions. -/

import Derived.Test.YtlochjpjlhkjaaaGKe
set_option linter.unusedSimpArgs false
set_option linter.unusedVariables false
namespace Go.Proofs.Ytlochjpjlhkjaaa
open Go
set_option maxRecDepth 100000
theorem l9Copy_ok (w : List (List Pin)) (hw : smallSpk w) : Spec Try.prog 62 [whA w] (Ret (whR fun _ => w)) := by
  have hl : w.length ≤ 1048576 := hw.1
  refine spec_of tabOk Try.func62 rfl rfl (fr := true) (fun _ => by kernel_rfl) fun P hP hA => ?_
  cbv
  repeat (refine Pz.mk ?_; cbv)
  refine LoopE.by (X := Nat) (fun i => [(1, pN 0), (2, pN 1), (3, pN 2), (4, nT fun _ => i)]) (fun i => [(0, .box [.lf (.list .spk fun _ => w)]), (1, .box [.nil]), (2, .box [.own 3]), (3, ownB' .spk fun _ => w.take i)]) (fun i => i ≤ w.length) (fun i _ => w.length - i) 0 (Nat.zero_le _) ?_ ?_
  · cbv
    repeat (refine Pz.mk ?_; cbv)
    repeat' first | exact trivial | refine ⟨rfl, ?_⟩ | fail
  · intro i hi
    cbv
    repeat (refine Pz.mk ?_; cbv)
    refine Br.dec (fun h2 => ?_) (fun h2 => ?_) <;> (cbv; repeat (refine Pz.mk ?_; cbv))
    · have h2 : i < w.length := by simpa using h2
      have hp : w[i].length ≤ 1048576 := hw.2 _ (List.getElem_mem h2)
      have o1 : (0 + w[i].length) * 16 ≤ 140737488355328 := by omega
      have o2 : ((w.take i).length + 1) * 24 ≤ 140737488355328 := by rw [List.length_take]; omega
      repeat' first
        | (refine Ob.mk o1 ?_; cbv; repeat (refine Pz.mk ?_; cbv))
        | (refine Ob.mk o2 ?_; cbv; repeat (refine Pz.mk ?_; cbv))
        | (refine Ix.mk w[i] (by simp) (get_cast w h2) ?_; cbv; repeat (refine Pz.mk ?_; cbv))
        | refine And.intro ?_ ?_
        | fail
      all_goals
        refine Ar.exact (by (try simp only [nc] at *); omega) (by (try simp only [nc] at *); omega) ?_
        cbv
        repeat (refine Pz.mk ?_; cbv)
        refine NextE.by (i + 1) ?_ ?_ ?_
        · show w.length - (i + 1) < w.length - i
          omega
        · exact h2
        · cbv
          repeat (refine Pz.mk ?_; cbv)
          repeat' first | exact trivial | refine ⟨rfl, ?_⟩ | refine ⟨tk1 h2, ?_⟩ | fail
    · have h2 : w.length ≤ i := by simp at h2; omega
      have e : w.take i = w := List.take_of_length_le h2
      repeat' first | exact trivial | refine ⟨rfl, ?_⟩ | refine ⟨e, ?_⟩ | fail
end Go.Proofs.Ytlochjpjlhkjaaa

