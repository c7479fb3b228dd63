/- Parts of a proof. No conditions. -/

import Derived.Test.YtnenmkiabclncaaGreatG32
import Derived.Test.YtnenmkiabclncaaGreatG31
import Derived.Test.YtnenmkiabclncaaGreatG33
import Derived.Test.YtnenmkiabclncaaGreatG07
set_option linter.unusedSimpArgs false
set_option linter.unusedVariables false
namespace Go.Proofs.YtnenmkiabclncaaGreat
open Go
set_option maxRecDepth 100000
set_option maxHeartbeats 4000000 in
theorem lawJoin_ok (x : House) (id cab frm siz tier : Int) : Spec Tryz.prog 12 [hoA x, iA id, iA cab, iA frm, iA siz, iA tier] (Ret (bR fun _ => true)) := by
  refine spec_of tabOk Tryz.func12 rfl rfl (fr := true) (fun _ => by kernel_rfl) fun P hP hA => ?_
  cbv
  repeat (refine Pz.mk ?_; cbv)
  refine CallA.ex hP (szHouse_ok x 1048576 (by omega) (by omega)) fun r hr => ?_
  cbv
  repeat (refine Pz.mk ?_; cbv)
  refine Br.dec (fun h => ?_) (fun h => ?_) <;> (cbv; repeat (refine Pz.mk ?_; cbv))
  · exact ⟨rfl, trivial⟩
  have h0 : 0 ≤ r := by have h : ¬ r < 0 := h; omega
  have hs : smallHo x := hr.ok h0
  have hz := zHo_le hs
  have sm := (show smallCabs (joinOf x id cab frm siz tier).cabins ∧ zHo (joinOf x id cab frm siz tier) ≤ 4600000000000000000 from ⟨(join_small hs id cab frm siz tier).2.2.1, zHo_le (join_small hs id cab frm siz tier)⟩)
  have sz := sm.2
  repeat' first
    | exact trivial
    | exact ⟨rfl, trivial⟩
    | exact ⟨rfl, rfl⟩
    | (refine CallA.by hP (toHouse_ok x hs) ?_; cbv; repeat (refine Pz.mk ?_; cbv))
    | (refine CallA.by hP (specJoin_ok x id cab frm siz tier hs (joinOf x id cab frm siz tier) rfl (verdictOf x (joinQ id cab frm siz tier)) rfl) ?_; cbv; repeat (refine Pz.mk ?_; cbv))
    | (refine CallA.by hP (implJoin_ok x id cab frm siz tier hs (joinOf x id cab frm siz tier) rfl (verdictOf x (joinQ id cab frm siz tier)) rfl) ?_; cbv; repeat (refine Pz.mk ?_; cbv))
    | (refine CallA.by hP (eqHouse_ok x x) ?_; cbv; repeat (refine Pz.mk ?_; cbv))
    | (refine CallA.by hP (eqHouse_ok (joinOf x id cab frm siz tier) (joinOf x id cab frm siz tier)) ?_; cbv; repeat (refine Pz.mk ?_; cbv))
    | (refine CallM.byE hP (markHouse_ok x 1 hs.2.2.1 (by omega)) rfl rfl ?_; cbv; repeat (refine Pz.mk ?_; cbv))
    | (refine CallM.byE hP (markHouse_ok (joinOf x id cab frm siz tier) 1 sm.1 (by omega)) rfl rfl ?_; cbv; repeat (refine Pz.mk ?_; cbv))
    | (refine CallA.byE hP (heldHouse_ok (joinOf x id cab frm siz tier) 1 sm.1 (by omega)) rfl ?_; cbv; repeat (refine Pz.mk ?_; cbv))
    | (refine Br.split (fun h => ?_) (fun h => ?_) <;> (cbv; repeat (refine Pz.mk ?_; cbv)))
    | exact (neg_no h).elim
    | (exfalso; simp at h; done)
    | refine And.intro ?_ ?_
end Go.Proofs.YtnenmkiabclncaaGreat

