/- Parts of a proof. No conditions. -/

import Derived.Test.YtnenmkiabclncaaGreatG32
import Derived.Test.YtnenmkiabclncaaGreatG28
import Derived.Test.YtnenmkiabclncaaGreatG29
import Derived.Test.YtnenmkiabclncaaGreatG30
import Derived.Test.YtnenmkiabclncaaGreatG07
set_option linter.unusedSimpArgs false
set_option linter.unusedVariables false
namespace Go.Proofs.YtnenmkiabclncaaGreat
open Go
set_option maxRecDepth 100000
set_option maxHeartbeats 4000000 in
theorem lawCancel_ok (x : House) (id : Int) : Spec Tryz.prog 10 [hoA x, iA id] (Ret (bR fun _ => true)) := by
  refine spec_of tabOk Tryz.func10 rfl rfl (fr := true) (fun _ => by kernel_rfl) fun P hP hA => ?_
  cbv
  repeat (refine Pz.mk ?_; cbv)
  refine CallA.ex hP (szHouse_ok x 1048576 (by omega) (by omega)) fun r hr => ?_
  cbv
  repeat (refine Pz.mk ?_; cbv)
  refine Br.dec (fun h => ?_) (fun h => ?_) <;> (cbv; repeat (refine Pz.mk ?_; cbv))
  · exact ⟨rfl, trivial⟩
  have h0 : 0 ≤ r := by have h : ¬ r < 0 := h; omega
  have hs : smallHo x := hr.ok h0
  have hz := zHo_le hs
  have sm := (show smallCabs (cancelOf x id).cabins ∧ zHo (cancelOf x id) ≤ 4600000000000000000 from ⟨(cancel_small hs id).2.2.1, zHo_le (cancel_small hs id)⟩)
  have sz := sm.2
  repeat' first
    | exact trivial
    | exact ⟨rfl, trivial⟩
    | exact ⟨rfl, rfl⟩
    | (refine CallA.by hP (toHouse_ok x hs) ?_; cbv; repeat (refine Pz.mk ?_; cbv))
    | (refine CallA.by hP (specCancel_ok x id hs (cancelOf x id) rfl (verdictOf x (cancelQ id)) rfl) ?_; cbv; repeat (refine Pz.mk ?_; cbv))
    | (refine CallA.by hP (implCancel_ok x id hs (cancelOf x id) rfl (verdictOf x (cancelQ id)) rfl) ?_; cbv; repeat (refine Pz.mk ?_; cbv))
    | (refine CallA.by hP (eqHouse_ok x x) ?_; cbv; repeat (refine Pz.mk ?_; cbv))
    | (refine CallA.by hP (eqHouse_ok (cancelOf x id) (cancelOf x id)) ?_; cbv; repeat (refine Pz.mk ?_; cbv))
    | (refine CallM.byE hP (markHouse_ok x 1 hs.2.2.1 (by omega)) rfl rfl ?_; cbv; repeat (refine Pz.mk ?_; cbv))
    | (refine CallM.byE hP (markHouse_ok (cancelOf x id) 1 sm.1 (by omega)) rfl rfl ?_; cbv; repeat (refine Pz.mk ?_; cbv))
    | (refine CallA.byE hP (heldHouse_ok (cancelOf x id) 1 sm.1 (by omega)) rfl ?_; cbv; repeat (refine Pz.mk ?_; cbv))
    | (refine Br.split (fun h => ?_) (fun h => ?_) <;> (cbv; repeat (refine Pz.mk ?_; cbv)))
    | exact (neg_no h).elim
    | (exfalso; simp at h; done)
    | refine And.intro ?_ ?_
set_option maxHeartbeats 4000000 in
theorem lawAccept_ok (x : House) (id : Int) : Spec Tryz.prog 9 [hoA x, iA id] (Ret (bR fun _ => true)) := by
  refine spec_of tabOk Tryz.func9 rfl rfl (fr := true) (fun _ => by kernel_rfl) fun P hP hA => ?_
  cbv
  repeat (refine Pz.mk ?_; cbv)
  refine CallA.ex hP (szHouse_ok x 1048576 (by omega) (by omega)) fun r hr => ?_
  cbv
  repeat (refine Pz.mk ?_; cbv)
  refine Br.dec (fun h => ?_) (fun h => ?_) <;> (cbv; repeat (refine Pz.mk ?_; cbv))
  · exact ⟨rfl, trivial⟩
  have h0 : 0 ≤ r := by have h : ¬ r < 0 := h; omega
  have hs : smallHo x := hr.ok h0
  have hz := zHo_le hs
  have sm := (show smallCabs (acceptOf x id).cabins ∧ zHo (acceptOf x id) ≤ 4600000000000000000 from ⟨(accept_small hs id).2.2.1, zHo_le (accept_small hs id)⟩)
  have sz := sm.2
  repeat' first
    | exact trivial
    | exact ⟨rfl, trivial⟩
    | exact ⟨rfl, rfl⟩
    | (refine CallA.by hP (toHouse_ok x hs) ?_; cbv; repeat (refine Pz.mk ?_; cbv))
    | (refine CallA.by hP (specAccept_ok x id hs (acceptOf x id) rfl (verdictOf x (acceptQ id)) rfl) ?_; cbv; repeat (refine Pz.mk ?_; cbv))
    | (refine CallA.by hP (implAccept_ok x id hs (acceptOf x id) rfl (verdictOf x (acceptQ id)) rfl) ?_; cbv; repeat (refine Pz.mk ?_; cbv))
    | (refine CallA.by hP (eqHouse_ok x x) ?_; cbv; repeat (refine Pz.mk ?_; cbv))
    | (refine CallA.by hP (eqHouse_ok (acceptOf x id) (acceptOf x id)) ?_; cbv; repeat (refine Pz.mk ?_; cbv))
    | (refine CallM.byE hP (markHouse_ok x 1 hs.2.2.1 (by omega)) rfl rfl ?_; cbv; repeat (refine Pz.mk ?_; cbv))
    | (refine CallM.byE hP (markHouse_ok (acceptOf x id) 1 sm.1 (by omega)) rfl rfl ?_; cbv; repeat (refine Pz.mk ?_; cbv))
    | (refine CallA.byE hP (heldHouse_ok (acceptOf x id) 1 sm.1 (by omega)) rfl ?_; cbv; repeat (refine Pz.mk ?_; cbv))
    | (refine Br.split (fun h => ?_) (fun h => ?_) <;> (cbv; repeat (refine Pz.mk ?_; cbv)))
    | exact (neg_no h).elim
    | (exfalso; simp at h; done)
    | refine And.intro ?_ ?_
set_option maxHeartbeats 4000000 in
theorem lawDecline_ok (x : House) (id : Int) : Spec Tryz.prog 14 [hoA x, iA id] (Ret (bR fun _ => true)) := by
  refine spec_of tabOk Tryz.func14 rfl rfl (fr := true) (fun _ => by kernel_rfl) fun P hP hA => ?_
  cbv
  repeat (refine Pz.mk ?_; cbv)
  refine CallA.ex hP (szHouse_ok x 1048576 (by omega) (by omega)) fun r hr => ?_
  cbv
  repeat (refine Pz.mk ?_; cbv)
  refine Br.dec (fun h => ?_) (fun h => ?_) <;> (cbv; repeat (refine Pz.mk ?_; cbv))
  · exact ⟨rfl, trivial⟩
  have h0 : 0 ≤ r := by have h : ¬ r < 0 := h; omega
  have hs : smallHo x := hr.ok h0
  have hz := zHo_le hs
  have sm := (show smallCabs (declineOf x id).cabins ∧ zHo (declineOf x id) ≤ 4600000000000000000 from ⟨(decline_small hs id).2.2.1, zHo_le (decline_small hs id)⟩)
  have sz := sm.2
  repeat' first
    | exact trivial
    | exact ⟨rfl, trivial⟩
    | exact ⟨rfl, rfl⟩
    | (refine CallA.by hP (toHouse_ok x hs) ?_; cbv; repeat (refine Pz.mk ?_; cbv))
    | (refine CallA.by hP (specDecline_ok x id hs (declineOf x id) rfl (verdictOf x (declineQ id)) rfl) ?_; cbv; repeat (refine Pz.mk ?_; cbv))
    | (refine CallA.by hP (implDecline_ok x id hs (declineOf x id) rfl (verdictOf x (declineQ id)) rfl) ?_; cbv; repeat (refine Pz.mk ?_; cbv))
    | (refine CallA.by hP (eqHouse_ok x x) ?_; cbv; repeat (refine Pz.mk ?_; cbv))
    | (refine CallA.by hP (eqHouse_ok (declineOf x id) (declineOf x id)) ?_; cbv; repeat (refine Pz.mk ?_; cbv))
    | (refine CallM.byE hP (markHouse_ok x 1 hs.2.2.1 (by omega)) rfl rfl ?_; cbv; repeat (refine Pz.mk ?_; cbv))
    | (refine CallM.byE hP (markHouse_ok (declineOf x id) 1 sm.1 (by omega)) rfl rfl ?_; cbv; repeat (refine Pz.mk ?_; cbv))
    | (refine CallA.byE hP (heldHouse_ok (declineOf x id) 1 sm.1 (by omega)) rfl ?_; cbv; repeat (refine Pz.mk ?_; cbv))
    | (refine Br.split (fun h => ?_) (fun h => ?_) <;> (cbv; repeat (refine Pz.mk ?_; cbv)))
    | exact (neg_no h).elim
    | (exfalso; simp at h; done)
    | refine And.intro ?_ ?_
end Go.Proofs.YtnenmkiabclncaaGreat

