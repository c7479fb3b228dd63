/- Parts of a proof. No conditions. -/

import Derived.Test.YticeaiiffeccmaaGreatG32
import Derived.Test.YticeaiiffeccmaaGreatG31
import Derived.Test.YticeaiiffeccmaaGreatG33
import Derived.Test.YticeaiiffeccmaaGreatG07
set_option linter.unusedSimpArgs false
set_option linter.unusedVariables false
namespace Go.Proofs.YticeaiiffeccmaaGreat
open Go
set_option maxRecDepth 100000
set_option maxHeartbeats 4000000 in
theorem QG (x : an) (k : Int) : Spec Tryz.prog 3 [cw x, iA k] (aE (bR fun _ => true)) := by
 refine ay au Tryz.func3 rfl rfl (fr := true) (fun _ => by kernel_rfl) fun P hP hA => ?_;cbv;refine ag.ex hP (tz x 1048576 (by omega) (by omega)) fun r hr => ?_;cbv;refine Br.dec (fun h => ?_) (fun h => ?_) <;> cbv
 · exact ⟨rfl, trivial⟩
 have h0 : 0 ≤ r := by have h : ¬ r < 0 := h; omega
 have hs : bh x := hr.ok h0;have hz := mh hs;have sm := (show jy (dH x k).cabins ∧ gN (dH x k) ≤ 4600000000000000000 from ⟨(CE hs k).2.2.1, mh (CE hs k)⟩);have sz := sm.2
 repeat' first
  | exact trivial
  | exact ⟨rfl, trivial⟩
  | exact ⟨rfl, rfl⟩
  | (refine ag.by hP (l8 x hs) ?_; cbv)
  | (refine ag.by hP (Qs x k hs (dH x k) rfl (cM x k) rfl) ?_; cbv)
  | (refine ag.by hP (CH x k hs (dH x k) rfl (cM x k) rfl) ?_; cbv)
  | (refine ag.by hP (ky x x) ?_; cbv)
  | (refine ag.by hP (ky (dH x k) (dH x k)) ?_; cbv)
  | (refine bB.dL hP (kE x 1 hs.2.2.1 (by omega)) rfl rfl ?_; cbv)
  | (refine bB.dL hP (kE (dH x k) 1 sm.1 (by omega)) rfl rfl ?_; cbv)
  | (refine ag.dL hP (rK (dH x k) 1 sm.1 (by omega)) rfl ?_; cbv)
  | (refine Br.split (fun h => ?_) (fun h => ?_) <;> (cbv))
  | exact (jx h).elim
  | (exfalso; simp at h; done)
  | refine And.intro ?_ ?_
end Go.Proofs.YticeaiiffeccmaaGreat

