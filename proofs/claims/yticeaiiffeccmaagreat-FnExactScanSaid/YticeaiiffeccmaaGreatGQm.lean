/- Parts of a proof. No conditions. -/

import Derived.Test.YticeaiiffeccmaaGreatG35
import Derived.Test.YticeaiiffeccmaaGreatG07
set_option linter.unusedSimpArgs false
set_option linter.unusedVariables false
namespace Go.Proofs.YticeaiiffeccmaaGreat
open Go
set_option maxRecDepth 100000
set_option maxHeartbeats 4000000 in
theorem QB (x : an) (k : Int) : Spec Tryz.prog 4 [cw x, iA k] (aE (bR fun _ => true)) := by
 refine ay au Tryz.func4 rfl rfl (fr := true) (fun _ => by kernel_rfl) fun P hP hA => ?_;cbv;refine ag.ex hP (tz x 1048576 (by omega) (by omega)) fun r hr => ?_;cbv;refine Br.dec (fun h => ?_) (fun h => ?_) <;> cbv
 · exact ⟨rfl, trivial⟩
 have h0 : 0 ≤ r := by have h : ¬ r < 0 := h; omega
 have hs : bh x := hr.ok h0;have hz := mh hs;have sm := (show jy (cZ x k).cabins ∧ gN (cZ x k) ≤ 4600000000000000000 from ⟨(yI hs k).2.2.1, mh (yI hs k)⟩);have sz := sm.2
 repeat' first
  | exact trivial
  | exact ⟨rfl, trivial⟩
  | exact ⟨rfl, rfl⟩
  | (refine ag.by hP (l8 x hs) ?_; cbv)
  | (refine ag.by hP (Qn x k hs (cZ x k) rfl) ?_; cbv)
  | (refine ag.by hP (IL x k hs (cZ x k) rfl) ?_; cbv)
  | (refine ag.by hP (ky x x) ?_; cbv)
  | (refine ag.by hP (ky (cZ x k) (cZ x k)) ?_; cbv)
  | (refine bB.dL hP (kE x 1 hs.2.2.1 (by omega)) rfl rfl ?_; cbv)
  | (refine bB.dL hP (kE (cZ x k) 1 sm.1 (by omega)) rfl rfl ?_; cbv)
  | (refine ag.dL hP (rK (cZ x k) 1 sm.1 (by omega)) rfl ?_; cbv)
  | (refine Br.split (fun h => ?_) (fun h => ?_) <;> (cbv))
  | exact (jx h).elim
  | (exfalso; simp at h; done)
  | refine And.intro ?_ ?_
set_option maxHeartbeats 4000000 in
theorem QC (x : an) (k : Int) : Spec Tryz.prog 5 [cw x, iA k] (aE (bR fun _ => true)) := by
 refine ay au Tryz.func5 rfl rfl (fr := true) (fun _ => by kernel_rfl) fun P hP hA => ?_;cbv;refine ag.ex hP (tz x 1048576 (by omega) (by omega)) fun r hr => ?_;cbv;refine Br.dec (fun h => ?_) (fun h => ?_) <;> cbv
 · exact ⟨rfl, trivial⟩
 have h0 : 0 ≤ r := by have h : ¬ r < 0 := h; omega
 have hs : bh x := hr.ok h0;have hz := mh hs;have sm := (show jy (cK x k).1.cabins ∧ gN (cK x k).1 ≤ 4600000000000000000 from ⟨((wo hs k).1).2.2.1, mh ((wo hs k).1)⟩);have sz := sm.2;have dq := (wo hs k).2
 repeat' first
  | exact trivial
  | exact ⟨rfl, trivial⟩
  | exact ⟨rfl, rfl⟩
  | (refine ag.by hP (l8 x hs) ?_; cbv)
  | (refine ag.by hP (IQ x k hs (cK x k).1 rfl (cK x k).2 rfl) ?_; cbv)
  | (refine ag.by hP (IP x k hs (cK x k).1 rfl (cK x k).2 rfl) ?_; cbv)
  | (refine ag.by hP (ky x x) ?_; cbv)
  | (refine ag.by hP (ky (cK x k).1 (cK x k).1) ?_; cbv)
  | (refine ag.by hP (tw (cK x k).2 (cK x k).2) ?_; cbv)
  | (refine bB.dL hP (kE x 1 hs.2.2.1 (by omega)) rfl rfl ?_; cbv)
  | (refine bB.dL hP (kE (cK x k).1 1 sm.1 (by omega)) rfl rfl ?_; cbv)
  | (refine bB.dL hP (rD (cK x k).2 (1 + gN (cK x k).1) (by omega)) rfl rfl ?_; cbv)
  | (refine ag.dL hP (rK (cK x k).1 1 sm.1 (by omega)) rfl ?_; cbv)
  | (refine ag.by hP (rE (cK x k).2.length (1 + gN (cK x k).1) (by omega)) ?_; cbv)
  | (refine Br.split (fun h => ?_) (fun h => ?_) <;> (cbv))
  | exact (jx h).elim
  | (exfalso; simp at h; done)
  | refine And.intro ?_ ?_
end Go.Proofs.YticeaiiffeccmaaGreat

