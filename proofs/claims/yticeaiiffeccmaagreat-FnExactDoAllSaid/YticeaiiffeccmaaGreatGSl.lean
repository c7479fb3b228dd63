/- Parts of a proof. No conditions. -/

import Derived.Test.YticeaiiffeccmaaGreatG39
import Derived.Test.YticeaiiffeccmaaGreatG36
import Derived.Test.YticeaiiffeccmaaGreatG07
set_option linter.unusedSimpArgs false
set_option linter.unusedVariables false
namespace Go.Proofs.YticeaiiffeccmaaGreat
open Go
set_option maxRecDepth 100000
set_option maxHeartbeats 4000000 in
theorem Q3 (x : an) (k : Int) : Spec Tryz.prog 6 [cw x, iA k] (aE (bR fun _ => true)) := by
 refine ay au Tryz.func6 rfl rfl (fr := true) (fun _ => by kernel_rfl) fun P hP hA => ?_;cbv;refine ag.ex hP (tz x 1048576 (by omega) (by omega)) fun r hr => ?_;cbv;refine Br.dec (fun h => ?_) (fun h => ?_) <;> cbv
 · exact ⟨rfl, trivial⟩
 have h0 : 0 ≤ r := by have h : ¬ r < 0 := h; omega
 have hs : bh x := hr.ok h0;have hz := mh hs;have sm := (show jy (iu x k).cabins ∧ gN (iu x k) ≤ 4600000000000000000 from ⟨(CL hs k).2.2.1, mh (CL hs k)⟩);have sz := sm.2;have dq := IX hs k
 repeat' first
  | exact trivial
  | exact ⟨rfl, trivial⟩
  | exact ⟨rfl, rfl⟩
  | (refine ag.by hP (l8 x hs) ?_; cbv)
  | (refine ag.by hP (I4 x k hs (iu x k) rfl (aY x (gl k)) rfl (iv x k) rfl) ?_; cbv)
  | (refine ag.by hP (I5 x k hs (iu x k) rfl (aY x (gl k)) rfl (iv x k) rfl) ?_; cbv)
  | (refine ag.by hP (ky x x) ?_; cbv)
  | (refine ag.by hP (ky (iu x k) (iu x k)) ?_; cbv)
  | (refine bB.dL hP (kE x 1 hs.2.2.1 (by omega)) rfl rfl ?_; cbv)
  | (refine bB.dL hP (kE (iu x k) 1 sm.1 (by omega)) rfl rfl ?_; cbv)
  | (refine ag.dL hP (rK (iu x k) 1 sm.1 (by omega)) rfl ?_; cbv)
  | (refine ag.by hP (tw (iv x k) (iv x k)) ?_; cbv)
  | (refine bB.dL hP (rD (iv x k) (1 + gN (iu x k)) (by omega)) rfl rfl ?_; cbv)
  | (refine ag.by hP (rE (iv x k).length (1 + gN (iu x k)) (by omega)) ?_; cbv)
  | (refine Br.split (fun h => ?_) (fun h => ?_) <;> (cbv))
  | exact (jx h).elim
  | (exfalso; simp at h; done)
  | refine And.intro ?_ ?_
set_option maxHeartbeats 4000000 in
theorem Q4 (x : an) (q : bF) : Spec Tryz.prog 7 [cw x, eA .cT q] (aE (bR fun _ => true)) := by
 refine ay au Tryz.func7 rfl rfl (fr := true) (fun _ => by kernel_rfl) fun P hP hA => ?_;cbv;refine ag.ex hP (tz x 1048576 (by omega) (by omega)) fun r hr => ?_;cbv;refine Br.dec (fun h => ?_) (fun h => ?_) <;> cbv
 · exact ⟨rfl, trivial⟩
 have h0 : 0 ≤ r := by have h : ¬ r < 0 := h; omega
 have hs : bh x := hr.ok h0;have hz := mh hs;have ds := CM hs q;have dq : (ly x q).ids.length ≤ 11 := IY hs q;obtain ⟨E, hE⟩ : ∃ E, E = nX x q := ⟨_, rfl⟩;obtain ⟨y, hy⟩ : ∃ y, y = ly x q := ⟨_, rfl⟩;rw [← hE] at ds;rw [← hy] at dq;have sm := (show jy (E).cabins ∧ gN (E) ≤ 4600000000000000000 from ⟨(ds).2.2.1, mh (ds)⟩);have sz := sm.2;apply fC
 · intro hk;refine And.intro ?_ ?_;refine ag.by hP (l8 x hs) ?_;cbv
   repeat (first | refine And.intro ?_ ?_ | (refine ag.by hP (rF q) ?_; cbv) | (refine ag.by hP (CS x q hs E hE y hy) ?_; cbv))
   exact hk
   all_goals (repeat' first | exact hk | refine And.intro ?_ ?_ | (refine ag.by hP (rF q) ?_; cbv) | (refine ag.by hP (CS x q hs E hE y hy) ?_; cbv) | (refine ag.by hP (l8 x hs) ?_; cbv))
 refine ag.by hP (l8 x hs) ?_;cbv;apply fC
 · intro hk
   repeat (first | refine And.intro ?_ ?_ | (refine ag.by hP (rF q) ?_; cbv) | (refine ag.by hP (wz x q hs E hE y hy) ?_; cbv))
   exact hk
   all_goals (repeat' first | exact hk | refine And.intro ?_ ?_ | (refine ag.by hP (rF q) ?_; cbv) | (refine ag.by hP (wz x q hs E hE y hy) ?_; cbv))
 repeat' first
   | exact trivial
   | exact ⟨rfl, trivial⟩
   | exact ⟨rfl, rfl⟩
   | (refine ag.by hP (l8 x hs) ?_; cbv)
   | (refine ag.by hP (ky x x) ?_; cbv)
   | (refine ag.by hP (ky (E) (E)) ?_; cbv)
   | (refine bB.dL hP (kE x 1 hs.2.2.1 (by omega)) rfl rfl ?_; cbv)
   | (refine bB.dL hP (kE (E) 1 sm.1 (by omega)) rfl rfl ?_; cbv)
   | (refine ag.dL hP (rK (E) 1 sm.1 (by omega)) rfl ?_; cbv)
   | (refine ag.by hP (CO y y) ?_; cbv)
   | (refine ag.by hP (CR q q) ?_; cbv)
   | (refine bB.dL hP (I9 y (1 + gN E) (by omega)) rfl rfl ?_; cbv)
   | (refine ag.by hP (I_ y.code y.ids.length (1 + gN E) (by omega)) ?_; cbv)
   | (refine Br.split (fun h => ?_) (fun h => ?_) <;> cbv)
   | exact (jx h).elim
   | (exfalso; simp at h; done)
 apply fC
 · intro hk
   repeat (first | refine And.intro ?_ ?_ | (refine ag.by hP (l8 x hs) ?_; cbv) | (refine ag.by hP (rF q) ?_; cbv) | (refine ag.by hP (wz x q hs E hE y hy) ?_; cbv))
   exact hk
   all_goals (repeat' first | exact hk | refine And.intro ?_ ?_ | (refine ag.by hP (l8 x hs) ?_; cbv) | (refine ag.by hP (rF q) ?_; cbv) | (refine ag.by hP (wz x q hs E hE y hy) ?_; cbv))
 repeat' first
   | exact trivial
   | exact ⟨rfl, trivial⟩
   | exact ⟨rfl, rfl⟩
   | (refine ag.by hP (l8 x hs) ?_; cbv)
   | (refine ag.by hP (ky x x) ?_; cbv)
   | (refine ag.by hP (ky (E) (E)) ?_; cbv)
   | (refine bB.dL hP (kE x 1 hs.2.2.1 (by omega)) rfl rfl ?_; cbv)
   | (refine bB.dL hP (kE (E) 1 sm.1 (by omega)) rfl rfl ?_; cbv)
   | (refine ag.dL hP (rK (E) 1 sm.1 (by omega)) rfl ?_; cbv)
   | (refine ag.by hP (CO y y) ?_; cbv)
   | (refine ag.by hP (CR q q) ?_; cbv)
   | (refine bB.dL hP (I9 y (1 + gN E) (by omega)) rfl rfl ?_; cbv)
   | (refine ag.by hP (I_ y.code y.ids.length (1 + gN E) (by omega)) ?_; cbv)
   | (refine Br.split (fun h => ?_) (fun h => ?_) <;> cbv)
   | exact (jx h).elim
   | (exfalso; simp at h; done)
   | refine And.intro ?_ ?_
set_option maxHeartbeats 4000000 in
theorem Q5 (x : an) (qs : List bF) : Spec Tryz.prog 8 [cw x, lA .cT qs] (aE (bR fun _ => true)) := by
 refine ay au Tryz.func8 rfl rfl (fr := true) (fun _ => by kernel_rfl) fun P hP hA => ?_;cbv;refine ag.ex hP (tz x 1048576 (by omega) (by omega)) fun r hr => ?_;cbv;refine Br.dec (fun h => ?_) (fun h => ?_) <;> cbv
 · exact ⟨rfl, trivial⟩
 have h0 : 0 ≤ r := by have h : ¬ r < 0 := h; omega
 have hs : bh x := hr.ok h0;have hz := mh hs;refine ag.ex hP (QX qs r h0 hr.hi) fun r2 yd => ?_;cbv;refine Br.dec (fun h2 => ?_) (fun h2 => ?_) <;> cbv
 · exact ⟨rfl, trivial⟩
 have Q6 : 0 ≤ r2 := by have h : ¬ r2 < 0 := h2; omega
 have hq : qs.length ≤ 1048576 := yd.ok Q6;have ds := yQ qs hs;have CT : yP (jD x qs) := ⟨by rw [wA]; exact hq, fun y hy => Nat.le_trans (Jf qs hs y hy) (by decide)⟩;have CU := wA qs x;obtain ⟨E, hE⟩ : ∃ E, E = cS x qs := ⟨_, rfl⟩;obtain ⟨y, hy⟩ : ∃ y, y = jD x qs := ⟨_, rfl⟩;rw [← hE] at ds;rw [← hy] at CT CU;have sm := (show jy (E).cabins ∧ gN (E) ≤ 4600000000000000000 from ⟨(ds).2.2.1, mh (ds)⟩);have sz := sm.2;have RD := o6 bu 6 1048576 qs (fun _ _ => Nat.le_refl 6) hq
 repeat' first
  | exact trivial
  | exact ⟨rfl, trivial⟩
  | exact ⟨rfl, rfl⟩
  | (refine ag.by hP (l8 x hs) ?_; cbv)
  | (refine ag.by hP (QY qs hq) ?_; cbv)
  | (refine ag.by hP (Q1 x qs hs hq E hE y hy) ?_; cbv)
  | (refine ag.by hP (Q2 x qs hs hq E hE y hy) ?_; cbv)
  | (refine ag.by hP (ky x x) ?_; cbv)
  | (refine ag.by hP (ky (E) (E)) ?_; cbv)
  | (refine bB.dL hP (kE x 1 hs.2.2.1 (by omega)) rfl rfl ?_; cbv)
  | (refine bB.dL hP (kE (E) 1 sm.1 (by omega)) rfl rfl ?_; cbv)
  | (refine ag.dL hP (rK (E) 1 sm.1 (by omega)) rfl ?_; cbv)
  | (refine ag.by hP (QR y y) ?_; cbv)
  | (refine ag.by hP (QZ qs qs) ?_; cbv)
  | (refine bB.dL hP (Q0 qs (1 + gN x) (by omega)) rfl rfl ?_; cbv)
  | (refine bB.dL hP (QW y (1 + gN E) CT (by rw [CU]; omega)) rfl rfl ?_; cbv)
  | (refine ag.by hP (QU y (1 + gN E) CT (by rw [CU]; omega)) ?_; cbv)
  | (refine Br.split (fun h => ?_) (fun h => ?_) <;> (cbv))
  | exact (jx h).elim
  | (exfalso; simp at h; done)
  | refine And.intro ?_ ?_
end Go.Proofs.YticeaiiffeccmaaGreat

