/- Parts of a proof. No conditions. -/

import Derived.Test.YticeaiiffeccmaaGreatG27
import Derived.Test.YticeaiiffeccmaaGreatG26
set_option linter.unusedSimpArgs false
set_option linter.unusedVariables false
namespace Go.Proofs.YticeaiiffeccmaaGreat
open Go
set_option maxRecDepth 100000
set_option maxHeartbeats 4000000 in
theorem QN (h : an) (id : Int) (hs : bh h) (x : an) (hx : x = pc h id) (c : Int) (hc : c = aY h (jg id)) : Spec Tryz.prog 73 [cw h, iA id] (aE (.aT [(true, fT fun _ => x), (false, [.int .i64 fun _ => c])])) := by
 by_cases hv : aY h (jg id) = 0
 rotate_left
 · obtain rfl : x = h := hx.trans (if_neg hv);have k1 : (c != 0) = true := by rw [hc]; simpa using hv
   refine ay au Tryz.func73 rfl rfl (fr := true) (fun _ => by kernel_rfl) fun P hP hA => ?_;cbv;refine ag.by hP (gB x hs) ?_;cbv;refine ag.by hP (jS x (jg id) hs c hc) ?_;cbv;refine Br.split (fun k0 => ?_) (fun k0 => ?_) <;> cbv
   · repeat' first | exact trivial | refine ⟨rfl, ?_⟩ | fail
   · have k0 : (c != 0) = false := k0;rw [k1] at k0; cases k0
 have hx := hx.trans (if_pos hv);obtain ⟨i, k, p, cb, o, rfl, ep⟩ := CB hv;rw [ep] at hx;have hp : fU (aA h p.ah) := by rw [o.jB]; exact hs.2.2.1.2 cb (List.mem_of_getElem? o.hk)
 have hf := o.ak;have dE : 0 ≤ p.ah ∧ p.ah < (h.cabins.length : Int) := o.m9;refine ay au Tryz.func73 rfl rfl (fr := true) (fun _ => by kernel_rfl) fun P hP hA => ?_;cbv;refine ag.by hP (gB h hs) ?_;cbv;refine ag.by hP (jS h (jg p.id) hs c hc) ?_;cbv;refine Br.split (fun k0 => ?_) (fun k0 => ?_) <;> cbv
 · have k0 : (c != 0) = true := k0;have k0 : ¬ c = 0 := by simpa using k0
   exact absurd (hc.trans hv) k0
 have k0 : (c != 0) = false := k0;obtain rfl : c = 0 := by simpa using k0
 apply fC
 · intro hk
   repeat' first
     | exact trivial
     | (refine ag.by hP (qq h p.id (i : Int) o.at_.symm) ?_; cbv)
     | (refine Ix.mk (p) (Int.natCast_nonneg i) (o.hi) ?_; cbv)
     | (refine Pz.mk ?_; cbv) | (refine bx.mk ?_ (by kernel_rfl) ?_; rotate_left; cbv; rotate_right) | refine ⟨rfl, ?_⟩ | refine And.intro ?_ ?_ | exact rfl | fail
   all_goals exact hk
 all_goals
   refine Br.split (fun h3 => ?_) (fun h3 => ?_) <;> cbv
   · have h3 : (p.st == 2) = true := h3;have h3 : p.st = 2 := by simpa using h3
     refine bB.by hP (CG h p dE hp.2) ?_;cbv;refine ag.by hP (rO h.todo p.ah hs.2.2.2.1 (fB h.todo p.ah) rfl) ?_;cbv;refine bB.by hP (yN (mn h p) p hs.2.1 (jV.of (m8 _ _ _) hf)) ?_;cbv;obtain rfl : x = eF (mn h p) p := hx.trans (by rw [rY, if_pos h3])
     repeat' first | exact trivial | refine ⟨rfl, ?_⟩ | fail
   · have h3 : (p.st == 2) = false := h3;have h3 : ¬ p.st = 2 := by simpa using h3
     repeat' first
      | exact trivial
      | (refine ag.by hP (HL (aA h p.ah).row p.id hp.1 (hZ (aA h p.ah).row p.id) rfl (decide (0 ≤ cY (aA h p.ah).row p.id)) rfl) ?_; cbv)
      | (refine Ob.mk (dE) ?_; cbv)
      | (refine Sv.mk (fun _ => (kP h p).cabins) (rfl) ?_; cbv)
      | (refine Pz.mk ?_; cbv) | (refine bx.mk ?_ (by kernel_rfl) ?_; rotate_left; cbv; rotate_right) | refine ⟨rfl, ?_⟩ | refine And.intro ?_ ?_ | exact rfl | fail
     refine bB.by hP (yN (kP h p) p hs.2.1 (jV.of (m8 _ _ _) hf)) ?_;cbv;obtain rfl : x = eF (kP h p) p := hx.trans (by rw [rY, if_neg h3])
     repeat' first | exact trivial | refine ⟨rfl, ?_⟩ | fail
set_option maxHeartbeats 4000000 in
theorem QO (h : an) (id : Int) (hs : bh h) (x : an) (hx : x = pc h id) (c : Int) (hc : c = aY h (jg id)) : Spec Tryz.prog 79 [cw h, iA id] (aE (.aT [(true, fT fun _ => x), (false, [.int .i64 fun _ => c])])) := by
 by_cases hv : aY h (jg id) = 0
 rotate_left
 · obtain rfl : x = h := hx.trans (if_neg hv);have k1 : (c != 0) = true := by rw [hc]; simpa using hv
   refine ay au Tryz.func79 rfl rfl (fr := true) (fun _ => by kernel_rfl) fun P hP hA => ?_;cbv;refine ag.by hP (iG x hs) ?_;cbv;refine ag.by hP (jT x (jg id) hs c hc) ?_;cbv;refine Br.split (fun k0 => ?_) (fun k0 => ?_) <;> cbv
   · repeat' first | exact trivial | refine ⟨rfl, ?_⟩ | fail
   · have k0 : (c != 0) = false := k0;rw [k1] at k0; cases k0
 have hx := hx.trans (if_pos hv);obtain ⟨i, k, p, cb, o, rfl, ep⟩ := CB hv;rw [ep] at hx;have hp : fU (aA h p.ah) := by rw [o.jB]; exact hs.2.2.1.2 cb (List.mem_of_getElem? o.hk)
 have hf := o.ak;have dE : 0 ≤ p.ah ∧ p.ah < (h.cabins.length : Int) := o.m9;refine ay au Tryz.func79 rfl rfl (fr := true) (fun _ => by kernel_rfl) fun P hP hA => ?_;cbv;refine ag.by hP (iG h hs) ?_;cbv;refine ag.by hP (jT h (jg p.id) hs c hc) ?_;cbv;refine Br.split (fun k0 => ?_) (fun k0 => ?_) <;> cbv
 · have k0 : (c != 0) = true := k0;have k0 : ¬ c = 0 := by simpa using k0
   exact absurd (hc.trans hv) k0
 have k0 : (c != 0) = false := k0;obtain rfl : c = 0 := by simpa using k0
 have st : p.st = 1 ∨ p.st = 2 := (o_ o.ok).st;apply fC
 · intro hk
   repeat' first
     | exact trivial
     | (refine ag.by hP (nN h p.id (i : Int) o.at_.symm) ?_; cbv)
     | (refine Ix.mk (p) (Int.natCast_nonneg i) (o.hi) ?_; cbv)
     | (refine Pz.mk ?_; cbv) | (refine bx.mk ?_ (by kernel_rfl) ?_; rotate_left; cbv; rotate_right) | refine ⟨rfl, ?_⟩ | refine And.intro ?_ ?_ | exact rfl | fail
   all_goals exact hk
 repeat' first
   | exact trivial
   | (refine Ob.mk (dE) ?_; cbv)
   | (refine Pz.mk ?_; cbv) | (refine bx.mk ?_ (by kernel_rfl) ?_; rotate_left; cbv; rotate_right) | refine ⟨rfl, ?_⟩ | refine And.intro ?_ ?_ | exact rfl | fail
 all_goals
   refine Br.split (fun h3 => ?_) (fun h3 => ?_) <;> cbv
   · have h3 : (p.st == 1) = true := h3;have h3 : ¬ p.st = 2 := fun e => by rw [e] at h3; cases h3
     repeat' first
       | exact trivial
       | (refine ag.by hP (HK (aA h p.ah).row p.id hp.1 (hZ (aA h p.ah).row p.id) rfl (decide (0 ≤ cY (aA h p.ah).row p.id)) rfl) ?_; cbv)
       | (refine Ob.mk (rfl) ?_; cbv)
       | (refine Sv.mk (fun _ => (kP h p).cabins) (rfl) ?_; cbv)
       | (refine Pz.mk ?_; cbv) | (refine bx.mk ?_ (by kernel_rfl) ?_; rotate_left; cbv; rotate_right) | refine ⟨rfl, ?_⟩ | refine And.intro ?_ ?_ | exact rfl | fail
     all_goals
       refine Br.split (fun h4 => ?_) (fun h4 => ?_) <;> cbv
       · have h4 : (p.ak != -1) = true := h4;have h4 : p.ak ≠ -1 := by simpa using h4
         have jG := r7 hf h4;have kQ : 0 ≤ p.ak ∧ p.ak < ((kP h p).cabins.length : Int) := r8 jG;obtain rfl : x = bX { kP h p with ae := fg h.ae p.id } p.ak (jU (aA (kP h p) p.ak) p.al) := hx.trans (by rw [rY, if_neg h3]; exact t_ h4);apply fC
         · intro hk
           repeat' first
            | exact trivial
            | (refine Ob.mk (kQ) ?_; cbv)
            | (refine ag.by hP (yv (aA (kP h p) p.ak).aj p.al (bW (aA (kP h p) p.ak).aj p.al 0 0 0 (-1)) rfl (bE (aA (kP h p) p.ak).aj p.al 0 0 0 (-1)) rfl) ?_; cbv)
            | (refine Sv.mk (fun _ => (bX (kP h p) p.ak (jU (aA (kP h p) p.ak) p.al)).cabins) (rfl) ?_; cbv)
            | (refine Pz.mk ?_; cbv) | (refine bx.mk ?_ (by kernel_rfl) ?_; rotate_left; cbv; rotate_right) | refine ⟨rfl, ?_⟩ | refine And.intro ?_ ?_ | exact rfl | fail
           all_goals exact hk
         repeat' first
           | exact trivial
           | (refine ag.by hP (tQ h.ae p.id hs.2.1 (fg h.ae p.id) rfl) ?_; cbv)
           | (refine Pz.mk ?_; cbv) | (refine bx.mk ?_ (by kernel_rfl) ?_; rotate_left; cbv; rotate_right) | refine ⟨rfl, ?_⟩ | refine And.intro ?_ ?_ | exact rfl | fail
       · have h4 : (p.ak != -1) = false := h4;have h4 : p.ak = -1 := by simpa using h4
         obtain rfl : x = { kP h p with ae := fg h.ae p.id } := hx.trans (by rw [rY, if_neg h3]; exact yM h4)
         repeat' first
           | exact trivial
           | (refine ag.by hP (tQ h.ae p.id hs.2.1 (fg h.ae p.id) rfl) ?_; cbv)
           | (refine Pz.mk ?_; cbv) | (refine bx.mk ?_ (by kernel_rfl) ?_; rotate_left; cbv; rotate_right) | refine ⟨rfl, ?_⟩ | refine And.intro ?_ ?_ | exact rfl | fail
   · have h3 : (p.st == 1) = false := h3;have h3 : p.st = 2 := st.resolve_left (fun e => by rw [e] at h3; cases h3)
     let c1 : bd := { aA h p.ah with spoke := h_ (aA h p.ah).spoke (dJ p) }
     have e1 : aA (bX h p.ah c1) p.ah = c1 := qK dE;have e2 : (bX h p.ah c1).cabins.set p.ah.toNat { aA (bX h p.ah c1) p.ah with aj := bW (aA (bX h p.ah c1) p.ah).aj p.al 1 (-1) 0 0 } = (dg h p).cabins := by rw [e1]; exact wq
     apply fC
     · intro hk
       repeat' first
         | exact trivial
         | (refine ag.by hP (yy (aA h p.ah).spoke (dJ p) hp.2 (h_ (aA h p.ah).spoke (dJ p)) rfl (gQ (aA h p.ah).spoke (dJ p)) rfl) ?_; cbv)
         | (refine Ob.mk (rfl) ?_; cbv)
         | (refine Sv.mk (fun _ => (bX h p.ah c1).cabins) (rfl) ?_; cbv; (repeat (refine Pz.mk ?_; cbv)); exact hk)
         | (refine Pz.mk ?_; cbv) | (refine bx.mk ?_ (by kernel_rfl) ?_; rotate_left; cbv; rotate_right) | refine ⟨rfl, ?_⟩ | refine And.intro ?_ ?_ | exact rfl | fail
     apply fC
     · intro hk
       repeat' first
         | exact trivial
         | (refine ag.by hP (BM (aA (bX h p.ah c1) p.ah).aj p.al (bW (aA (bX h p.ah c1) p.ah).aj p.al 1 (-1) 0 0) rfl (bE (aA (bX h p.ah c1) p.ah).aj p.al 1 (-1) 0 0) rfl) ?_; cbv)
         | (refine Ob.mk (rfl) ?_; cbv)
         | (refine Sv.mk (fun _ => (dg h p).cabins) (e2) ?_; cbv; (repeat (refine Pz.mk ?_; cbv)); exact hk)
         | (refine Pz.mk ?_; cbv) | (refine bx.mk ?_ (by kernel_rfl) ?_; rotate_left; cbv; rotate_right) | refine ⟨rfl, ?_⟩ | refine And.intro ?_ ?_ | exact rfl | fail
     repeat' first
       | exact trivial
       | (refine ag.by hP (rN h.todo p.ah hs.2.2.2.1 (fB h.todo p.ah) rfl) ?_; cbv)
       | (refine Pz.mk ?_; cbv) | (refine bx.mk ?_ (by kernel_rfl) ?_; rotate_left; cbv; rotate_right) | refine ⟨rfl, ?_⟩ | refine And.intro ?_ ?_ | exact rfl | fail
     all_goals
       refine Br.split (fun h4 => ?_) (fun h4 => ?_) <;> cbv
       · have h4 : (p.ak != -1) = true := h4;have h4 : p.ak ≠ -1 := by simpa using h4
         have jG := r7 hf h4;have kQ : 0 ≤ p.ak ∧ p.ak < ((mn h p).cabins.length : Int) := r8 jG;obtain rfl : x = bX { mn h p with ae := fg h.ae p.id } p.ak (jU (aA (mn h p) p.ak) p.al) := hx.trans (by rw [rY, if_pos h3]; exact t_ h4);apply fC
         · intro hk
           repeat' first
            | exact trivial
            | (refine Ob.mk (kQ) ?_; cbv)
            | (refine ag.by hP (yv (aA (mn h p) p.ak).aj p.al (bW (aA (mn h p) p.ak).aj p.al 0 0 0 (-1)) rfl (bE (aA (mn h p) p.ak).aj p.al 0 0 0 (-1)) rfl) ?_; cbv)
            | (refine Sv.mk (fun _ => (bX (mn h p) p.ak (jU (aA (mn h p) p.ak) p.al)).cabins) (rfl) ?_; cbv)
            | (refine Pz.mk ?_; cbv) | (refine bx.mk ?_ (by kernel_rfl) ?_; rotate_left; cbv; rotate_right) | refine ⟨rfl, ?_⟩ | refine And.intro ?_ ?_ | exact rfl | fail
           all_goals exact hk
         repeat' first
           | exact trivial
           | (refine ag.by hP (tQ h.ae p.id hs.2.1 (fg h.ae p.id) rfl) ?_; cbv)
           | (refine Pz.mk ?_; cbv) | (refine bx.mk ?_ (by kernel_rfl) ?_; rotate_left; cbv; rotate_right) | refine ⟨rfl, ?_⟩ | refine And.intro ?_ ?_ | exact rfl | fail
       · have h4 : (p.ak != -1) = false := h4;have h4 : p.ak = -1 := by simpa using h4
         obtain rfl : x = { mn h p with ae := fg h.ae p.id } := hx.trans (by rw [rY, if_pos h3]; exact yM h4)
         repeat' first
           | exact trivial
           | (refine ag.by hP (tQ h.ae p.id hs.2.1 (fg h.ae p.id) rfl) ?_; cbv)
           | (refine Pz.mk ?_; cbv) | (refine bx.mk ?_ (by kernel_rfl) ?_; rotate_left; cbv; rotate_right) | refine ⟨rfl, ?_⟩ | refine And.intro ?_ ?_ | exact rfl | fail
end Go.Proofs.YticeaiiffeccmaaGreat

