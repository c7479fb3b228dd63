/- Parts of a proof. No conditions. -/

import Derived.Test.YtehpbaiclfilaaaGreatG27
import Derived.Test.YtehpbaiclfilaaaGreatG26
set_option linter.unusedSimpArgs false
set_option linter.unusedVariables false
namespace Go.Proofs.YtehpbaiclfilaaaGreat
open Go
set_option maxRecDepth 100000
set_option maxHeartbeats 4000000 in
theorem A3 (h : ai) (id : Int) (hs : bh h) (x : ai) (hx : x = j_ h id) (c : Int) (hc : c = bM h (mK id)) : Spec Tryz.prog 44 [dk h, iA id] (aE (.bc [(true, ik fun _ => x), (false, [.int .i64 fun _ => c])])) := by
 by_cases hv : bM h (mK id) = 0
 rotate_left
 · obtain rfl : x = h := hx.trans (if_neg hv);have k1 : (c != 0) = true := by rw [hc]; simpa using hv
   refine aH ay Tryz.func44 rfl rfl (fr := true) (fun _ => by kernel_rfl) fun P hP hA => ?_;cbv;refine ag.by hP (mJ x hs) ?_;cbv;refine ag.by hP (oZ x (mK id) hs c hc) ?_;cbv;refine Br.split (fun k0 => ?_) (fun k0 => ?_) <;> cbv
   · repeat' first | exact trivial | refine ⟨rfl, ?_⟩ | fail
   · have k0 : (c != 0) = false := k0;rw [k1] at k0; cases k0
 have hx := hx.trans (if_pos hv);obtain ⟨i, k, p, cb, o, rfl, ep⟩ := Ac hv;rw [ep] at hx;have hp : mv (aC h p.cab) := by rw [o.jL]; exact hs.2.2.1.2 cb (List.mem_of_getElem? o.hk)
 have hf := o.al;have gN : 0 ≤ p.cab ∧ p.cab < (h.cabins.length : Int) := o.sJ;refine aH ay Tryz.func44 rfl rfl (fr := true) (fun _ => by kernel_rfl) fun P hP hA => ?_;cbv;refine ag.by hP (mJ h hs) ?_;cbv;refine ag.by hP (oZ h (mK p.id) hs c hc) ?_;cbv;refine Br.split (fun k0 => ?_) (fun k0 => ?_) <;> cbv
 · have k0 : (c != 0) = true := k0;have k0 : ¬ c = 0 := by simpa using k0
   exact absurd (hc.trans hv) k0
 have k0 : (c != 0) = false := k0;obtain rfl : c = 0 := by simpa using k0
 have st : p.st = 1 ∨ p.st = 2 := (gb o.ok).st;apply gx
 · intro hk
   repeat' first
     | exact trivial
     | (refine ag.by hP (jC h p.id (i : Int) o.at_.symm) ?_; cbv)
     | (refine Ix.mk (p) (Int.natCast_nonneg i) (o.hi) ?_; cbv)
     | (refine Pz.mk ?_; cbv) | (refine bu.mk ?_ (by kernel_rfl) ?_; rotate_left; cbv; rotate_right) | refine ⟨rfl, ?_⟩ | refine And.intro ?_ ?_ | exact rfl | fail
   all_goals exact hk
 repeat' first
   | exact trivial
   | (refine Ob.mk (gN) ?_; cbv)
   | (refine Pz.mk ?_; cbv) | (refine bu.mk ?_ (by kernel_rfl) ?_; rotate_left; cbv; rotate_right) | refine ⟨rfl, ?_⟩ | refine And.intro ?_ ?_ | exact rfl | fail
 all_goals
   refine Br.split (fun h3 => ?_) (fun h3 => ?_) <;> cbv
   · have h3 : (p.st == 1) = true := h3;have h3 : ¬ p.st = 2 := fun e => by rw [e] at h3; cases h3
     repeat' first
       | exact trivial
       | (refine ag.by hP (J3 (aC h p.cab).row p.id hp.1 (jq (aC h p.cab).row p.id) rfl (decide (0 ≤ dm (aC h p.cab).row p.id)) rfl) ?_; cbv)
       | (refine Ob.mk (rfl) ?_; cbv)
       | (refine Sv.mk (fun _ => (mH h p).cabins) (rfl) ?_; cbv)
       | (refine Pz.mk ?_; cbv) | (refine bu.mk ?_ (by kernel_rfl) ?_; rotate_left; cbv; rotate_right) | refine ⟨rfl, ?_⟩ | refine And.intro ?_ ?_ | exact rfl | fail
     all_goals
       refine Br.split (fun h4 => ?_) (fun h4 => ?_) <;> cbv
       · have h4 : (p.al != -1) = true := h4;have h4 : p.al ≠ -1 := by simpa using h4
         have mR := yd hf h4;have pq : 0 ≤ p.al ∧ p.al < ((mH h p).cabins.length : Int) := AP mR;obtain rfl : x = bI { mH h p with ae := fo h.ae p.id } p.al (kL (aC (mH h p) p.al) p.siz) := hx.trans (by rw [pf, if_neg h3]; exact AN h4);apply gx
         · intro hk
           repeat' first
            | exact trivial
            | (refine Ob.mk (pq) ?_; cbv)
            | (refine ag.by hP (Aj (aC (mH h p) p.al).ah p.siz (bz (aC (mH h p) p.al).ah p.siz 0 0 0 (-1)) rfl (bU (aC (mH h p) p.al).ah p.siz 0 0 0 (-1)) rfl) ?_; cbv)
            | (refine Sv.mk (fun _ => (bI (mH h p) p.al (kL (aC (mH h p) p.al) p.siz)).cabins) (rfl) ?_; cbv)
            | (refine Pz.mk ?_; cbv) | (refine bu.mk ?_ (by kernel_rfl) ?_; rotate_left; cbv; rotate_right) | refine ⟨rfl, ?_⟩ | refine And.intro ?_ ?_ | exact rfl | fail
           all_goals exact hk
         repeat' first
           | exact trivial
           | (refine ag.by hP (vG h.ae p.id hs.2.1 (fo h.ae p.id) rfl) ?_; cbv)
           | (refine Pz.mk ?_; cbv) | (refine bu.mk ?_ (by kernel_rfl) ?_; rotate_left; cbv; rotate_right) | refine ⟨rfl, ?_⟩ | refine And.intro ?_ ?_ | exact rfl | fail
       · have h4 : (p.al != -1) = false := h4;have h4 : p.al = -1 := by simpa using h4
         obtain rfl : x = { mH h p with ae := fo h.ae p.id } := hx.trans (by rw [pf, if_neg h3]; exact AO h4)
         repeat' first
           | exact trivial
           | (refine ag.by hP (vG h.ae p.id hs.2.1 (fo h.ae p.id) rfl) ?_; cbv)
           | (refine Pz.mk ?_; cbv) | (refine bu.mk ?_ (by kernel_rfl) ?_; rotate_left; cbv; rotate_right) | refine ⟨rfl, ?_⟩ | refine And.intro ?_ ?_ | exact rfl | fail
   · have h3 : (p.st == 1) = false := h3;have h3 : p.st = 2 := st.resolve_left (fun e => by rw [e] at h3; cases h3)
     let c1 : a_ := { aC h p.cab with spoke := i_ (aC h p.cab).spoke (eP p) }
     have e1 : aC (bI h p.cab c1) p.cab = c1 := ua gN;have e2 : (bI h p.cab c1).cabins.set p.cab.toNat { aC (bI h p.cab c1) p.cab with ah := bz (aC (bI h p.cab c1) p.cab).ah p.siz 1 (-1) 0 0 } = (dv h p).cabins := by rw [e1]; exact yc
     apply gx
     · intro hk
       repeat' first
         | exact trivial
         | (refine ag.by hP (An (aC h p.cab).spoke (eP p) hp.2 (i_ (aC h p.cab).spoke (eP p)) rfl (kb (aC h p.cab).spoke (eP p)) rfl) ?_; cbv)
         | (refine Ob.mk (rfl) ?_; cbv)
         | (refine Sv.mk (fun _ => (bI h p.cab c1).cabins) (rfl) ?_; cbv; (repeat (refine Pz.mk ?_; cbv)); exact hk)
         | (refine Pz.mk ?_; cbv) | (refine bu.mk ?_ (by kernel_rfl) ?_; rotate_left; cbv; rotate_right) | refine ⟨rfl, ?_⟩ | refine And.intro ?_ ?_ | exact rfl | fail
     apply gx
     · intro hk
       repeat' first
         | exact trivial
         | (refine ag.by hP (Ef (aC (bI h p.cab c1) p.cab).ah p.siz (bz (aC (bI h p.cab c1) p.cab).ah p.siz 1 (-1) 0 0) rfl (bU (aC (bI h p.cab c1) p.cab).ah p.siz 1 (-1) 0 0) rfl) ?_; cbv)
         | (refine Ob.mk (rfl) ?_; cbv)
         | (refine Sv.mk (fun _ => (dv h p).cabins) (e2) ?_; cbv; (repeat (refine Pz.mk ?_; cbv)); exact hk)
         | (refine Pz.mk ?_; cbv) | (refine bu.mk ?_ (by kernel_rfl) ?_; rotate_left; cbv; rotate_right) | refine ⟨rfl, ?_⟩ | refine And.intro ?_ ?_ | exact rfl | fail
     repeat' first
       | exact trivial
       | (refine ag.by hP (vA h.todo p.cab hs.2.2.2.1 (fG h.todo p.cab) rfl) ?_; cbv)
       | (refine Pz.mk ?_; cbv) | (refine bu.mk ?_ (by kernel_rfl) ?_; rotate_left; cbv; rotate_right) | refine ⟨rfl, ?_⟩ | refine And.intro ?_ ?_ | exact rfl | fail
     all_goals
       refine Br.split (fun h4 => ?_) (fun h4 => ?_) <;> cbv
       · have h4 : (p.al != -1) = true := h4;have h4 : p.al ≠ -1 := by simpa using h4
         have mR := yd hf h4;have pq : 0 ≤ p.al ∧ p.al < ((nG h p).cabins.length : Int) := AP mR;obtain rfl : x = bI { nG h p with ae := fo h.ae p.id } p.al (kL (aC (nG h p) p.al) p.siz) := hx.trans (by rw [pf, if_pos h3]; exact AN h4);apply gx
         · intro hk
           repeat' first
            | exact trivial
            | (refine Ob.mk (pq) ?_; cbv)
            | (refine ag.by hP (Aj (aC (nG h p) p.al).ah p.siz (bz (aC (nG h p) p.al).ah p.siz 0 0 0 (-1)) rfl (bU (aC (nG h p) p.al).ah p.siz 0 0 0 (-1)) rfl) ?_; cbv)
            | (refine Sv.mk (fun _ => (bI (nG h p) p.al (kL (aC (nG h p) p.al) p.siz)).cabins) (rfl) ?_; cbv)
            | (refine Pz.mk ?_; cbv) | (refine bu.mk ?_ (by kernel_rfl) ?_; rotate_left; cbv; rotate_right) | refine ⟨rfl, ?_⟩ | refine And.intro ?_ ?_ | exact rfl | fail
           all_goals exact hk
         repeat' first
           | exact trivial
           | (refine ag.by hP (vG h.ae p.id hs.2.1 (fo h.ae p.id) rfl) ?_; cbv)
           | (refine Pz.mk ?_; cbv) | (refine bu.mk ?_ (by kernel_rfl) ?_; rotate_left; cbv; rotate_right) | refine ⟨rfl, ?_⟩ | refine And.intro ?_ ?_ | exact rfl | fail
       · have h4 : (p.al != -1) = false := h4;have h4 : p.al = -1 := by simpa using h4
         obtain rfl : x = { nG h p with ae := fo h.ae p.id } := hx.trans (by rw [pf, if_pos h3]; exact AO h4)
         repeat' first
           | exact trivial
           | (refine ag.by hP (vG h.ae p.id hs.2.1 (fo h.ae p.id) rfl) ?_; cbv)
           | (refine Pz.mk ?_; cbv) | (refine bu.mk ?_ (by kernel_rfl) ?_; rotate_left; cbv; rotate_right) | refine ⟨rfl, ?_⟩ | refine And.intro ?_ ?_ | exact rfl | fail
end Go.Proofs.YtehpbaiclfilaaaGreat

