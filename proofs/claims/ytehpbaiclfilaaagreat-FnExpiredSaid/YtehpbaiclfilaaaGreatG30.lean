/- Parts of a proof. No conditions. -/

import Derived.Test.YtehpbaiclfilaaaGreatG27
import Derived.Test.YtehpbaiclfilaaaGreatG26
import Derived.Test.YtehpbaiclfilaaaGreatG21
import Derived.Test.YtehpbaiclfilaaaGreatG25
set_option linter.unusedSimpArgs false
set_option linter.unusedVariables false
namespace Go.Proofs.YtehpbaiclfilaaaGreat
open Go
set_option maxRecDepth 100000
set_option maxHeartbeats 4000000 in
theorem Lr (h : ai) (hs : bh h) {i k : Nat} {c : a_} (o : bJ h i k (h.ae.getD ((i : Int)).toNat default) c) (h2 : (h.ae.getD ((i : Int)).toNat default).st = 2) (id : Int) (dQ : (h.ae.getD ((i : Int)).toNat default).id = id) (x : ai) (hx : x = dK h (h.ae.getD ((i : Int)).toNat default)) : bE Tryz.prog 116 [PL h, iA id] (PM h) (dP (rR fun _ => x) []) := by
 obtain ⟨hi, ei⟩ := o.lt;have oi : 0 ≤ (i : Int) ∧ (i : Int) < (h.ae.length : Int) := by omega
 have nF : aP h.ae id = (i : Int) := by rw [← dQ]; exact o.at_
 have hp : mv (aC h (h.ae.getD ((i : Int)).toNat default).cf) := by rw [o.jL]; exact hs.2.2.1.2 c (List.mem_of_getElem? o.hk)
 have hf := o.al;have gN : 0 ≤ (h.ae.getD ((i : Int)).toNat default).cf ∧ (h.ae.getD ((i : Int)).toNat default).cf < (h.cabins.length : Int) := o.sJ
 let c1 : a_ := { aC h (h.ae.getD ((i : Int)).toNat default).cf with ah := bz (aC h (h.ae.getD ((i : Int)).toNat default).cf).ah (h.ae.getD ((i : Int)).toNat default).siz 1 (-1) 0 0 }
 have e1 : aC (bI h (h.ae.getD ((i : Int)).toNat default).cf c1) (h.ae.getD ((i : Int)).toNat default).cf = c1 := ua gN;have e2 : (bI h (h.ae.getD ((i : Int)).toNat default).cf c1).cabins.set (h.ae.getD ((i : Int)).toNat default).cf.toNat { aC (bI h (h.ae.getD ((i : Int)).toNat default).cf c1) (h.ae.getD ((i : Int)).toNat default).cf with spoke := i_ (aC (bI h (h.ae.getD ((i : Int)).toNat default).cf c1) (h.ae.getD ((i : Int)).toNat default).cf).spoke (eP (h.ae.getD ((i : Int)).toNat default)) } = (dv h (h.ae.getD ((i : Int)).toNat default)).cabins := by rw [e1]; exact yc
 by_cases hk : iF h.rules (h.ae.getD ((i : Int)).toNat default) h.now = true
 · have hx : x = o8 h (h.ae.getD ((i : Int)).toNat default) := hx.trans (if_pos hk);have e3 : aC (dv h (h.ae.getD ((i : Int)).toNat default)) (h.ae.getD ((i : Int)).toNat default).cf = fH (aC h (h.ae.getD ((i : Int)).toNat default).cf) (h.ae.getD ((i : Int)).toNat default) := ua gN
   have hq : sy (aC (dv h (h.ae.getD ((i : Int)).toNat default)) (h.ae.getD ((i : Int)).toNat default).cf).row (cn h.rules (dE h.rules (h.ae.getD ((i : Int)).toNat default) h.now) h.now) = bG aY (cn h.rules (dE h.rules (h.ae.getD ((i : Int)).toNat default) h.now) h.now) (aC (dv h (h.ae.getD ((i : Int)).toNat default)) (h.ae.getD ((i : Int)).toNat default).cf).row := by
     rw [e3];show sy (aC h (h.ae.getD ((i : Int)).toNat default).cf).row _ = bG aY _ (aC h (h.ae.getD ((i : Int)).toNat default).cf).row;rw [o.jL];exact o.EO h2 hk
   have e4 : (dv h (h.ae.getD ((i : Int)).toNat default)).cabins.set (h.ae.getD ((i : Int)).toNat default).cf.toNat { aC (dv h (h.ae.getD ((i : Int)).toNat default)) (h.ae.getD ((i : Int)).toNat default).cf with row := bG aY (cn h.rules (dE h.rules (h.ae.getD ((i : Int)).toNat default) h.now) h.now) (aC (dv h (h.ae.getD ((i : Int)).toNat default)) (h.ae.getD ((i : Int)).toNat default).cf).row } = (o8 h (h.ae.getD ((i : Int)).toNat default)).cabins := rfl;refine fF ay Tryz.func116 rfl rfl (fr := true) (fun _ => by kernel_rfl) rfl rfl fun P hP hA hB => ?_;cbv;apply gx
   · intro hk
     repeat' first
       | exact trivial
       | (refine ag.by hP (jC h id (i : Int) nF.symm) ?_; cbv)
       | (refine Ob.mk (oi) ?_; cbv)
       | (refine Pz.mk ?_; cbv) | (refine bu.mk ?_ (by kernel_rfl) ?_; rotate_left; cbv; rotate_right) | refine ⟨rfl, ?_⟩ | refine And.intro ?_ ?_ | exact rfl | fail
     all_goals exact hk
   apply gx
   · intro hk
     repeat' first
       | exact trivial
       | (refine Ob.mk (gN) ?_; cbv)
       | (refine Ob.mk (rfl) ?_; cbv)
       | (refine ag.by hP (Ef (aC h (h.ae.getD ((i : Int)).toNat default).cf).ah (h.ae.getD ((i : Int)).toNat default).siz (bz (aC h (h.ae.getD ((i : Int)).toNat default).cf).ah (h.ae.getD ((i : Int)).toNat default).siz 1 (-1) 0 0) rfl (bU (aC h (h.ae.getD ((i : Int)).toNat default).cf).ah (h.ae.getD ((i : Int)).toNat default).siz 1 (-1) 0 0) rfl) ?_; cbv)
       | (refine Sv.mk (fun _ => (bI h (h.ae.getD ((i : Int)).toNat default).cf c1).cabins) (rfl) ?_; cbv; (repeat (refine Pz.mk ?_; cbv)); exact hk)
       | (refine Pz.mk ?_; cbv) | (refine bu.mk ?_ (by kernel_rfl) ?_; rotate_left; cbv; rotate_right) | refine ⟨rfl, ?_⟩ | refine And.intro ?_ ?_ | exact rfl | fail
   apply gx
   · intro hk
     repeat' first
       | exact trivial
       | (refine Ob.mk (rfl) ?_; cbv)
       | (refine ag.by hP (An (aC (bI h (h.ae.getD ((i : Int)).toNat default).cf c1) (h.ae.getD ((i : Int)).toNat default).cf).spoke ⟨(h.ae.getD ((i : Int)).toNat default).bW, id⟩ (by rw [e1]; exact hp.2) (i_ (aC (bI h (h.ae.getD ((i : Int)).toNat default).cf c1) (h.ae.getD ((i : Int)).toNat default).cf).spoke (eP (h.ae.getD ((i : Int)).toNat default))) (by rw [eP, dQ]) (kb (aC (bI h (h.ae.getD ((i : Int)).toNat default).cf c1) (h.ae.getD ((i : Int)).toNat default).cf).spoke ⟨(h.ae.getD ((i : Int)).toNat default).bW, id⟩) rfl) ?_; cbv)
       | (refine Sv.mk (fun _ => (dv h (h.ae.getD ((i : Int)).toNat default)).cabins) (e2) ?_; cbv; (repeat (refine Pz.mk ?_; cbv)); exact hk)
       | (refine Pz.mk ?_; cbv) | (refine bu.mk ?_ (by kernel_rfl) ?_; rotate_left; cbv; rotate_right) | refine ⟨rfl, ?_⟩ | refine And.intro ?_ ?_ | exact rfl | fail
   repeat' first
     | exact trivial
     | (refine ag.by hP (Kw h.rules (h.ae.getD ((i : Int)).toNat default) h.now hs.1 (dE h.rules (h.ae.getD ((i : Int)).toNat default) h.now) (if_pos hk).symm (iF h.rules (h.ae.getD ((i : Int)).toNat default) h.now) rfl) ?_; cbv)
     | (refine Pz.mk ?_; cbv) | (refine bu.mk ?_ (by kernel_rfl) ?_; rotate_left; cbv; rotate_right) | refine ⟨rfl, ?_⟩ | exact rfl | fail
   all_goals
     refine Br.split (fun k0 => ?_) (fun k0 => ?_) <;> cbv
     · repeat' first
         | exact trivial
         | (refine ag.by hP (Eo h.ae (dE h.rules (h.ae.getD ((i : Int)).toNat default) h.now) hs.2.1 (fT h.ae (dE h.rules (h.ae.getD ((i : Int)).toNat default) h.now)) rfl) ?_; cbv)
         | (refine ag.by hP (DD h.rules (dE h.rules (h.ae.getD ((i : Int)).toNat default) h.now) h.now hs.1 (cn h.rules (dE h.rules (h.ae.getD ((i : Int)).toNat default) h.now) h.now) rfl (fu h.rules (dE h.rules (h.ae.getD ((i : Int)).toNat default) h.now) h.now) rfl) ?_; cbv)
         | (refine Pz.mk ?_; cbv) | (refine bu.mk ?_ (by kernel_rfl) ?_; rotate_left; cbv; rotate_right) | refine ⟨rfl, ?_⟩ | exact rfl | fail
       apply gx
       · intro hk
         repeat' first
          | exact trivial
          | (refine Ob.mk (rfl) ?_; cbv)
          | (refine ag.by hP (Ku (aC (dv h (h.ae.getD ((i : Int)).toNat default)) (h.ae.getD ((i : Int)).toNat default).cf).row (cn h.rules (dE h.rules (h.ae.getD ((i : Int)).toNat default) h.now) h.now) (by rw [e3]; exact hp.1) (bG aY (cn h.rules (dE h.rules (h.ae.getD ((i : Int)).toNat default) h.now) h.now) (aC (dv h (h.ae.getD ((i : Int)).toNat default)) (h.ae.getD ((i : Int)).toNat default).cf).row) hq.symm (jJ (aC (dv h (h.ae.getD ((i : Int)).toNat default)) (h.ae.getD ((i : Int)).toNat default).cf).row (cn h.rules (dE h.rules (h.ae.getD ((i : Int)).toNat default) h.now) h.now)) rfl) ?_; cbv)
          | (refine Sv.mk (fun _ => (o8 h (h.ae.getD ((i : Int)).toNat default)).cabins) (e4) ?_; cbv; (repeat (refine Pz.mk ?_; cbv)); exact hk)
          | (refine Pz.mk ?_; cbv) | (refine bu.mk ?_ (by kernel_rfl) ?_; rotate_left; cbv; rotate_right) | refine ⟨rfl, ?_⟩ | refine And.intro ?_ ?_ | exact rfl | fail
       all_goals
         obtain rfl : x = o8 h (h.ae.getD ((i : Int)).toNat default) := hx
         repeat' first | exact trivial | refine ⟨rfl, ?_⟩ | fail
     · have k0 : iF h.rules (h.ae.getD ((i : Int)).toNat default) h.now = false := k0;rw [hk] at k0; cases k0
 · have hx : x = dw (dv h (h.ae.getD ((i : Int)).toNat default)) (h.ae.getD ((i : Int)).toNat default) := hx.trans (if_neg hk);refine fF ay Tryz.func116 rfl rfl (fr := true) (fun _ => by kernel_rfl) rfl rfl fun P hP hA hB => ?_;cbv;apply gx
   · intro hk
     repeat' first
       | exact trivial
       | (refine ag.by hP (jC h id (i : Int) nF.symm) ?_; cbv)
       | (refine Ob.mk (oi) ?_; cbv)
       | (refine Pz.mk ?_; cbv) | (refine bu.mk ?_ (by kernel_rfl) ?_; rotate_left; cbv; rotate_right) | refine ⟨rfl, ?_⟩ | refine And.intro ?_ ?_ | exact rfl | fail
     all_goals exact hk
   apply gx
   · intro hk
     repeat' first
       | exact trivial
       | (refine Ob.mk (gN) ?_; cbv)
       | (refine Ob.mk (rfl) ?_; cbv)
       | (refine ag.by hP (Ef (aC h (h.ae.getD ((i : Int)).toNat default).cf).ah (h.ae.getD ((i : Int)).toNat default).siz (bz (aC h (h.ae.getD ((i : Int)).toNat default).cf).ah (h.ae.getD ((i : Int)).toNat default).siz 1 (-1) 0 0) rfl (bU (aC h (h.ae.getD ((i : Int)).toNat default).cf).ah (h.ae.getD ((i : Int)).toNat default).siz 1 (-1) 0 0) rfl) ?_; cbv)
       | (refine Sv.mk (fun _ => (bI h (h.ae.getD ((i : Int)).toNat default).cf c1).cabins) (rfl) ?_; cbv; (repeat (refine Pz.mk ?_; cbv)); exact hk)
       | (refine Pz.mk ?_; cbv) | (refine bu.mk ?_ (by kernel_rfl) ?_; rotate_left; cbv; rotate_right) | refine ⟨rfl, ?_⟩ | refine And.intro ?_ ?_ | exact rfl | fail
   apply gx
   · intro hk
     repeat' first
       | exact trivial
       | (refine Ob.mk (rfl) ?_; cbv)
       | (refine ag.by hP (An (aC (bI h (h.ae.getD ((i : Int)).toNat default).cf c1) (h.ae.getD ((i : Int)).toNat default).cf).spoke ⟨(h.ae.getD ((i : Int)).toNat default).bW, id⟩ (by rw [e1]; exact hp.2) (i_ (aC (bI h (h.ae.getD ((i : Int)).toNat default).cf c1) (h.ae.getD ((i : Int)).toNat default).cf).spoke (eP (h.ae.getD ((i : Int)).toNat default))) (by rw [eP, dQ]) (kb (aC (bI h (h.ae.getD ((i : Int)).toNat default).cf c1) (h.ae.getD ((i : Int)).toNat default).cf).spoke ⟨(h.ae.getD ((i : Int)).toNat default).bW, id⟩) rfl) ?_; cbv)
       | (refine Sv.mk (fun _ => (dv h (h.ae.getD ((i : Int)).toNat default)).cabins) (e2) ?_; cbv; (repeat (refine Pz.mk ?_; cbv)); exact hk)
       | (refine Pz.mk ?_; cbv) | (refine bu.mk ?_ (by kernel_rfl) ?_; rotate_left; cbv; rotate_right) | refine ⟨rfl, ?_⟩ | refine And.intro ?_ ?_ | exact rfl | fail
   repeat' first
     | exact trivial
     | (refine ag.by hP (Kw h.rules (h.ae.getD ((i : Int)).toNat default) h.now hs.1 (Kv h.rules (h.ae.getD ((i : Int)).toNat default) h.now) rfl (iF h.rules (h.ae.getD ((i : Int)).toNat default) h.now) rfl) ?_; cbv)
     | (refine Pz.mk ?_; cbv) | (refine bu.mk ?_ (by kernel_rfl) ?_; rotate_left; cbv; rotate_right) | refine ⟨rfl, ?_⟩ | exact rfl | fail
   all_goals
     refine Br.split (fun k0 => ?_) (fun k0 => ?_) <;> cbv
     · have k0 : iF h.rules (h.ae.getD ((i : Int)).toNat default) h.now = true := k0;exact absurd k0 hk
     repeat' first
       | exact trivial
       | (refine ag.by hP (vG h.ae id hs.2.1 (fo h.ae (h.ae.getD ((i : Int)).toNat default).id) (by rw [dQ])) ?_; cbv)
       | (refine Pz.mk ?_; cbv) | (refine bu.mk ?_ (by kernel_rfl) ?_; rotate_left; cbv; rotate_right) | refine ⟨rfl, ?_⟩ | refine And.intro ?_ ?_ | exact rfl | fail
     refine Br.split (fun h4 => ?_) (fun h4 => ?_) <;> cbv
     · have h4 : ((h.ae.getD ((i : Int)).toNat default).al != -1) = true := h4;have h4 : (h.ae.getD ((i : Int)).toNat default).al ≠ -1 := by simpa using h4
       have mR := yd hf h4;have pq : 0 ≤ (h.ae.getD ((i : Int)).toNat default).al ∧ (h.ae.getD ((i : Int)).toNat default).al < ((dv h (h.ae.getD ((i : Int)).toNat default)).cabins.length : Int) := AP mR;obtain rfl : x = bI { dv h (h.ae.getD ((i : Int)).toNat default) with ae := fo h.ae (h.ae.getD ((i : Int)).toNat default).id } (h.ae.getD ((i : Int)).toNat default).al (kL (aC (dv h (h.ae.getD ((i : Int)).toNat default)) (h.ae.getD ((i : Int)).toNat default).al) (h.ae.getD ((i : Int)).toNat default).siz) := hx.trans (AN h4)
       repeat' first
         | exact trivial
         | (refine Ob.mk (pq) ?_; cbv)
         | (refine ag.by hP (Aj (aC (dv h (h.ae.getD ((i : Int)).toNat default)) (h.ae.getD ((i : Int)).toNat default).al).ah (h.ae.getD ((i : Int)).toNat default).siz (bz (aC (dv h (h.ae.getD ((i : Int)).toNat default)) (h.ae.getD ((i : Int)).toNat default).al).ah (h.ae.getD ((i : Int)).toNat default).siz 0 0 0 (-1)) rfl (bU (aC (dv h (h.ae.getD ((i : Int)).toNat default)) (h.ae.getD ((i : Int)).toNat default).al).ah (h.ae.getD ((i : Int)).toNat default).siz 0 0 0 (-1)) rfl) ?_; cbv)
         | (refine Sv.mk (fun _ => (bI (dv h (h.ae.getD ((i : Int)).toNat default)) (h.ae.getD ((i : Int)).toNat default).al (kL (aC (dv h (h.ae.getD ((i : Int)).toNat default)) (h.ae.getD ((i : Int)).toNat default).al) (h.ae.getD ((i : Int)).toNat default).siz)).cabins) (rfl) ?_; cbv)
         | (refine Pz.mk ?_; cbv) | (refine bu.mk ?_ (by kernel_rfl) ?_; rotate_left; cbv; rotate_right) | refine ⟨rfl, ?_⟩ | refine And.intro ?_ ?_ | exact rfl | fail
     · have h4 : ((h.ae.getD ((i : Int)).toNat default).al != -1) = false := h4;have h4 : (h.ae.getD ((i : Int)).toNat default).al = -1 := by simpa using h4
       obtain rfl : x = { dv h (h.ae.getD ((i : Int)).toNat default) with ae := fo h.ae (h.ae.getD ((i : Int)).toNat default).id } := hx.trans (AO h4)
       repeat' first | exact trivial | refine ⟨rfl, ?_⟩ | fail
end Go.Proofs.YtehpbaiclfilaaaGreat

