/- Parts of a proof. No conditions. -/

import Derived.Test.YtehpbaiclfilaaaGreatG27
import Derived.Test.YtehpbaiclfilaaaGreatG26
set_option linter.unusedSimpArgs false
set_option linter.unusedVariables false
namespace Go.Proofs.YtehpbaiclfilaaaGreat
open Go
set_option maxRecDepth 100000
set_option maxHeartbeats 4000000 in
theorem A1 (h : ai) (id cab al siz aK : Int) (hs : bh h) (x : ai) (hx : x = oU h id cab al siz aK) (c : Int) (hc : c = bM h (kM id cab al siz aK)) : Spec Tryz.prog 39 [dk h, iA id, iA cab, iA al, iA siz, iA aK] (aE (.bc [(true, ik fun _ => x), (false, [.int .i64 fun _ => c])])) := by
 by_cases hv : bM h (kM id cab al siz aK) = 0
 rotate_left
 · obtain rfl : x = h := hx.trans (if_neg hv);have k1 : (c != 0) = true := by rw [hc]; simpa using hv
   refine aH ay Tryz.func39 rfl rfl (fr := true) (fun _ => by kernel_rfl) fun P hP hA => ?_;cbv;refine ag.by hP (mJ x hs) ?_;cbv;refine ag.by hP (oZ x (kM id cab al siz aK) hs c hc) ?_;cbv;refine Br.split (fun k0 => ?_) (fun k0 => ?_) <;> cbv
   · repeat' first | exact trivial | refine ⟨rfl, ?_⟩ | fail
   · have k0 : (c != 0) = false := k0;rw [k1] at k0; cases k0
 have hx := hx.trans (if_pos hv);obtain ⟨k, cb, o⟩ := tY hv;have hp : mv (aC h cab) := by rw [show aC h cab = cb from o.jL]; exact hs.2.2.1.2 cb (List.mem_of_getElem? o.hk)
 have hf : al = -1 ∨ ∃ f, tW h (fb h id cab al siz aK) f := o.al;have gN : 0 ≤ cab ∧ cab < (h.cabins.length : Int) := o.sJ;have QS := o.K9;have hq : bG aY (cn h.rules (fb h id cab al siz aK) h.now) (aC h cab).row = sy (aC h cab).row (cn h.rules (fb h id cab al siz aK) h.now) := by rw [show aC h cab = cb from o.jL]; exact o.EO.symm
 refine aH ay Tryz.func39 rfl rfl (fr := true) (fun _ => by kernel_rfl) fun P hP hA => ?_;cbv;refine ag.by hP (mJ h hs) ?_;cbv;refine ag.by hP (oZ h (kM id cab al siz aK) hs c hc) ?_;cbv;refine Br.split (fun k0 => ?_) (fun k0 => ?_) <;> cbv
 · have k0 : (c != 0) = true := k0;have k0 : ¬ c = 0 := by simpa using k0
   exact absurd (hc.trans hv) k0
 have k0 : (c != 0) = false := k0;obtain rfl : c = 0 := by simpa using k0
 repeat' first
   | exact trivial
   | (refine Ar.exact (by (try simp only [nc] at *); omega) (by (try simp only [nc] at *); omega) ?_; cbv)
   | (refine ag.by hP (Eo h.ae (fb h id cab al siz aK) hs.2.1 (fT h.ae (fb h id cab al siz aK)) rfl) ?_; cbv)
   | (refine ag.by hP (DD h.rules (fb h id cab al siz aK) h.now hs.1 (cn h.rules (fb h id cab al siz aK) h.now) rfl (fu h.rules (fb h id cab al siz aK) h.now) rfl) ?_; cbv)
   | (refine Pz.mk ?_; cbv) | (refine bu.mk ?_ (by kernel_rfl) ?_; rotate_left; cbv; rotate_right) | refine ⟨rfl, ?_⟩ | exact rfl | fail
 apply gx
 · intro hk
   repeat' first
     | exact trivial
     | (refine Ob.mk (gN) ?_; cbv)
     | (refine ag.by hP (Ku (aC h cab).row (cn h.rules (fb h id cab al siz aK) h.now) hp.1 (bG aY (cn h.rules (fb h id cab al siz aK) h.now) (aC h cab).row) hq (jJ (aC h cab).row (cn h.rules (fb h id cab al siz aK) h.now)) rfl) ?_; cbv)
     | (refine Sv.mk (fun _ => (iK h (fb h id cab al siz aK)).cabins) (rfl) ?_; cbv; (repeat (refine Pz.mk ?_; cbv)); exact hk)
     | (refine Pz.mk ?_; cbv) | (refine bu.mk ?_ (by kernel_rfl) ?_; rotate_left; cbv; rotate_right) | refine ⟨rfl, ?_⟩ | refine And.intro ?_ ?_ | exact rfl | fail
 all_goals
   refine Br.split (fun h4 => ?_) (fun h4 => ?_) <;> cbv
   · have h4 : (al != -1) = true := h4;have h5 : al ≠ -1 := by simpa using h4
     have mR : 0 ≤ al ∧ al < (h.cabins.length : Int) := yd (p := (fb h id cab al siz aK)) hf h5;have pq : 0 ≤ al ∧ al < ((iK h (fb h id cab al siz aK)).cabins.length : Int) := by rw [iK, EL, jK]; exact mR
     obtain rfl : x = { bI (iK h (fb h id cab al siz aK)) al (ye (aC (iK h (fb h id cab al siz aK)) al) siz) with todo := fG h.todo cab } := hx.trans (by rw [cZ, nD, if_neg (show ¬ (fb h id cab al siz aK).al = -1 from h5)]; rfl);apply gx
     · intro hk
       repeat' first
        | exact trivial
        | (refine Ob.mk (pq) ?_; cbv)
        | (refine ag.by hP (JC (aC (iK h (fb h id cab al siz aK)) al).ah siz (bz (aC (iK h (fb h id cab al siz aK)) al).ah siz 0 0 0 1) rfl (bU (aC (iK h (fb h id cab al siz aK)) al).ah siz 0 0 0 1) rfl) ?_; cbv)
        | (refine Sv.mk (fun _ => (bI (iK h (fb h id cab al siz aK)) al (ye (aC (iK h (fb h id cab al siz aK)) al) siz)).cabins) (rfl) ?_; cbv; (repeat (refine Pz.mk ?_; cbv)); exact hk)
        | (refine Pz.mk ?_; cbv) | (refine bu.mk ?_ (by kernel_rfl) ?_; rotate_left; cbv; rotate_right) | refine ⟨rfl, ?_⟩ | refine And.intro ?_ ?_ | exact rfl | fail
     repeat' first
       | exact trivial
       | (refine ag.by hP (vA h.todo cab hs.2.2.2.1 (fG h.todo cab) rfl) ?_; cbv)
       | (refine Pz.mk ?_; cbv) | (refine bu.mk ?_ (by kernel_rfl) ?_; rotate_left; cbv; rotate_right) | refine ⟨rfl, ?_⟩ | refine And.intro ?_ ?_ | exact rfl | fail
   · have h4 : (al != -1) = false := h4;have h5 : al = -1 := by simpa using h4
     obtain rfl : x = { iK h (fb h id cab al siz aK) with todo := fG h.todo cab } := hx.trans (by rw [cZ, nD, if_pos (show (fb h id cab al siz aK).al = -1 from h5)]; rfl)
     repeat' first
       | exact trivial
       | (refine ag.by hP (vA h.todo cab hs.2.2.2.1 (fG h.todo cab) rfl) ?_; cbv)
       | (refine Pz.mk ?_; cbv) | (refine bu.mk ?_ (by kernel_rfl) ?_; rotate_left; cbv; rotate_right) | refine ⟨rfl, ?_⟩ | refine And.intro ?_ ?_ | exact rfl | fail
end Go.Proofs.YtehpbaiclfilaaaGreat

