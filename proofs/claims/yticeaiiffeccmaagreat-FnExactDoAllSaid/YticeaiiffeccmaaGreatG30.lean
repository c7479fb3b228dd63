/- Parts of a proof. No conditions. -/

import Derived.Test.YticeaiiffeccmaaGreatG27
import Derived.Test.YticeaiiffeccmaaGreatG26
import Derived.Test.YticeaiiffeccmaaGreatG21
import Derived.Test.YticeaiiffeccmaaGreatG25
set_option linter.unusedSimpArgs false
set_option linter.unusedVariables false
namespace Go.Proofs.YticeaiiffeccmaaGreat
open Go
set_option maxRecDepth 100000
theorem Qi {h : an} {p : aw} (dE : 0 ≤ p.ah ∧ p.ah < (h.cabins.length : Int)) (l : List aw) : aA { dg h p with ae := l } p.ah = gh (aA h p.ah) p := qK dE
set_option maxHeartbeats 2000000 in
theorem IH (h : an) (p : aw) (hr : h.rules.aj.length ≤ bc) (hl : h.ae.length ≤ bc) (dE : 0 ≤ p.ah ∧ p.ah < (h.cabins.length : Int)) (hp : fU (aA h p.ah)) (hf : p.ak = -1 ∨ ∃ f, jV h p f) : cB Tryz.prog 125 [kD h, eA .aG p] (lg h) (cV (kx fun _ => eT h p) []) := by
 by_cases hk : fb h.rules p h.now = true
 · have ee : eT h p = m7 h p := if_pos hk;rw [ee];refine dW au Tryz.func125 rfl rfl (fr := true) (fun _ => by kernel_rfl) rfl rfl fun P hP hA hB => ?_;cbv;refine bB.by hP (CG h p dE hp.2) ?_;cbv;refine ag.by hP (HT h.rules p h.now hr (eE h.rules p h.now) (if_pos hk).symm (fb h.rules p h.now) rfl) ?_;cbv;refine Br.split (fun k0 => ?_) (fun k0 => ?_) <;> cbv
   · have k0 : (!fb h.rules p h.now) = true := k0;rw [hk] at k0; cases k0
   refine ag.by hP (BW h.ae (eE h.rules p h.now) hl (ir h.ae (eE h.rules p h.now)) rfl) ?_;cbv;refine bB.by hP (IG { dg h p with ae := ir h.ae (eE h.rules p h.now) } (eE h.rules p h.now) (r8 dE) hr (by show (aA { dg h p with ae := ir h.ae (eE h.rules p h.now) } p.ah).row.length ≤ bc; rw [Qi dE]; exact hp.1)) ?_;cbv
   repeat' first | exact trivial | refine ⟨rfl, ?_⟩ | fail
 · have ee : eT h p = eF (dg h p) p := if_neg hk;rw [ee];refine dW au Tryz.func125 rfl rfl (fr := true) (fun _ => by kernel_rfl) rfl rfl fun P hP hA hB => ?_;cbv;refine bB.by hP (CG h p dE hp.2) ?_;cbv;refine ag.by hP (HT h.rules p h.now hr (yz h.rules p h.now) rfl (fb h.rules p h.now) rfl) ?_;cbv;refine Br.split (fun k0 => ?_) (fun k0 => ?_) <;> cbv
   · refine bB.by hP (yN (dg h p) p hl (jV.of (m8 _ _ _) hf)) ?_;cbv
     repeat' first | exact trivial | refine ⟨rfl, ?_⟩ | fail
   · have k0 : (!fb h.rules p h.now) = false := k0;exact absurd (by simpa using k0) hk
set_option maxHeartbeats 4000000 in
theorem II (h : an) (hs : bh h) {i k : Nat} {c : bd} (o : cG h i k (h.ae.getD ((i : Int)).toNat default) c) (h2 : (h.ae.getD ((i : Int)).toNat default).st = 2) (id : Int) (lu : (h.ae.getD ((i : Int)).toNat default).id = id) (x : an) (hx : x = eT h (h.ae.getD ((i : Int)).toNat default)) : cB Tryz.prog 69 [kD h, iA id] (lg h) (cV (kx fun _ => x) []) := by
 obtain ⟨hi, ei⟩ := o.lt;have oi : 0 ≤ (i : Int) ∧ (i : Int) < (h.ae.length : Int) := by omega
 have r9 : bw h.ae id = (i : Int) := by rw [← lu]; exact o.at_
 have hp : fU (aA h (h.ae.getD ((i : Int)).toNat default).ah) := by rw [o.jB]; exact hs.2.2.1.2 c (List.mem_of_getElem? o.hk)
 have hf := o.ak;have dE : 0 ≤ (h.ae.getD ((i : Int)).toNat default).ah ∧ (h.ae.getD ((i : Int)).toNat default).ah < (h.cabins.length : Int) := o.m9
 let c1 : bd := { aA h (h.ae.getD ((i : Int)).toNat default).ah with aj := bW (aA h (h.ae.getD ((i : Int)).toNat default).ah).aj (h.ae.getD ((i : Int)).toNat default).al 1 (-1) 0 0 }
 have e1 : aA (bX h (h.ae.getD ((i : Int)).toNat default).ah c1) (h.ae.getD ((i : Int)).toNat default).ah = c1 := qK dE;have e2 : (bX h (h.ae.getD ((i : Int)).toNat default).ah c1).cabins.set (h.ae.getD ((i : Int)).toNat default).ah.toNat { aA (bX h (h.ae.getD ((i : Int)).toNat default).ah c1) (h.ae.getD ((i : Int)).toNat default).ah with spoke := h_ (aA (bX h (h.ae.getD ((i : Int)).toNat default).ah c1) (h.ae.getD ((i : Int)).toNat default).ah).spoke (dJ (h.ae.getD ((i : Int)).toNat default)) } = (dg h (h.ae.getD ((i : Int)).toNat default)).cabins := by rw [e1]; exact wq
 by_cases hk : fb h.rules (h.ae.getD ((i : Int)).toNat default) h.now = true
 · have hx : x = m7 h (h.ae.getD ((i : Int)).toNat default) := hx.trans (if_pos hk);have e3 : aA (dg h (h.ae.getD ((i : Int)).toNat default)) (h.ae.getD ((i : Int)).toNat default).ah = gh (aA h (h.ae.getD ((i : Int)).toNat default).ah) (h.ae.getD ((i : Int)).toNat default) := qK dE
   have hq : qE (aA (dg h (h.ae.getD ((i : Int)).toNat default)) (h.ae.getD ((i : Int)).toNat default).ah).row (dw h.rules (eE h.rules (h.ae.getD ((i : Int)).toNat default) h.now) h.now) = bS bp (dw h.rules (eE h.rules (h.ae.getD ((i : Int)).toNat default) h.now) h.now) (aA (dg h (h.ae.getD ((i : Int)).toNat default)) (h.ae.getD ((i : Int)).toNat default).ah).row := by
     rw [e3];show qE (aA h (h.ae.getD ((i : Int)).toNat default).ah).row _ = bS bp _ (aA h (h.ae.getD ((i : Int)).toNat default).ah).row;rw [o.jB];exact o.Cx h2 hk
   have e4 : (dg h (h.ae.getD ((i : Int)).toNat default)).cabins.set (h.ae.getD ((i : Int)).toNat default).ah.toNat { aA (dg h (h.ae.getD ((i : Int)).toNat default)) (h.ae.getD ((i : Int)).toNat default).ah with row := bS bp (dw h.rules (eE h.rules (h.ae.getD ((i : Int)).toNat default) h.now) h.now) (aA (dg h (h.ae.getD ((i : Int)).toNat default)) (h.ae.getD ((i : Int)).toNat default).ah).row } = (m7 h (h.ae.getD ((i : Int)).toNat default)).cabins := rfl;refine dW au Tryz.func69 rfl rfl (fr := true) (fun _ => by kernel_rfl) rfl rfl fun P hP hA hB => ?_;cbv;apply fC
   · intro hk
     repeat' first
       | exact trivial
       | (refine ag.by hP (nN h id (i : Int) r9.symm) ?_; cbv)
       | (refine Ob.mk (oi) ?_; cbv)
       | (refine Pz.mk ?_; cbv) | (refine bx.mk ?_ (by kernel_rfl) ?_; rotate_left; cbv; rotate_right) | refine ⟨rfl, ?_⟩ | refine And.intro ?_ ?_ | exact rfl | fail
     all_goals exact hk
   apply fC
   · intro hk
     repeat' first
       | exact trivial
       | (refine Ob.mk (dE) ?_; cbv)
       | (refine Ob.mk (rfl) ?_; cbv)
       | (refine ag.by hP (BM (aA h (h.ae.getD ((i : Int)).toNat default).ah).aj (h.ae.getD ((i : Int)).toNat default).al (bW (aA h (h.ae.getD ((i : Int)).toNat default).ah).aj (h.ae.getD ((i : Int)).toNat default).al 1 (-1) 0 0) rfl (bE (aA h (h.ae.getD ((i : Int)).toNat default).ah).aj (h.ae.getD ((i : Int)).toNat default).al 1 (-1) 0 0) rfl) ?_; cbv)
       | (refine Sv.mk (fun _ => (bX h (h.ae.getD ((i : Int)).toNat default).ah c1).cabins) (rfl) ?_; cbv; (repeat (refine Pz.mk ?_; cbv)); exact hk)
       | (refine Pz.mk ?_; cbv) | (refine bx.mk ?_ (by kernel_rfl) ?_; rotate_left; cbv; rotate_right) | refine ⟨rfl, ?_⟩ | refine And.intro ?_ ?_ | exact rfl | fail
   apply fC
   · intro hk
     repeat' first
       | exact trivial
       | (refine Ob.mk (rfl) ?_; cbv)
       | (refine ag.by hP (yy (aA (bX h (h.ae.getD ((i : Int)).toNat default).ah c1) (h.ae.getD ((i : Int)).toNat default).ah).spoke ⟨(h.ae.getD ((i : Int)).toNat default).cm, id⟩ (by rw [e1]; exact hp.2) (h_ (aA (bX h (h.ae.getD ((i : Int)).toNat default).ah c1) (h.ae.getD ((i : Int)).toNat default).ah).spoke (dJ (h.ae.getD ((i : Int)).toNat default))) (by rw [dJ, lu]) (gQ (aA (bX h (h.ae.getD ((i : Int)).toNat default).ah c1) (h.ae.getD ((i : Int)).toNat default).ah).spoke ⟨(h.ae.getD ((i : Int)).toNat default).cm, id⟩) rfl) ?_; cbv)
       | (refine Sv.mk (fun _ => (dg h (h.ae.getD ((i : Int)).toNat default)).cabins) (e2) ?_; cbv; (repeat (refine Pz.mk ?_; cbv)); exact hk)
       | (refine Pz.mk ?_; cbv) | (refine bx.mk ?_ (by kernel_rfl) ?_; rotate_left; cbv; rotate_right) | refine ⟨rfl, ?_⟩ | refine And.intro ?_ ?_ | exact rfl | fail
   repeat' first
     | exact trivial
     | (refine ag.by hP (HU h.rules (h.ae.getD ((i : Int)).toNat default) h.now hs.1 (eE h.rules (h.ae.getD ((i : Int)).toNat default) h.now) (if_pos hk).symm (fb h.rules (h.ae.getD ((i : Int)).toNat default) h.now) rfl) ?_; cbv)
     | (refine Pz.mk ?_; cbv) | (refine bx.mk ?_ (by kernel_rfl) ?_; rotate_left; cbv; rotate_right) | refine ⟨rfl, ?_⟩ | exact rfl | fail
   all_goals
     refine Br.split (fun k0 => ?_) (fun k0 => ?_) <;> cbv
     · repeat' first
         | exact trivial
         | (refine ag.by hP (BV h.ae (eE h.rules (h.ae.getD ((i : Int)).toNat default) h.now) hs.2.1 (ir h.ae (eE h.rules (h.ae.getD ((i : Int)).toNat default) h.now)) rfl) ?_; cbv)
         | (refine ag.by hP (Bm h.rules (eE h.rules (h.ae.getD ((i : Int)).toNat default) h.now) h.now hs.1 (dw h.rules (eE h.rules (h.ae.getD ((i : Int)).toNat default) h.now) h.now) rfl (eQ h.rules (eE h.rules (h.ae.getD ((i : Int)).toNat default) h.now) h.now) rfl) ?_; cbv)
         | (refine Pz.mk ?_; cbv) | (refine bx.mk ?_ (by kernel_rfl) ?_; rotate_left; cbv; rotate_right) | refine ⟨rfl, ?_⟩ | exact rfl | fail
       apply fC
       · intro hk
         repeat' first
          | exact trivial
          | (refine Ob.mk (rfl) ?_; cbv)
          | (refine ag.by hP (HR (aA (dg h (h.ae.getD ((i : Int)).toNat default)) (h.ae.getD ((i : Int)).toNat default).ah).row (dw h.rules (eE h.rules (h.ae.getD ((i : Int)).toNat default) h.now) h.now) (by rw [e3]; exact hp.1) (bS bp (dw h.rules (eE h.rules (h.ae.getD ((i : Int)).toNat default) h.now) h.now) (aA (dg h (h.ae.getD ((i : Int)).toNat default)) (h.ae.getD ((i : Int)).toNat default).ah).row) hq.symm (jd (aA (dg h (h.ae.getD ((i : Int)).toNat default)) (h.ae.getD ((i : Int)).toNat default).ah).row (dw h.rules (eE h.rules (h.ae.getD ((i : Int)).toNat default) h.now) h.now)) rfl) ?_; cbv)
          | (refine Sv.mk (fun _ => (m7 h (h.ae.getD ((i : Int)).toNat default)).cabins) (e4) ?_; cbv; (repeat (refine Pz.mk ?_; cbv)); exact hk)
          | (refine Pz.mk ?_; cbv) | (refine bx.mk ?_ (by kernel_rfl) ?_; rotate_left; cbv; rotate_right) | refine ⟨rfl, ?_⟩ | refine And.intro ?_ ?_ | exact rfl | fail
       all_goals
         obtain rfl : x = m7 h (h.ae.getD ((i : Int)).toNat default) := hx
         repeat' first | exact trivial | refine ⟨rfl, ?_⟩ | fail
     · have k0 : fb h.rules (h.ae.getD ((i : Int)).toNat default) h.now = false := k0;rw [hk] at k0; cases k0
 · have hx : x = eF (dg h (h.ae.getD ((i : Int)).toNat default)) (h.ae.getD ((i : Int)).toNat default) := hx.trans (if_neg hk);refine dW au Tryz.func69 rfl rfl (fr := true) (fun _ => by kernel_rfl) rfl rfl fun P hP hA hB => ?_;cbv;apply fC
   · intro hk
     repeat' first
       | exact trivial
       | (refine ag.by hP (nN h id (i : Int) r9.symm) ?_; cbv)
       | (refine Ob.mk (oi) ?_; cbv)
       | (refine Pz.mk ?_; cbv) | (refine bx.mk ?_ (by kernel_rfl) ?_; rotate_left; cbv; rotate_right) | refine ⟨rfl, ?_⟩ | refine And.intro ?_ ?_ | exact rfl | fail
     all_goals exact hk
   apply fC
   · intro hk
     repeat' first
       | exact trivial
       | (refine Ob.mk (dE) ?_; cbv)
       | (refine Ob.mk (rfl) ?_; cbv)
       | (refine ag.by hP (BM (aA h (h.ae.getD ((i : Int)).toNat default).ah).aj (h.ae.getD ((i : Int)).toNat default).al (bW (aA h (h.ae.getD ((i : Int)).toNat default).ah).aj (h.ae.getD ((i : Int)).toNat default).al 1 (-1) 0 0) rfl (bE (aA h (h.ae.getD ((i : Int)).toNat default).ah).aj (h.ae.getD ((i : Int)).toNat default).al 1 (-1) 0 0) rfl) ?_; cbv)
       | (refine Sv.mk (fun _ => (bX h (h.ae.getD ((i : Int)).toNat default).ah c1).cabins) (rfl) ?_; cbv; (repeat (refine Pz.mk ?_; cbv)); exact hk)
       | (refine Pz.mk ?_; cbv) | (refine bx.mk ?_ (by kernel_rfl) ?_; rotate_left; cbv; rotate_right) | refine ⟨rfl, ?_⟩ | refine And.intro ?_ ?_ | exact rfl | fail
   apply fC
   · intro hk
     repeat' first
       | exact trivial
       | (refine Ob.mk (rfl) ?_; cbv)
       | (refine ag.by hP (yy (aA (bX h (h.ae.getD ((i : Int)).toNat default).ah c1) (h.ae.getD ((i : Int)).toNat default).ah).spoke ⟨(h.ae.getD ((i : Int)).toNat default).cm, id⟩ (by rw [e1]; exact hp.2) (h_ (aA (bX h (h.ae.getD ((i : Int)).toNat default).ah c1) (h.ae.getD ((i : Int)).toNat default).ah).spoke (dJ (h.ae.getD ((i : Int)).toNat default))) (by rw [dJ, lu]) (gQ (aA (bX h (h.ae.getD ((i : Int)).toNat default).ah c1) (h.ae.getD ((i : Int)).toNat default).ah).spoke ⟨(h.ae.getD ((i : Int)).toNat default).cm, id⟩) rfl) ?_; cbv)
       | (refine Sv.mk (fun _ => (dg h (h.ae.getD ((i : Int)).toNat default)).cabins) (e2) ?_; cbv; (repeat (refine Pz.mk ?_; cbv)); exact hk)
       | (refine Pz.mk ?_; cbv) | (refine bx.mk ?_ (by kernel_rfl) ?_; rotate_left; cbv; rotate_right) | refine ⟨rfl, ?_⟩ | refine And.intro ?_ ?_ | exact rfl | fail
   repeat' first
     | exact trivial
     | (refine ag.by hP (HU h.rules (h.ae.getD ((i : Int)).toNat default) h.now hs.1 (yz h.rules (h.ae.getD ((i : Int)).toNat default) h.now) rfl (fb h.rules (h.ae.getD ((i : Int)).toNat default) h.now) rfl) ?_; cbv)
     | (refine Pz.mk ?_; cbv) | (refine bx.mk ?_ (by kernel_rfl) ?_; rotate_left; cbv; rotate_right) | refine ⟨rfl, ?_⟩ | exact rfl | fail
   all_goals
     refine Br.split (fun k0 => ?_) (fun k0 => ?_) <;> cbv
     · have k0 : fb h.rules (h.ae.getD ((i : Int)).toNat default) h.now = true := k0;exact absurd k0 hk
     repeat' first
       | exact trivial
       | (refine ag.by hP (tQ h.ae id hs.2.1 (fg h.ae (h.ae.getD ((i : Int)).toNat default).id) (by rw [lu])) ?_; cbv)
       | (refine Pz.mk ?_; cbv) | (refine bx.mk ?_ (by kernel_rfl) ?_; rotate_left; cbv; rotate_right) | refine ⟨rfl, ?_⟩ | refine And.intro ?_ ?_ | exact rfl | fail
     refine Br.split (fun h4 => ?_) (fun h4 => ?_) <;> cbv
     · have h4 : ((h.ae.getD ((i : Int)).toNat default).ak != -1) = true := h4;have h4 : (h.ae.getD ((i : Int)).toNat default).ak ≠ -1 := by simpa using h4
       have jG := r7 hf h4;have kQ : 0 ≤ (h.ae.getD ((i : Int)).toNat default).ak ∧ (h.ae.getD ((i : Int)).toNat default).ak < ((dg h (h.ae.getD ((i : Int)).toNat default)).cabins.length : Int) := r8 jG;obtain rfl : x = bX { dg h (h.ae.getD ((i : Int)).toNat default) with ae := fg h.ae (h.ae.getD ((i : Int)).toNat default).id } (h.ae.getD ((i : Int)).toNat default).ak (jU (aA (dg h (h.ae.getD ((i : Int)).toNat default)) (h.ae.getD ((i : Int)).toNat default).ak) (h.ae.getD ((i : Int)).toNat default).al) := hx.trans (t_ h4)
       repeat' first
         | exact trivial
         | (refine Ob.mk (kQ) ?_; cbv)
         | (refine ag.by hP (yv (aA (dg h (h.ae.getD ((i : Int)).toNat default)) (h.ae.getD ((i : Int)).toNat default).ak).aj (h.ae.getD ((i : Int)).toNat default).al (bW (aA (dg h (h.ae.getD ((i : Int)).toNat default)) (h.ae.getD ((i : Int)).toNat default).ak).aj (h.ae.getD ((i : Int)).toNat default).al 0 0 0 (-1)) rfl (bE (aA (dg h (h.ae.getD ((i : Int)).toNat default)) (h.ae.getD ((i : Int)).toNat default).ak).aj (h.ae.getD ((i : Int)).toNat default).al 0 0 0 (-1)) rfl) ?_; cbv)
         | (refine Sv.mk (fun _ => (bX (dg h (h.ae.getD ((i : Int)).toNat default)) (h.ae.getD ((i : Int)).toNat default).ak (jU (aA (dg h (h.ae.getD ((i : Int)).toNat default)) (h.ae.getD ((i : Int)).toNat default).ak) (h.ae.getD ((i : Int)).toNat default).al)).cabins) (rfl) ?_; cbv)
         | (refine Pz.mk ?_; cbv) | (refine bx.mk ?_ (by kernel_rfl) ?_; rotate_left; cbv; rotate_right) | refine ⟨rfl, ?_⟩ | refine And.intro ?_ ?_ | exact rfl | fail
     · have h4 : ((h.ae.getD ((i : Int)).toNat default).ak != -1) = false := h4;have h4 : (h.ae.getD ((i : Int)).toNat default).ak = -1 := by simpa using h4
       obtain rfl : x = { dg h (h.ae.getD ((i : Int)).toNat default) with ae := fg h.ae (h.ae.getD ((i : Int)).toNat default).id } := hx.trans (yM h4)
       repeat' first | exact trivial | refine ⟨rfl, ?_⟩ | fail
set_option maxHeartbeats 4000000 in
theorem Qj (h : an) (id : Int) (hs : bh h) (x : an) (hx : x = pf h id) (c : Int) (hc : c = aY h (jX id)) : Spec Tryz.prog 76 [cw h, iA id] (aE (.aT [(true, fT fun _ => x), (false, [.int .i64 fun _ => c])])) := by
 by_cases hv : aY h (jX id) = 0
 rotate_left
 · obtain rfl : x = h := hx.trans (if_neg hv);have k1 : (c != 0) = true := by rw [hc]; simpa using hv
   refine ay au Tryz.func76 rfl rfl (fr := true) (fun _ => by kernel_rfl) fun P hP hA => ?_;cbv;refine ag.by hP (gB x hs) ?_;cbv;refine ag.by hP (jS x (jX id) hs c hc) ?_;cbv;refine Br.split (fun k0 => ?_) (fun k0 => ?_) <;> cbv
   · repeat' first | exact trivial | refine ⟨rfl, ?_⟩ | fail
   · have k0 : (c != 0) = false := k0;rw [k1] at k0; cases k0
 have hx := hx.trans (if_pos hv);obtain ⟨i, k, p, cb, o, aV, ep, st⟩ := tY (.inr rfl) hv;have hq : x = rZ h p := hx.trans (congrArg (rZ h) ep);have hp : fU (aA h p.ah) := by rw [o.jB]; exact hs.2.2.1.2 cb (List.mem_of_getElem? o.hk)
 have hf := o.ak;have dE : 0 ≤ p.ah ∧ p.ah < (h.cabins.length : Int) := o.m9;obtain rfl : p.id = id := aV;have pe : h.ae.getD ((i : Int)).toNat default = p := by rw [Int.toNat_natCast, List.getD_eq_getElem?_getD, o.hi]; rfl
 have qL : (eT h p).todo.length ≤ bc := by rw [o.ik.2.2.2.1]; exact hs.2.2.2.1
 obtain rfl : x = rZ h p := hq;refine ay au Tryz.func76 rfl rfl (fr := true) (fun _ => by kernel_rfl) fun P hP hA => ?_;cbv;refine ag.by hP (gB h hs) ?_;cbv;refine ag.by hP (jS h (jX p.id) hs c hc) ?_;cbv;refine Br.split (fun k0 => ?_) (fun k0 => ?_) <;> cbv
 · have k0 : (c != 0) = true := k0;have k0 : ¬ c = 0 := by simpa using k0
   exact absurd (hc.trans hv) k0
 have k0 : (c != 0) = false := k0;obtain rfl : c = 0 := by simpa using k0
 apply fC
 · intro hk
   repeat' first
     | exact trivial
     | (refine ag.by hP (qq h p.id (i : Int) o.at_.symm) ?_; cbv)
     | (refine Ix.mk (p) (Int.natCast_nonneg i) (o.hi) ?_; cbv)
     | (refine Pz.mk ?_; cbv) | (refine bx.mk ?_ (by kernel_rfl) ?_; rotate_left; cbv; rotate_right) | refine ⟨rfl, ?_⟩ | refine And.intro ?_ ?_ | exact rfl | fail
   all_goals exact hk
 repeat' first
   | exact trivial
   | (refine bB.by hP (IH h p hs.1 hs.2.1 dE hp hf) ?_; cbv)
   | (refine ag.by hP (rO (eT h p).todo p.ah qL (fB (eT h p).todo p.ah) rfl) ?_; cbv)
   | (refine Pz.mk ?_; cbv) | (refine bx.mk ?_ (by kernel_rfl) ?_; rotate_left; cbv; rotate_right) | refine ⟨rfl, ?_⟩ | refine And.intro ?_ ?_ | exact rfl | fail
set_option maxHeartbeats 4000000 in
theorem Qk (h : an) (id : Int) (hs : bh h) (x : an) (hx : x = pf h id) (c : Int) (hc : c = aY h (jX id)) : Spec Tryz.prog 82 [cw h, iA id] (aE (.aT [(true, fT fun _ => x), (false, [.int .i64 fun _ => c])])) := by
 by_cases hv : aY h (jX id) = 0
 rotate_left
 · obtain rfl : x = h := hx.trans (if_neg hv);have k1 : (c != 0) = true := by rw [hc]; simpa using hv
   refine ay au Tryz.func82 rfl rfl (fr := true) (fun _ => by kernel_rfl) fun P hP hA => ?_;cbv;refine ag.by hP (iG x hs) ?_;cbv;refine ag.by hP (jT x (jX id) hs c hc) ?_;cbv;refine Br.split (fun k0 => ?_) (fun k0 => ?_) <;> cbv
   · repeat' first | exact trivial | refine ⟨rfl, ?_⟩ | fail
   · have k0 : (c != 0) = false := k0;rw [k1] at k0; cases k0
 have hx := hx.trans (if_pos hv);obtain ⟨i, k, p, cb, o, aV, ep, st⟩ := tY (.inr rfl) hv;have hq : x = rZ h p := hx.trans (congrArg (rZ h) ep);have hp : fU (aA h p.ah) := by rw [o.jB]; exact hs.2.2.1.2 cb (List.mem_of_getElem? o.hk)
 have hf := o.ak;have dE : 0 ≤ p.ah ∧ p.ah < (h.cabins.length : Int) := o.m9;obtain rfl : p.id = id := aV;have pe : h.ae.getD ((i : Int)).toNat default = p := by rw [Int.toNat_natCast, List.getD_eq_getElem?_getD, o.hi]; rfl
 have qL : (eT h p).todo.length ≤ bc := by rw [o.ik.2.2.2.1]; exact hs.2.2.2.1
 obtain rfl : x = rZ h p := hq;refine ay au Tryz.func82 rfl rfl (fr := true) (fun _ => by kernel_rfl) fun P hP hA => ?_;cbv;refine ag.by hP (iG h hs) ?_;cbv;refine ag.by hP (jT h (jX p.id) hs c hc) ?_;cbv;refine Br.split (fun k0 => ?_) (fun k0 => ?_) <;> cbv
 · have k0 : (c != 0) = true := k0;have k0 : ¬ c = 0 := by simpa using k0
   exact absurd (hc.trans hv) k0
 have k0 : (c != 0) = false := k0;obtain rfl : c = 0 := by simpa using k0
 apply fC
 · intro hk
   repeat' first
     | exact trivial
     | (refine ag.by hP (nN h p.id (i : Int) o.at_.symm) ?_; cbv)
     | (refine Ix.mk (p) (Int.natCast_nonneg i) (o.hi) ?_; cbv)
     | (refine Pz.mk ?_; cbv) | (refine bx.mk ?_ (by kernel_rfl) ?_; rotate_left; cbv; rotate_right) | refine ⟨rfl, ?_⟩ | refine And.intro ?_ ?_ | exact rfl | fail
   all_goals exact hk
 repeat' first
   | exact trivial
   | (refine bB.by hP (II h hs (i := i) (k := k) (c := cb) (by rw [pe]; exact o) (by rw [pe]; exact st) p.id (by rw [pe]) (eT h p) (by rw [pe])) ?_; cbv)
   | (refine ag.by hP (rN (eT h p).todo p.ah qL (fB (eT h p).todo p.ah) rfl) ?_; cbv)
   | (refine Pz.mk ?_; cbv) | (refine bx.mk ?_ (by kernel_rfl) ?_; rotate_left; cbv; rotate_right) | refine ⟨rfl, ?_⟩ | refine And.intro ?_ ?_ | exact rfl | fail
end Go.Proofs.YticeaiiffeccmaaGreat

