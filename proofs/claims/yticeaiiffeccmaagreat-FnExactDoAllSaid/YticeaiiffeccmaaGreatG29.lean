/- Parts of a proof. No conditions. -/

import Derived.Test.YticeaiiffeccmaaGreatG27
import Derived.Test.YticeaiiffeccmaaGreatG26
set_option linter.unusedSimpArgs false
set_option linter.unusedVariables false
namespace Go.Proofs.YticeaiiffeccmaaGreat
open Go
set_option maxRecDepth 100000
set_option maxHeartbeats 4000000 in
theorem QP (h : an) (id : Int) (hs : bh h) (x : an) (hx : x = pd h id) (c : Int) (hc : c = aY h (jW id)) : Spec Tryz.prog 75 [cw h, iA id] (aE (.aT [(true, fT fun _ => x), (false, [.int .i64 fun _ => c])])) := by
 by_cases hv : aY h (jW id) = 0
 rotate_left
 · obtain rfl : x = h := hx.trans (if_neg hv);have k1 : (c != 0) = true := by rw [hc]; simpa using hv
   refine ay au Tryz.func75 rfl rfl (fr := true) (fun _ => by kernel_rfl) fun P hP hA => ?_;cbv;refine ag.by hP (gB x hs) ?_;cbv;refine ag.by hP (jS x (jW id) hs c hc) ?_;cbv;refine Br.split (fun k0 => ?_) (fun k0 => ?_) <;> cbv
   · repeat' first | exact trivial | refine ⟨rfl, ?_⟩ | fail
   · have k0 : (c != 0) = false := k0;rw [k1] at k0; cases k0
 have hx := hx.trans (if_pos hv);obtain ⟨i, k, p, cb, o, aV, ep, st⟩ := tY (.inl rfl) hv;have hq : x = tZ h p := hx.trans (congrArg (tZ h) ep);have hp : fU (aA h p.ah) := by rw [o.jB]; exact hs.2.2.1.2 cb (List.mem_of_getElem? o.hk)
 have hf := o.ak;have dE : 0 ≤ p.ah ∧ p.ah < (h.cabins.length : Int) := o.m9;obtain rfl : p.id = id := aV;refine ay au Tryz.func75 rfl rfl (fr := true) (fun _ => by kernel_rfl) fun P hP hA => ?_;cbv;refine ag.by hP (gB h hs) ?_;cbv;refine ag.by hP (jS h (jW p.id) hs c hc) ?_;cbv;refine Br.split (fun k0 => ?_) (fun k0 => ?_) <;> cbv
 · have k0 : (c != 0) = true := k0;have k0 : ¬ c = 0 := by simpa using k0
   exact absurd (hc.trans hv) k0
 have k0 : (c != 0) = false := k0;obtain rfl : c = 0 := by simpa using k0
 apply fC
 · intro hk
   repeat' first
     | exact trivial
     | (refine ag.by hP (qq h p.id (i : Int) o.at_.symm) ?_; cbv)
     | (refine Ix.mk (p) (Int.natCast_nonneg i) (o.hi) ?_; cbv)
     | (refine Pz.mk ?_; cbv) | (refine bx.mk ?_ (by kernel_rfl) ?_; rotate_left; cbv; rotate_right) | refine ⟨rfl, ?_⟩ | refine And.intro ?_ ?_ | exact rfl | fail
   all_goals exact hk
 repeat' first
   | exact trivial
   | (refine Ob.mk (dE) ?_; cbv)
   | (refine ag.by hP (OF (aA (h) p.ah).aj p.al (bW (aA (h) p.ah).aj p.al 0 (-1) 1 0) rfl (bE (aA (h) p.ah).aj p.al 0 (-1) 1 0) rfl) ?_; cbv)
   | (refine ag.by hP (HQ (aA h p.ah).spoke (dJ p) hp.2 (h_ (aA h p.ah).spoke (dJ p)) rfl (gQ (aA h p.ah).spoke (dJ p)) rfl) ?_; cbv)
   | (refine Sv.mk (fun _ => (fq h p).cabins) (rfl) ?_; cbv)
   | (refine bB.by hP (yN (fq h p) p hs.2.1 (jV.of (m8 _ _ _) hf)) ?_; cbv)
   | (refine Pz.mk ?_; cbv) | (refine bx.mk ?_ (by kernel_rfl) ?_; rotate_left; cbv; rotate_right) | refine ⟨rfl, ?_⟩ | refine And.intro ?_ ?_ | exact rfl | fail
 all_goals
   refine Br.dec (fun h4 => ?_) (fun h4 => ?_) <;> cbv
   · have h4 : p.ak ≥ 0 := h4;have h5 : p.ak ≠ -1 := by omega
     have jG := r7 hf h5;have kQ : 0 ≤ p.ak ∧ p.ak < ((eF (fq h p) p).cabins.length : Int) := by rw [t_ h5]; exact r8 (h := { fq h p with ae := fg (fq h p).ae p.id }) (r8 jG)
     have ht : (eF (fq h p) p).todo.length ≤ bc := by rw [t_ h5]; exact hs.2.2.2.1
     obtain rfl : x = mm (eF (fq h p) p) p.ak p.al := hq.trans (if_neg h5);refine bB.by hP (Qh (eF (fq h p) p) p.ak kQ p.al ht) ?_;cbv
     repeat' first | exact trivial | refine ⟨rfl, ?_⟩ | fail
   · have h4 : ¬ p.ak ≥ 0 := h4;have h5 : p.ak = -1 := hf.resolve_right (fun ⟨f, q⟩ => by have := q.eq; omega);obtain rfl : x = eF (fq h p) p := hq.trans (if_pos h5)
     repeat' first | exact trivial | refine ⟨rfl, ?_⟩ | fail
set_option maxHeartbeats 4000000 in
theorem QQ (h : an) (id : Int) (hs : bh h) (x : an) (hx : x = pd h id) (c : Int) (hc : c = aY h (jW id)) : Spec Tryz.prog 81 [cw h, iA id] (aE (.aT [(true, fT fun _ => x), (false, [.int .i64 fun _ => c])])) := by
 by_cases hv : aY h (jW id) = 0
 rotate_left
 · obtain rfl : x = h := hx.trans (if_neg hv);have k1 : (c != 0) = true := by rw [hc]; simpa using hv
   refine ay au Tryz.func81 rfl rfl (fr := true) (fun _ => by kernel_rfl) fun P hP hA => ?_;cbv;refine ag.by hP (iG x hs) ?_;cbv;refine ag.by hP (jT x (jW id) hs c hc) ?_;cbv;refine Br.split (fun k0 => ?_) (fun k0 => ?_) <;> cbv
   · repeat' first | exact trivial | refine ⟨rfl, ?_⟩ | fail
   · have k0 : (c != 0) = false := k0;rw [k1] at k0; cases k0
 have hx := hx.trans (if_pos hv);obtain ⟨i, k, p, cb, o, aV, ep, st⟩ := tY (.inl rfl) hv;have hq : x = tZ h p := hx.trans (congrArg (tZ h) ep);have hp : fU (aA h p.ah) := by rw [o.jB]; exact hs.2.2.1.2 cb (List.mem_of_getElem? o.hk)
 have hf := o.ak;have dE : 0 ≤ p.ah ∧ p.ah < (h.cabins.length : Int) := o.m9;obtain rfl : p.id = id := aV;refine ay au Tryz.func81 rfl rfl (fr := true) (fun _ => by kernel_rfl) fun P hP hA => ?_;cbv;refine ag.by hP (iG h hs) ?_;cbv;refine ag.by hP (jT h (jW p.id) hs c hc) ?_;cbv;refine Br.split (fun k0 => ?_) (fun k0 => ?_) <;> cbv
 · have k0 : (c != 0) = true := k0;have k0 : ¬ c = 0 := by simpa using k0
   exact absurd (hc.trans hv) k0
 have k0 : (c != 0) = false := k0;obtain rfl : c = 0 := by simpa using k0
 let c1 : bd := { aA h p.ah with aj := bW (aA h p.ah).aj p.al 0 (-1) 1 0 }
 have e1 : aA (bX h p.ah c1) p.ah = c1 := qK dE;have e2 : (bX h p.ah c1).cabins.set p.ah.toNat { aA (bX h p.ah c1) p.ah with spoke := h_ (aA (bX h p.ah c1) p.ah).spoke (dJ p) } = (fq h p).cabins := by rw [e1]; exact wq
 apply fC
 · intro hk
   repeat' first
     | exact trivial
     | (refine ag.by hP (nN h p.id (i : Int) o.at_.symm) ?_; cbv)
     | (refine Ix.mk (p) (Int.natCast_nonneg i) (o.hi) ?_; cbv)
     | (refine Pz.mk ?_; cbv) | (refine bx.mk ?_ (by kernel_rfl) ?_; rotate_left; cbv; rotate_right) | refine ⟨rfl, ?_⟩ | refine And.intro ?_ ?_ | exact rfl | fail
   all_goals exact hk
 apply fC
 · intro hk
   repeat' first
     | exact trivial
     | (refine Ob.mk (dE) ?_; cbv)
     | (refine Ob.mk (rfl) ?_; cbv)
     | (refine ag.by hP (OI (aA (h) p.ah).aj p.al (bW (aA (h) p.ah).aj p.al 0 (-1) 1 0) rfl (bE (aA (h) p.ah).aj p.al 0 (-1) 1 0) rfl) ?_; cbv)
     | (refine Sv.mk (fun _ => (bX h p.ah c1).cabins) (rfl) ?_; cbv; (repeat (refine Pz.mk ?_; cbv)); exact hk)
     | (refine Pz.mk ?_; cbv) | (refine bx.mk ?_ (by kernel_rfl) ?_; rotate_left; cbv; rotate_right) | refine ⟨rfl, ?_⟩ | refine And.intro ?_ ?_ | exact rfl | fail
 apply fC
 · intro hk
   repeat' first
     | exact trivial
     | (refine Ob.mk (rfl) ?_; cbv)
     | (refine ag.by hP (yy (aA (bX h p.ah c1) p.ah).spoke (dJ p) (by rw [e1]; exact hp.2) (h_ (aA (bX h p.ah c1) p.ah).spoke (dJ p)) rfl (gQ (aA (bX h p.ah c1) p.ah).spoke (dJ p)) rfl) ?_; cbv)
     | (refine Sv.mk (fun _ => (fq h p).cabins) (e2) ?_; cbv; (repeat (refine Pz.mk ?_; cbv)); exact hk)
     | (refine Pz.mk ?_; cbv) | (refine bx.mk ?_ (by kernel_rfl) ?_; rotate_left; cbv; rotate_right) | refine ⟨rfl, ?_⟩ | refine And.intro ?_ ?_ | exact rfl | fail
 repeat' first
   | exact trivial
   | (refine ag.by hP (tQ h.ae p.id hs.2.1 (fg h.ae p.id) rfl) ?_; cbv)
   | (refine Pz.mk ?_; cbv) | (refine bx.mk ?_ (by kernel_rfl) ?_; rotate_left; cbv; rotate_right) | refine ⟨rfl, ?_⟩ | refine And.intro ?_ ?_ | exact rfl | fail
 all_goals
   refine Br.split (fun h4 => ?_) (fun h4 => ?_) <;> cbv
   · have h4 : (p.ak != -1) = true := h4;have h4 : p.ak ≠ -1 := by simpa using h4
     have jG := r7 hf h4;have kQ : 0 ≤ p.ak ∧ p.ak < ((fq h p).cabins.length : Int) := r8 jG
     let G : an := bX (fq h p) p.ak (jU (aA (fq h p) p.ak) p.al)
     have g1 : aA G p.ak = jU (aA (fq h p) p.ak) p.al := qK kQ;obtain rfl : x = mm (bX { fq h p with ae := fg h.ae p.id } p.ak (jU (aA (fq h p) p.ak) p.al)) p.ak p.al := hq.trans ((if_neg h4).trans (by rw [t_ h4]; rfl));apply fC
     · intro hk
       repeat' first
        | exact trivial
        | (refine Ob.mk (kQ) ?_; cbv)
        | (refine Ob.mk (rfl) ?_; cbv)
        | (refine ag.by hP (yv (aA (fq h p) p.ak).aj p.al (bW (aA (fq h p) p.ak).aj p.al 0 0 0 (-1)) rfl (bE (aA (fq h p) p.ak).aj p.al 0 0 0 (-1)) rfl) ?_; cbv)
        | (refine Sv.mk (fun _ => G.cabins) (rfl) ?_; cbv; (repeat (refine Pz.mk ?_; cbv)); exact hk)
        | (refine Pz.mk ?_; cbv) | (refine bx.mk ?_ (by kernel_rfl) ?_; rotate_left; cbv; rotate_right) | refine ⟨rfl, ?_⟩ | refine And.intro ?_ ?_ | exact rfl | fail
     apply fC
     · intro hk
       repeat' first
        | exact trivial
        | (refine Ob.mk (rfl) ?_; cbv)
        | (refine ag.by hP (Hj (aA (G) p.ak).aj p.al (bW (aA (G) p.ak).aj p.al 1 0 (-1) 0) rfl (bE (aA (G) p.ak).aj p.al 1 0 (-1) 0) rfl) ?_; cbv)
        | (refine Sv.mk (fun _ => (mm G p.ak p.al).cabins) (rfl) ?_; cbv; (repeat (refine Pz.mk ?_; cbv)); exact hk)
        | (refine Pz.mk ?_; cbv) | (refine bx.mk ?_ (by kernel_rfl) ?_; rotate_left; cbv; rotate_right) | refine ⟨rfl, ?_⟩ | refine And.intro ?_ ?_ | exact rfl | fail
     repeat' first
       | exact trivial
       | (refine ag.by hP (rN h.todo p.ak hs.2.2.2.1 (fB h.todo p.ak) rfl) ?_; cbv)
       | (refine Pz.mk ?_; cbv) | (refine bx.mk ?_ (by kernel_rfl) ?_; rotate_left; cbv; rotate_right) | refine ⟨rfl, ?_⟩ | refine And.intro ?_ ?_ | exact rfl | fail
   · have h4 : (p.ak != -1) = false := h4;have h4 : p.ak = -1 := by simpa using h4
     obtain rfl : x = { fq h p with ae := fg h.ae p.id } := hq.trans ((if_pos h4).trans (yM h4))
     repeat' first | exact trivial | refine ⟨rfl, ?_⟩ | fail
end Go.Proofs.YticeaiiffeccmaaGreat

