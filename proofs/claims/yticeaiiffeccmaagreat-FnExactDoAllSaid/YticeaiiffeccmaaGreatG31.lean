/- Parts of a proof. No conditions. -/

import Derived.Test.YticeaiiffeccmaaGreatG27
import Derived.Test.YticeaiiffeccmaaGreatG26
set_option linter.unusedSimpArgs false
set_option linter.unusedVariables false
namespace Go.Proofs.YticeaiiffeccmaaGreat
open Go
set_option maxRecDepth 100000
set_option maxHeartbeats 4000000 in
theorem QD (h : an) (id ah ak al aJ : Int) (hs : bh h) (x : an) (hx : x = pg h id ah ak al aJ) (c : Int) (hc : c = aY h (jY id ah ak al aJ)) : Spec Tryz.prog 72 [cw h, iA id, iA ah, iA ak, iA al, iA aJ] (aE (.aT [(true, fT fun _ => x), (false, [.int .i64 fun _ => c])])) := by
 by_cases hv : aY h (jY id ah ak al aJ) = 0
 rotate_left
 · obtain rfl : x = h := hx.trans (if_neg hv);have k1 : (c != 0) = true := by rw [hc]; simpa using hv
   refine ay au Tryz.func72 rfl rfl (fr := true) (fun _ => by kernel_rfl) fun P hP hA => ?_;cbv;refine ag.by hP (gB x hs) ?_;cbv;refine ag.by hP (jS x (jY id ah ak al aJ) hs c hc) ?_;cbv;refine Br.split (fun k0 => ?_) (fun k0 => ?_) <;> cbv
   · repeat' first | exact trivial | refine ⟨rfl, ?_⟩ | fail
   · have k0 : (c != 0) = false := k0;rw [k1] at k0; cases k0
 have hx := hx.trans (if_pos hv);obtain ⟨k, cb, o⟩ := CC hv;have hp : fU (aA h ah) := by rw [show aA h ah = cb from o.jB]; exact hs.2.2.1.2 cb (List.mem_of_getElem? o.hk)
 have hf : ak = -1 ∨ ∃ f, jV h (db h id ah ak al aJ) f := o.ak;have dE : 0 ≤ ah ∧ ah < (h.cabins.length : Int) := o.m9;have QE := o.IF;refine ay au Tryz.func72 rfl rfl (fr := true) (fun _ => by kernel_rfl) fun P hP hA => ?_;cbv;refine ag.by hP (gB h hs) ?_;cbv;refine ag.by hP (jS h (jY id ah ak al aJ) hs c hc) ?_;cbv;refine Br.split (fun k0 => ?_) (fun k0 => ?_) <;> cbv
 · have k0 : (c != 0) = true := k0;have k0 : ¬ c = 0 := by simpa using k0
   exact absurd (hc.trans hv) k0
 have k0 : (c != 0) = false := k0;obtain rfl : c = 0 := by simpa using k0
 repeat' first
   | exact trivial
   | (refine Ar.exact (by (try simp only [nc] at *); omega) (by (try simp only [nc] at *); omega) ?_; cbv)
   | (refine ag.by hP (BW h.ae (db h id ah ak al aJ) hs.2.1 (ir h.ae (db h id ah ak al aJ)) rfl) ?_; cbv)
   | (refine bB.by hP (IG (CD h (db h id ah ak al aJ)) (db h id ah ak al aJ) dE hs.1 hp.1) ?_; cbv)
   | (refine Pz.mk ?_; cbv) | (refine bx.mk ?_ (by kernel_rfl) ?_; rotate_left; cbv; rotate_right) | refine ⟨rfl, ?_⟩ | refine And.intro ?_ ?_ | exact rfl | fail
 all_goals
   refine Br.dec (fun h4 => ?_) (fun h4 => ?_) <;> cbv
   · have h4 : ak ≥ 0 := h4;have h5 : ak ≠ -1 := by omega
     have jG : 0 ≤ ak ∧ ak < (h.cabins.length : Int) := r7 (p := (db h id ah ak al aJ)) hf h5;have kQ : 0 ≤ ak ∧ ak < ((gk h (db h id ah ak al aJ)).cabins.length : Int) := by rw [gk, tV, m8]; exact jG
     obtain rfl : x = { bX (gk h (db h id ah ak al aJ)) ak (wu (aA (gk h (db h id ah ak al aJ)) ak) al) with todo := fB h.todo ah } := hx.trans (by rw [wv, rX, if_neg (show ¬ (db h id ah ak al aJ).ak = -1 from h5)]; rfl);apply fC
     · intro hk
       repeat' first
        | exact trivial
        | (refine Ob.mk (kQ) ?_; cbv)
        | (refine ag.by hP (OL (aA (gk h (db h id ah ak al aJ)) ak).aj al (bW (aA (gk h (db h id ah ak al aJ)) ak).aj al 0 0 0 1) rfl (bE (aA (gk h (db h id ah ak al aJ)) ak).aj al 0 0 0 1) rfl) ?_; cbv)
        | (refine Sv.mk (fun _ => (bX (gk h (db h id ah ak al aJ)) ak (wu (aA (gk h (db h id ah ak al aJ)) ak) al)).cabins) (rfl) ?_; cbv; (repeat (refine Pz.mk ?_; cbv)); exact hk)
        | (refine Pz.mk ?_; cbv) | (refine bx.mk ?_ (by kernel_rfl) ?_; rotate_left; cbv; rotate_right) | refine ⟨rfl, ?_⟩ | refine And.intro ?_ ?_ | exact rfl | fail
     repeat' first
       | exact trivial
       | (refine ag.by hP (rO h.todo ah hs.2.2.2.1 (fB h.todo ah) rfl) ?_; cbv)
       | (refine Pz.mk ?_; cbv) | (refine bx.mk ?_ (by kernel_rfl) ?_; rotate_left; cbv; rotate_right) | refine ⟨rfl, ?_⟩ | refine And.intro ?_ ?_ | exact rfl | fail
   · have h4 : ¬ ak ≥ 0 := h4;have h5 : ak = -1 := hf.resolve_right (fun ⟨f, q⟩ => by have : ak = (f : Int) := q.eq; omega);obtain rfl : x = { gk h (db h id ah ak al aJ) with todo := fB h.todo ah } := hx.trans (by rw [wv, rX, if_pos (show (db h id ah ak al aJ).ak = -1 from h5)]; rfl)
     repeat' first
       | exact trivial
       | (refine ag.by hP (rO h.todo ah hs.2.2.2.1 (fB h.todo ah) rfl) ?_; cbv)
       | (refine Pz.mk ?_; cbv) | (refine bx.mk ?_ (by kernel_rfl) ?_; rotate_left; cbv; rotate_right) | refine ⟨rfl, ?_⟩ | refine And.intro ?_ ?_ | exact rfl | fail
set_option maxHeartbeats 4000000 in
theorem QF (h : an) (id ah ak al aJ : Int) (hs : bh h) (x : an) (hx : x = pg h id ah ak al aJ) (c : Int) (hc : c = aY h (jY id ah ak al aJ)) : Spec Tryz.prog 78 [cw h, iA id, iA ah, iA ak, iA al, iA aJ] (aE (.aT [(true, fT fun _ => x), (false, [.int .i64 fun _ => c])])) := by
 by_cases hv : aY h (jY id ah ak al aJ) = 0
 rotate_left
 · obtain rfl : x = h := hx.trans (if_neg hv);have k1 : (c != 0) = true := by rw [hc]; simpa using hv
   refine ay au Tryz.func78 rfl rfl (fr := true) (fun _ => by kernel_rfl) fun P hP hA => ?_;cbv;refine ag.by hP (iG x hs) ?_;cbv;refine ag.by hP (jT x (jY id ah ak al aJ) hs c hc) ?_;cbv;refine Br.split (fun k0 => ?_) (fun k0 => ?_) <;> cbv
   · repeat' first | exact trivial | refine ⟨rfl, ?_⟩ | fail
   · have k0 : (c != 0) = false := k0;rw [k1] at k0; cases k0
 have hx := hx.trans (if_pos hv);obtain ⟨k, cb, o⟩ := CC hv;have hp : fU (aA h ah) := by rw [show aA h ah = cb from o.jB]; exact hs.2.2.1.2 cb (List.mem_of_getElem? o.hk)
 have hf : ak = -1 ∨ ∃ f, jV h (db h id ah ak al aJ) f := o.ak;have dE : 0 ≤ ah ∧ ah < (h.cabins.length : Int) := o.m9;have QE := o.IF;have hq : bS bp (dw h.rules (db h id ah ak al aJ) h.now) (aA h ah).row = qE (aA h ah).row (dw h.rules (db h id ah ak al aJ) h.now) := by rw [show aA h ah = cb from o.jB]; exact o.Cx.symm
 refine ay au Tryz.func78 rfl rfl (fr := true) (fun _ => by kernel_rfl) fun P hP hA => ?_;cbv;refine ag.by hP (iG h hs) ?_;cbv;refine ag.by hP (jT h (jY id ah ak al aJ) hs c hc) ?_;cbv;refine Br.split (fun k0 => ?_) (fun k0 => ?_) <;> cbv
 · have k0 : (c != 0) = true := k0;have k0 : ¬ c = 0 := by simpa using k0
   exact absurd (hc.trans hv) k0
 have k0 : (c != 0) = false := k0;obtain rfl : c = 0 := by simpa using k0
 repeat' first
   | exact trivial
   | (refine Ar.exact (by (try simp only [nc] at *); omega) (by (try simp only [nc] at *); omega) ?_; cbv)
   | (refine ag.by hP (BV h.ae (db h id ah ak al aJ) hs.2.1 (ir h.ae (db h id ah ak al aJ)) rfl) ?_; cbv)
   | (refine ag.by hP (Bm h.rules (db h id ah ak al aJ) h.now hs.1 (dw h.rules (db h id ah ak al aJ) h.now) rfl (eQ h.rules (db h id ah ak al aJ) h.now) rfl) ?_; cbv)
   | (refine Pz.mk ?_; cbv) | (refine bx.mk ?_ (by kernel_rfl) ?_; rotate_left; cbv; rotate_right) | refine ⟨rfl, ?_⟩ | exact rfl | fail
 apply fC
 · intro hk
   repeat' first
     | exact trivial
     | (refine Ob.mk (dE) ?_; cbv)
     | (refine ag.by hP (HR (aA h ah).row (dw h.rules (db h id ah ak al aJ) h.now) hp.1 (bS bp (dw h.rules (db h id ah ak al aJ) h.now) (aA h ah).row) hq (jd (aA h ah).row (dw h.rules (db h id ah ak al aJ) h.now)) rfl) ?_; cbv)
     | (refine Sv.mk (fun _ => (gk h (db h id ah ak al aJ)).cabins) (rfl) ?_; cbv; (repeat (refine Pz.mk ?_; cbv)); exact hk)
     | (refine Pz.mk ?_; cbv) | (refine bx.mk ?_ (by kernel_rfl) ?_; rotate_left; cbv; rotate_right) | refine ⟨rfl, ?_⟩ | refine And.intro ?_ ?_ | exact rfl | fail
 all_goals
   refine Br.split (fun h4 => ?_) (fun h4 => ?_) <;> cbv
   · have h4 : (ak != -1) = true := h4;have h5 : ak ≠ -1 := by simpa using h4
     have jG : 0 ≤ ak ∧ ak < (h.cabins.length : Int) := r7 (p := (db h id ah ak al aJ)) hf h5;have kQ : 0 ≤ ak ∧ ak < ((gk h (db h id ah ak al aJ)).cabins.length : Int) := by rw [gk, tV, m8]; exact jG
     obtain rfl : x = { bX (gk h (db h id ah ak al aJ)) ak (wu (aA (gk h (db h id ah ak al aJ)) ak) al) with todo := fB h.todo ah } := hx.trans (by rw [wv, rX, if_neg (show ¬ (db h id ah ak al aJ).ak = -1 from h5)]; rfl);apply fC
     · intro hk
       repeat' first
        | exact trivial
        | (refine Ob.mk (kQ) ?_; cbv)
        | (refine ag.by hP (OO (aA (gk h (db h id ah ak al aJ)) ak).aj al (bW (aA (gk h (db h id ah ak al aJ)) ak).aj al 0 0 0 1) rfl (bE (aA (gk h (db h id ah ak al aJ)) ak).aj al 0 0 0 1) rfl) ?_; cbv)
        | (refine Sv.mk (fun _ => (bX (gk h (db h id ah ak al aJ)) ak (wu (aA (gk h (db h id ah ak al aJ)) ak) al)).cabins) (rfl) ?_; cbv; (repeat (refine Pz.mk ?_; cbv)); exact hk)
        | (refine Pz.mk ?_; cbv) | (refine bx.mk ?_ (by kernel_rfl) ?_; rotate_left; cbv; rotate_right) | refine ⟨rfl, ?_⟩ | refine And.intro ?_ ?_ | exact rfl | fail
     repeat' first
       | exact trivial
       | (refine ag.by hP (rN h.todo ah hs.2.2.2.1 (fB h.todo ah) rfl) ?_; cbv)
       | (refine Pz.mk ?_; cbv) | (refine bx.mk ?_ (by kernel_rfl) ?_; rotate_left; cbv; rotate_right) | refine ⟨rfl, ?_⟩ | refine And.intro ?_ ?_ | exact rfl | fail
   · have h4 : (ak != -1) = false := h4;have h5 : ak = -1 := by simpa using h4
     obtain rfl : x = { gk h (db h id ah ak al aJ) with todo := fB h.todo ah } := hx.trans (by rw [wv, rX, if_pos (show (db h id ah ak al aJ).ak = -1 from h5)]; rfl)
     repeat' first
       | exact trivial
       | (refine ag.by hP (rN h.todo ah hs.2.2.2.1 (fB h.todo ah) rfl) ?_; cbv)
       | (refine Pz.mk ?_; cbv) | (refine bx.mk ?_ (by kernel_rfl) ?_; rotate_left; cbv; rotate_right) | refine ⟨rfl, ?_⟩ | refine And.intro ?_ ?_ | exact rfl | fail
end Go.Proofs.YticeaiiffeccmaaGreat

