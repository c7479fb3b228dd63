/- Parts of a proof. No conditions. -/

import Derived.Test.YticeaiiffeccmaaGreatG25
import Derived.Test.YticeaiiffeccmaaGreatG22
set_option linter.unusedSimpArgs false
set_option linter.unusedVariables false
namespace Go.Proofs.YticeaiiffeccmaaGreat
open Go
set_option maxRecDepth 100000
set_option maxHeartbeats 1000000 in
theorem CG (h : an) (p : aw) (hc : 0 ≤ p.ah ∧ p.ah < (h.cabins.length : Int)) (hw : iW (aA h p.ah).spoke) : cB Tryz.prog 148 [kD h, eA .aG p] (lg h) (cV (kx fun _ => dg h p) []) := by
 refine dW au Tryz.func148 rfl rfl (fr := true) (fun _ => by kernel_rfl) rfl rfl fun P hP hA hB => ?_;cbv
 repeat' first
  | exact trivial
  | (refine Ob.mk (hc) ?_; cbv)
  | (refine ag.by hP (OC (aA h p.ah).aj p.al (bW (aA h p.ah).aj p.al 1 (-1) 0 0) rfl (bE (aA h p.ah).aj p.al 1 (-1) 0 0) rfl) ?_; cbv)
  | (refine ag.by hP (HQ (aA h p.ah).spoke (dJ p) hw (h_ (aA h p.ah).spoke (dJ p)) rfl (gQ (aA h p.ah).spoke (dJ p)) rfl) ?_; cbv)
  | (refine Sv.mk (fun _ => (dg h p).cabins) (rfl) ?_; cbv)
  | (refine Pz.mk ?_; cbv) | (refine bx.mk ?_ (by kernel_rfl) ?_; rotate_left; cbv; rotate_right) | refine ⟨rfl, ?_⟩ | refine And.intro ?_ ?_ | exact rfl | fail
set_option maxHeartbeats 1000000 in
theorem yN (h : an) (p : aw) (hl : h.ae.length ≤ bc) (hf : p.ak = -1 ∨ ∃ f, jV h p f) : cB Tryz.prog 149 [kD h, eA .aG p] (lg h) (cV (kx fun _ => eF h p) []) := by
 refine dW au Tryz.func149 rfl rfl (fr := true) (fun _ => by kernel_rfl) rfl rfl fun P hP hA hB => ?_;cbv;refine ag.by hP (O8 h.ae p.id hl (fg h.ae p.id) rfl) ?_;cbv;refine Br.dec (fun h0 => ?_) (fun h0 => ?_) <;> cbv
 · have h0 : p.ak ≥ 0 := h0;obtain ⟨f, hf⟩ := hf.resolve_left (by omega);have oi : 0 ≤ p.ak ∧ p.ak < (h.cabins.length : Int) := by have := hf.lt; have := hf.eq; omega
   have ee : eF h p = bX { h with ae := fg h.ae p.id } p.ak (jU (aA h p.ak) p.al) := by
    rw [eF, kM, if_neg (by omega)]; rfl
   rw [ee]
   repeat' first
    | exact trivial
    | (refine Ob.mk (oi) ?_; cbv)
    | (refine ag.by hP (OP (aA h p.ak).aj p.al (bW (aA h p.ak).aj p.al 0 0 0 (-1)) rfl (bE (aA h p.ak).aj p.al 0 0 0 (-1)) rfl) ?_; cbv)
    | (refine Sv.mk (fun _ => (bX h p.ak (jU (aA h p.ak) p.al)).cabins) (rfl) ?_; cbv)
    | (refine Pz.mk ?_; cbv) | (refine bx.mk ?_ (by kernel_rfl) ?_; rotate_left; cbv; rotate_right) | refine ⟨rfl, ?_⟩ | refine And.intro ?_ ?_ | exact rfl | fail
 · have h0 : ¬ p.ak ≥ 0 := h0;have h1 : p.ak = -1 := hf.resolve_right (fun ⟨f, hf⟩ => by have := hf.eq; omega);have ee : eF h p = { h with ae := fg h.ae p.id } := by rw [eF, kM, if_pos h1]
   rw [ee];cbv
   repeat' first | exact trivial | refine ⟨rfl, ?_⟩ | fail
set_option maxHeartbeats 1000000 in
theorem IG (h : an) (p : aw) (hc : 0 ≤ p.ah ∧ p.ah < (h.cabins.length : Int)) (hs : h.rules.aj.length ≤ bc) (hw : (aA h p.ah).row.length ≤ bc) : cB Tryz.prog 145 [kD h, eA .aG p] (lg h) (cV (kx fun _ => tV h p) []) := by
 refine dW au Tryz.func145 rfl rfl (fr := true) (fun _ => by kernel_rfl) rfl rfl fun P hP hA hB => ?_;cbv
 repeat' first
  | exact trivial
  | (refine ag.by hP (Gg h.rules p h.now hs (dw h.rules p h.now) rfl (eQ h.rules p h.now) rfl) ?_; cbv)
  | (refine Ob.mk (hc) ?_; cbv)
  | (refine ag.by hP (Gu (aA h p.ah).row (dw h.rules p h.now) hw) ?_; cbv)
  | (refine Sv.mk (fun _ => (tV h p).cabins) (rfl) ?_; cbv)
  | (refine Pz.mk ?_; cbv) | (refine bx.mk ?_ (by kernel_rfl) ?_; rotate_left; cbv; rotate_right) | refine ⟨rfl, ?_⟩ | refine And.intro ?_ ?_ | exact rfl | fail
set_option maxHeartbeats 1000000 in
theorem Qh (h : an) (k : Int) (hk : 0 ≤ k ∧ k < (h.cabins.length : Int)) (n : Int) (ht : h.todo.length ≤ bc) : cB Tryz.prog 150 [kD h, iA k, iA n] (lg h) (cV (kx fun _ => mm h k n) []) := by
 refine dW au Tryz.func150 rfl rfl (fr := true) (fun _ => by kernel_rfl) rfl rfl fun P hP hA hB => ?_;cbv
 repeat' first
  | exact trivial
  | (refine Ob.mk (hk) ?_; cbv)
  | (refine ag.by hP (Hi (h.cabins.getD k.toNat default).aj n (bW (aA h k).aj n 1 0 (-1) 0) rfl (bE (aA h k).aj n 1 0 (-1) 0) rfl) ?_; cbv)
  | (refine Sv.mk (fun _ => (mm h k n).cabins) (rfl) ?_; cbv)
  | (refine ag.by hP (rO h.todo k ht (fB h.todo k) rfl) ?_; cbv)
  | (refine Pz.mk ?_; cbv) | (refine bx.mk ?_ (by kernel_rfl) ?_; rotate_left; cbv; rotate_right) | refine ⟨rfl, ?_⟩ | refine And.intro ?_ ?_ | exact rfl | fail
end Go.Proofs.YticeaiiffeccmaaGreat

