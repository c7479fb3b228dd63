/- Parts of a proof. No conditions. -/

import Derived.Test.YtehpbaiclfilaaaGreatG32
import Derived.Test.YtehpbaiclfilaaaGreatG27
import Derived.Test.YtehpbaiclfilaaaGreatG26
import Derived.Test.YtehpbaiclfilaaaGreatG14
import Derived.Test.YtehpbaiclfilaaaGreatG04
set_option linter.unusedSimpArgs false
set_option linter.unusedVariables false
namespace Go.Proofs.YtehpbaiclfilaaaGreat
open Go
set_option maxRecDepth 100000
set_option maxHeartbeats 4000000 in
theorem xE (h : ai) (k : Int) (hs : bh h) (x : ai) (hx : x = gI h k) (y : Int) (hy : y = eE h k) : Spec Tryz.prog 123 [dk h, iA k] (aE (.bc [(true, ik fun _ => x), (false, [.int .i64 fun _ => y])])) := by
 by_cases hv : eE h k = 0
 · obtain rfl : x = h := hx.trans (if_pos hv);refine aH ay Tryz.func123 rfl rfl (fr := true) (fun _ => by kernel_rfl) fun P hP hA => ?_;cbv;refine ag.by hP (mJ x hs) ?_;cbv;refine ag.by hP (pw x k hs y hy) ?_;cbv;refine Br.split (fun k0 => ?_) (fun k0 => ?_) <;> cbv
   · obtain rfl : y = 0 := hy.trans hv
     repeat' first | exact trivial | refine ⟨rfl, ?_⟩ | fail
   · have k0 : (y == 0) = false := k0;rw [hy.trans hv] at k0; cases k0
 obtain ⟨n, cb, i, p, rfl, o, st, fr, bg, ep⟩ := ET hv;have hx : x = mF h (n : Int) p := hx.trans ((if_neg hv).trans (by rw [ep]));rw [← bg] at hy;have hk := bq o.hk;have gN : 0 ≤ (n : Int) ∧ (n : Int) < (h.cabins.length : Int) := by omega
 have hp : mv (aC h (n : Int)) := by rw [show aC h (n : Int) = cb from iI o.hk]; exact hs.2.2.1.2 cb (List.mem_of_getElem? o.hk)
 have h1 : 1 ≤ p.id := (gb o.ok).id.1;have hw := (dO o.hg.rules).ck;have To := bB o.hg.now
 let G1 : ai := bI h (n : Int) { aC h (n : Int) with ah := bz (aC h (n : Int)).ah p.siz (-1) 1 0 0 }
 let G2 : ai := bI h (n : Int) { aC h (n : Int) with ah := bz (aC h (n : Int)).ah p.siz (-1) 1 0 0, row := jq (aC h (n : Int)).row p.id }
 have g1 : aC G1 (n : Int) = { aC h (n : Int) with ah := bz (aC h (n : Int)).ah p.siz (-1) 1 0 0 } := ua gN;have g2 : aC G2 (n : Int) = { aC h (n : Int) with ah := bz (aC h (n : Int)).ah p.siz (-1) 1 0 0, row := jq (aC h (n : Int)).row p.id } := ua gN;have e2 : G1.cabins.set ((n : Int)).toNat { aC G1 (n : Int) with row := jq (aC G1 (n : Int)).row p.id } = G2.cabins := by rw [g1]; exact yc
 have e3 : G2.cabins.set ((n : Int)).toNat { aC G2 (n : Int) with spoke := kJ (aC G2 (n : Int)).spoke (eP (gH h p)) } = (mF h (n : Int) p).cabins := by rw [g2]; exact yc
 refine aH ay Tryz.func123 rfl rfl (fr := true) (fun _ => by kernel_rfl) fun P hP hA => ?_;cbv;refine ag.by hP (mJ h hs) ?_;cbv;refine ag.by hP (pw h (n : Int) hs y (hy.trans bg)) ?_;cbv;refine Br.split (fun k0 => ?_) (fun k0 => ?_) <;> cbv
 · have k0 : (y == 0) = true := k0;have k0 : y = 0 := by simpa using k0
   omega
 obtain rfl : y = p.id := hy
 repeat' first
   | exact trivial
   | (refine ag.by hP (jC h p.id (i : Int) o.at_.symm) ?_; cbv)
   | (refine Ix.mk (p) (Int.natCast_nonneg i) (o.hi) ?_; cbv)
   | (refine Ob.mk (gN) ?_; cbv)
   | (refine Ob.mk (rfl) ?_; cbv)
   | (refine Ar.exact (by (try simp only [nc] at *); omega) (by (try simp only [nc] at *); omega) ?_; cbv)
   | (refine ag.by hP (AJ (aC h (n : Int)).ah p.siz (bz (aC h (n : Int)).ah p.siz (-1) 1 0 0) rfl (bU (aC h (n : Int)).ah p.siz (-1) 1 0 0) rfl) ?_; cbv)
   | (refine Sv.mk (fun _ => G1.cabins) (rfl) ?_; cbv)
   | (refine ag.by hP (J3 (aC G1 (n : Int)).row p.id (by rw [g1]; exact hp.1) (jq (aC G1 (n : Int)).row p.id) rfl (decide (0 ≤ dm (aC G1 (n : Int)).row p.id)) rfl) ?_; cbv)
   | (refine Sv.mk (fun _ => G2.cabins) (e2) ?_; cbv)
   | (refine ag.by hP (Eo h.ae (gH h p) hs.2.1 (fT h.ae (gH h p)) rfl) ?_; cbv)
   | (refine ag.by hP (A1 (aC G2 (n : Int)).spoke (eP (gH h p)) (by rw [g2]; exact hp.2) (kJ (aC G2 (n : Int)).spoke (eP (gH h p))) rfl (gv (aC G2 (n : Int)).spoke (eP (gH h p))) rfl) ?_; cbv)
   | (refine Sv.mk (fun _ => (mF h (n : Int) p).cabins) (e3) ?_; cbv)
   | (refine Pz.mk ?_; cbv) | (refine bu.mk ?_ (by kernel_rfl) ?_; rotate_left; cbv; rotate_right) | refine ⟨rfl, ?_⟩ | refine And.intro ?_ ?_ | exact rfl | fail
 all_goals
   obtain rfl : x = mF h (n : Int) p := hx
   repeat' first | exact trivial | refine ⟨rfl, ?_⟩ | fail
end Go.Proofs.YtehpbaiclfilaaaGreat

