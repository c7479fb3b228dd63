/- Parts of a proof. No conditions. -/

import Derived.Test.YticeaiiffeccmaaGreatG32
import Derived.Test.YticeaiiffeccmaaGreatG27
import Derived.Test.YticeaiiffeccmaaGreatG26
import Derived.Test.YticeaiiffeccmaaGreatG14
import Derived.Test.YticeaiiffeccmaaGreatG04
set_option linter.unusedSimpArgs false
set_option linter.unusedVariables false
namespace Go.Proofs.YticeaiiffeccmaaGreat
open Go
set_option maxRecDepth 100000
def Qo (h : an) : List (Nat × dV) := [(0, .own .int fun _ => h.rules.aj), (1, .own .aG fun _ => h.ae), (2, .own .ah fun _ => h.cabins), (3, .own .int fun _ => h.todo), (4, .own .int fun _ => h.aF)]
set_option maxHeartbeats 4000000 in
theorem CH (h : an) (k : Int) (hs : bh h) (x : an) (hx : x = dH h k) (y : Int) (hy : y = cM h k) : Spec Tryz.prog 12 [cw h, iA k] (aE (.aT [(true, fT fun _ => x), (false, [.int .i64 fun _ => y])])) := by
 by_cases hv : cM h k = 0
 · obtain rfl : x = h := hx.trans (if_pos hv);refine ay au Tryz.func12 rfl rfl (fr := true) (fun _ => by kernel_rfl) fun P hP hA => ?_;cbv;refine ag.by hP (iG x hs) ?_;cbv;refine ag.by hP (Hf x k hs y hy) ?_;cbv;refine Br.split (fun k0 => ?_) (fun k0 => ?_) <;> cbv
   · obtain rfl : y = 0 := hy.trans hv
     repeat' first | exact trivial | refine ⟨rfl, ?_⟩ | fail
   · have k0 : (y == 0) = false := k0;rw [hy.trans hv] at k0; cases k0
 obtain ⟨n, cb, i, p, rfl, o, st, fr, aV, ep⟩ := yJ hv;have hx : x = kN h (n : Int) p := hx.trans ((if_neg hv).trans (by rw [ep]));rw [← aV] at hy;have hk := bK o.hk;have dE : 0 ≤ (n : Int) ∧ (n : Int) < (h.cabins.length : Int) := by omega
 have hp : fU (aA h (n : Int)) := by rw [show aA h (n : Int) = cb from nU o.hk]; exact hs.2.2.1.2 cb (List.mem_of_getElem? o.hk)
 have h1 : 1 ≤ p.id := (o_ o.ok).id.1;have hw := (fo o.hg.rules).cp;have Qp := bO o.hg.now
 let G1 : an := bX h (n : Int) { aA h (n : Int) with aj := bW (aA h (n : Int)).aj p.al (-1) 1 0 0 }
 let G2 : an := bX h (n : Int) { aA h (n : Int) with aj := bW (aA h (n : Int)).aj p.al (-1) 1 0 0, row := hZ (aA h (n : Int)).row p.id }
 have g1 : aA G1 (n : Int) = { aA h (n : Int) with aj := bW (aA h (n : Int)).aj p.al (-1) 1 0 0 } := qK dE;have g2 : aA G2 (n : Int) = { aA h (n : Int) with aj := bW (aA h (n : Int)).aj p.al (-1) 1 0 0, row := hZ (aA h (n : Int)).row p.id } := qK dE;have e2 : G1.cabins.set ((n : Int)).toNat { aA G1 (n : Int) with row := hZ (aA G1 (n : Int)).row p.id } = G2.cabins := by rw [g1]; exact wq
 have e3 : G2.cabins.set ((n : Int)).toNat { aA G2 (n : Int) with spoke := lp (aA G2 (n : Int)).spoke (dJ (gA h p)) } = (kN h (n : Int) p).cabins := by rw [g2]; exact wq
 refine ay au Tryz.func12 rfl rfl (fr := true) (fun _ => by kernel_rfl) fun P hP hA => ?_;cbv;refine ag.by hP (iG h hs) ?_;cbv;refine ag.by hP (Hf h (n : Int) hs y (hy.trans aV)) ?_;cbv;refine Br.split (fun k0 => ?_) (fun k0 => ?_) <;> cbv
 · have k0 : (y == 0) = true := k0;have k0 : y = 0 := by simpa using k0
   omega
 obtain rfl : y = p.id := hy
 repeat' first
   | exact trivial
   | (refine ag.by hP (nN h p.id (i : Int) o.at_.symm) ?_; cbv)
   | (refine Ix.mk (p) (Int.natCast_nonneg i) (o.hi) ?_; cbv)
   | (refine Ob.mk (dE) ?_; cbv)
   | (refine Ob.mk (rfl) ?_; cbv)
   | (refine Ar.exact (by (try simp only [nc] at *); omega) (by (try simp only [nc] at *); omega) ?_; cbv)
   | (refine ag.by hP (OB (aA h (n : Int)).aj p.al (bW (aA h (n : Int)).aj p.al (-1) 1 0 0) rfl (bE (aA h (n : Int)).aj p.al (-1) 1 0 0) rfl) ?_; cbv)
   | (refine Sv.mk (fun _ => G1.cabins) (rfl) ?_; cbv)
   | (refine ag.by hP (HK (aA G1 (n : Int)).row p.id (by rw [g1]; exact hp.1) (hZ (aA G1 (n : Int)).row p.id) rfl (decide (0 ≤ cY (aA G1 (n : Int)).row p.id)) rfl) ?_; cbv)
   | (refine Sv.mk (fun _ => G2.cabins) (e2) ?_; cbv)
   | (refine ag.by hP (BV h.ae (gA h p) hs.2.1 (ir h.ae (gA h p)) rfl) ?_; cbv)
   | (refine ag.by hP (Pn (aA G2 (n : Int)).spoke (dJ (gA h p)) (by rw [g2]; exact hp.2) (lp (aA G2 (n : Int)).spoke (dJ (gA h p))) rfl (gf (aA G2 (n : Int)).spoke (dJ (gA h p))) rfl) ?_; cbv)
   | (refine Sv.mk (fun _ => (kN h (n : Int) p).cabins) (e3) ?_; cbv)
   | (refine Pz.mk ?_; cbv) | (refine bx.mk ?_ (by kernel_rfl) ?_; rotate_left; cbv; rotate_right) | refine ⟨rfl, ?_⟩ | refine And.intro ?_ ?_ | exact rfl | fail
 all_goals
   obtain rfl : x = kN h (n : Int) p := hx
   repeat' first | exact trivial | refine ⟨rfl, ?_⟩ | fail
set_option maxHeartbeats 2000000 in
theorem Qq (h : an) (n : Nat) (hs : bh h) (hg : HG h) (hn : n < h.cabins.length) (hv : jz h h.cabins[n] = 0) : cB Tryz.prog 46 [kD h, nT fun _ => n] (lg h) (cV (.aT [(true, fT fun _ => h), (false, [.int .i64 fun _ => 0])]) []) := by
 refine FX au Tryz.func46 rfl rfl (fr := true) (fun _ => by kernel_rfl) rfl rfl fun P hP hA hB => ?_;cbv;refine ag.by hP (BL h n hn (gP.2 hg) (jz h h.cabins[n]) rfl) ?_;cbv;refine Br.split (fun k0 => ?_) (fun k0 => ?_) <;> cbv
 · repeat' first | exact trivial | refine ⟨rfl, ?_⟩ | fail
 · have k0 : (jz h h.cabins[n] == 0) = false := k0;rw [hv] at k0; cases k0
set_option maxHeartbeats 4000000 in
theorem IN (h : an) (n : Nat) (hs : bh h) {i : Nat} {cb : bd} (o : cG h i n (h.ae.getD ((i : Int)).toNat default) cb) (st : (h.ae.getD ((i : Int)).toNat default).st = 1) (id : Int) (aV : (h.ae.getD ((i : Int)).toNat default).id = id) (lu : id = jz h cb) (x : an) (hx : x = kN h (n : Int) (h.ae.getD ((i : Int)).toNat default)) : cB Tryz.prog 46 [kD h, nT fun _ => n] (lg h) (cV (.aT [(true, fT fun _ => x), (false, [.int .i64 fun _ => id])]) []) := by
 have hk := bK o.hk;have dE : 0 ≤ (n : Int) ∧ (n : Int) < (h.cabins.length : Int) := by omega
 have hp : fU (aA h (n : Int)) := by rw [show aA h (n : Int) = cb from nU o.hk]; exact hs.2.2.1.2 cb (List.mem_of_getElem? o.hk)
 have h1 : 1 ≤ (h.ae.getD ((i : Int)).toNat default).id := (o_ o.ok).id.1;have hw := (fo o.hg.rules).cp;have Qp := bO o.hg.now
 have Qr : h.cabins[n] = cb := by
   have := o.hk;rw [List.getElem?_eq_getElem hk] at this;exact Option.some.inj this
 have r9 : bw h.ae id = (i : Int) := by rw [← aV]; exact o.at_
 obtain ⟨hi, _⟩ := o.lt;have oi : 0 ≤ (i : Int) ∧ (i : Int) < (h.ae.length : Int) := by omega
 have RB : 1 ≤ id := by rw [← aV]; exact h1
 refine FX au Tryz.func46 rfl rfl (fr := true) (fun _ => by kernel_rfl) rfl rfl fun P hP hA hB => ?_;cbv;refine ag.by hP (BL h n hk (gP.2 o.hg) id (by rw [Qr]; exact lu)) ?_;cbv;refine Br.split (fun k0 => ?_) (fun k0 => ?_) <;> cbv
 · have k0 : (id == 0) = true := k0;have k0 : id = 0 := by simpa using k0
   omega
 repeat' first
   | exact trivial
   | (refine ag.by hP (qq h id (i : Int) r9.symm) ?_; cbv)
   | (refine Ob.mk (oi) ?_; cbv)
   | (refine Ar.exact (by (try simp only [nc] at *); omega) (by (try simp only [nc] at *); omega) ?_; cbv)
   | (refine ag.by hP (BW h.ae (gA h (h.ae.getD ((i : Int)).toNat default)) hs.2.1 (ir h.ae (gA h (h.ae.getD ((i : Int)).toNat default))) rfl) ?_; cbv)
   | (refine Ob.mk (dE) ?_; cbv)
   | (refine ag.by hP (Oy (aA h (n : Int)).aj (h.ae.getD ((i : Int)).toNat default).al (bW (aA h (n : Int)).aj (h.ae.getD ((i : Int)).toNat default).al (-1) 1 0 0) rfl (bE (aA h (n : Int)).aj (h.ae.getD ((i : Int)).toNat default).al (-1) 1 0 0) rfl) ?_; cbv)
   | (refine ag.by hP (HL (aA h (n : Int)).row id hp.1 (hZ (aA h (n : Int)).row (h.ae.getD ((i : Int)).toNat default).id) (by rw [aV]) (decide (0 ≤ cY (aA h (n : Int)).row id)) rfl) ?_; cbv)
   | (refine ag.by hP (Pm (aA h (n : Int)).spoke ⟨h.now + h.rules.cp, id⟩ hp.2 (lp (aA h (n : Int)).spoke (dJ (gA h (h.ae.getD ((i : Int)).toNat default)))) (by rw [show dJ (gA h (h.ae.getD ((i : Int)).toNat default)) = ⟨h.now + h.rules.cp, (h.ae.getD ((i : Int)).toNat default).id⟩ from rfl, aV]) (gf (aA h (n : Int)).spoke ⟨h.now + h.rules.cp, id⟩) rfl) ?_; cbv)
   | (refine Sv.mk (fun _ => (kN h (n : Int) (h.ae.getD ((i : Int)).toNat default)).cabins) (rfl) ?_; cbv)
   | (refine Pz.mk ?_; cbv) | (refine bx.mk ?_ (by kernel_rfl) ?_; rotate_left; cbv; rotate_right) | refine ⟨rfl, ?_⟩ | refine And.intro ?_ ?_ | exact rfl | fail
 all_goals
   obtain rfl : x = kN h (n : Int) (h.ae.getD ((i : Int)).toNat default) := hx
   repeat' first | exact trivial | refine ⟨rfl, ?_⟩ | fail
set_option maxHeartbeats 2000000 in
theorem Qs (h : an) (k : Int) (hs : bh h) (x : an) (hx : x = dH h k) (y : Int) (hy : y = cM h k) : Spec Tryz.prog 10 [cw h, iA k] (aE (.aT [(true, fT fun _ => x), (false, [.int .i64 fun _ => y])])) := by
 by_cases hc : cL h k = true
 rotate_left
 · have hv : cM h k = 0 := by rw [cM, if_neg hc]
   obtain rfl : x = h := hx.trans (if_pos hv);obtain rfl : y = 0 := hy.trans hv;refine ay au Tryz.func10 rfl rfl (fr := true) (fun _ => by kernel_rfl) fun P hP hA => ?_;cbv;refine ag.by hP (gB x hs) ?_;cbv;refine ag.by hP (rM x k hs (cL x k) rfl) ?_;cbv;refine Br.split (fun k0 => ?_) (fun k0 => ?_) <;> cbv
   · repeat' first | exact trivial | refine ⟨rfl, ?_⟩ | fail
   · have k0 : (!cL x k) = false := k0;exact absurd (by simpa using k0) hc
 by_cases hv : cM h k = 0
 · obtain rfl : x = h := hx.trans (if_pos hv);obtain rfl : y = 0 := hy.trans hv;obtain ⟨hg, n, cb, hk, rfl⟩ := rW hc;have hn := bK hk;have mP : jz x x.cabins[n] = 0 := by rw [← wi hg (List.getElem?_eq_getElem hn)]; exact hv
   refine ay au Tryz.func10 rfl rfl (fr := true) (fun _ => by kernel_rfl) fun P hP hA => ?_;cbv;refine ag.by hP (gB x hs) ?_;cbv;refine ag.by hP (rM x (n : Int) hs (cL x (n : Int)) rfl) ?_;cbv;refine Br.split (fun k0 => ?_) (fun k0 => ?_) <;> cbv
   · have k0 : (!cL x (n : Int)) = true := k0;rw [hc] at k0; cases k0
   refine bB.by hP (Qq x n hs hg hn mP) ?_;cbv
   repeat' first | exact trivial | refine ⟨rfl, ?_⟩ | fail
 obtain ⟨n, cb, i, p, rfl, o, st, fr, aV, ep⟩ := yJ hv;have hx : x = kN h (n : Int) p := hx.trans ((if_neg hv).trans (by rw [ep]));rw [← aV] at hy;obtain ⟨hi, ei⟩ := o.lt;have pe : h.ae.getD ((i : Int)).toNat default = p := by rw [Int.toNat_natCast, List.getD_eq_getElem?_getD, o.hi]; rfl
 have e := wi o.hg o.hk;refine ay au Tryz.func10 rfl rfl (fr := true) (fun _ => by kernel_rfl) fun P hP hA => ?_;cbv;refine ag.by hP (gB h hs) ?_;cbv;refine ag.by hP (rM h (n : Int) hs (cL h (n : Int)) rfl) ?_;cbv;refine Br.split (fun k0 => ?_) (fun k0 => ?_) <;> cbv
 · have k0 : (!cL h (n : Int)) = true := k0;rw [hc] at k0; cases k0
 refine bB.by hP (IN h n hs (i := i) (cb := cb) (by rw [pe]; exact o) (by rw [pe]; exact st) y (by rw [pe]; exact hy.symm) (by rw [hy, aV, e]) x (by rw [pe]; exact hx)) ?_;cbv
 repeat' first | exact trivial | refine ⟨rfl, ?_⟩ | fail
end Go.Proofs.YticeaiiffeccmaaGreat

