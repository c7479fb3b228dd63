/- Parts of a proof. No conditions. -/

import Derived.Test.YticeaiiffeccmaaGreatG37
import Derived.Test.YticeaiiffeccmaaGreatG28
import Derived.Test.YticeaiiffeccmaaGreatG29
import Derived.Test.YticeaiiffeccmaaGreatG30
import Derived.Test.YticeaiiffeccmaaGreatG31
import Derived.Test.YticeaiiffeccmaaGreatG22
import Derived.Test.YticeaiiffeccmaaGreatG36
set_option linter.unusedSimpArgs false
set_option linter.unusedVariables false
namespace Go.Proofs.YticeaiiffeccmaaGreat
open Go
set_option maxRecDepth 100000
theorem Ja {h : an} {q : bF} (hv : aY h q = 0) (n1 : ¬ q.kind = 1) (n2 : ¬ q.kind = 2) (n3 : ¬ q.kind = 3) (n4 : ¬ q.kind = 4) (n5 : ¬ q.kind = 5) (n6 : ¬ q.kind = 6) : ¬ aq q.kind 1 6 = true := fun e => by
 have := bO e;omega
def ly (h : an) (q : bF) : fK := ⟨wy h q, r_ h q⟩
set_option maxHeartbeats 4000000 in
theorem CS (h : an) (q : bF) (hs : bh h) (x : an) (hx : x = nX h q) (y : fK) (hy : y = ly h q) : Spec Tryz.prog 25 [cw h, eA .cT q] (aE (.aT [(true, fT fun _ => x), (true, [.int .i64 fun _ => y.code, .own .int fun _ => y.ids])])) := by
 by_cases hv : aY h q = 0
 rotate_left
 · obtain rfl : x = h := hx.trans (if_neg hv);obtain rfl : y = ⟨aY x q, []⟩ := by rw [hy, ly, wy, r_, if_neg hv, if_neg hv]
   have k1 : (aY x q != 0) = true := by simpa using hv
   refine ay au Tryz.func25 rfl rfl (fr := true) (fun _ => by kernel_rfl) fun P hP hA => ?_;cbv;refine ag.by hP (gB x hs) ?_;cbv;refine ag.by hP (jS x q hs (aY x q) rfl) ?_;cbv;refine Br.split (fun k0 => ?_) (fun k0 => ?_) <;> cbv
   · repeat' first | exact trivial | refine ⟨rfl, ?_⟩ | fail
   · have k0 : (aY x q != 0) = false := k0;rw [k1] at k0; cases k0
 have hx := hx.trans (if_pos hv);have hy : y = ⟨jh h q, iI h q⟩ := by rw [hy, ly, wy, r_, if_pos hv, if_pos hv]
 refine ay au Tryz.func25 rfl rfl (fr := true) (fun _ => by kernel_rfl) fun P hP hA => ?_;cbv;refine ag.by hP (gB h hs) ?_;cbv;refine ag.by hP (jS h q hs (aY h q) rfl) ?_;cbv;refine Br.split (fun k0 => ?_) (fun k0 => ?_) <;> cbv
 · have k0 : (aY h q != 0) = true := k0;exact absurd hv (by simpa using k0)
 refine Br.split (fun k1 => ?_) (fun k1 => ?_) <;> cbv
 · have k1 : (q.kind == 1) = true := k1;have k1 : q.kind = 1 := by simpa using k1
   obtain rfl : x = pg h q.id q.ah q.ak q.al q.aJ := hx.trans (by rw [stepOf, if_pos k1]);obtain rfl : y = ⟨aY h (jY q.id q.ah q.ak q.al q.aJ), []⟩ := hy.trans (by rw [jh, if_pos k1, iI, if_pos (by rw [k1]; rfl)]);refine ag.by hP (QD h q.id q.ah q.ak q.al q.aJ hs (pg h q.id q.ah q.ak q.al q.aJ) rfl (aY h (jY q.id q.ah q.ak q.al q.aJ)) rfl) ?_;cbv
   repeat' first | exact trivial | refine ⟨rfl, ?_⟩ | fail
 have n1 : ¬ q.kind = 1 := by
   have k1 : (q.kind == 1) = false := k1;simpa using k1
 refine Br.split (fun k2 => ?_) (fun k2 => ?_) <;> cbv
 · have k2 : (q.kind == 2) = true := k2;have k2 : q.kind = 2 := by simpa using k2
   obtain rfl : x = pc h q.id := hx.trans (by rw [stepOf, if_neg n1, if_pos k2]);obtain rfl : y = ⟨aY h (jg q.id), []⟩ := hy.trans (by rw [jh, if_neg n1, if_pos k2, iI, if_pos (by rw [k2]; rfl)]);refine ag.by hP (QN h q.id hs (pc h q.id) rfl (aY h (jg q.id)) rfl) ?_;cbv
   repeat' first | exact trivial | refine ⟨rfl, ?_⟩ | fail
 have n2 : ¬ q.kind = 2 := by
   have k2 : (q.kind == 2) = false := k2;simpa using k2
 refine Br.split (fun k3 => ?_) (fun k3 => ?_) <;> cbv
 · have k3 : (q.kind == 3) = true := k3;have k3 : q.kind = 3 := by simpa using k3
   obtain rfl : x = pj h q.ah q.al := hx.trans (by rw [stepOf, if_neg n1, if_neg n2, if_pos k3]);obtain rfl : y = ⟨aY h (ml q.ah q.al), []⟩ := hy.trans (by rw [jh, if_neg n1, if_neg n2, if_pos k3, iI, if_pos (by rw [k3]; rfl)]);refine ag.by hP (Qa h q.ah q.al hs (pj h q.ah q.al) rfl (aY h (ml q.ah q.al)) rfl) ?_;cbv
   repeat' first | exact trivial | refine ⟨rfl, ?_⟩ | fail
 have n3 : ¬ q.kind = 3 := by
   have k3 : (q.kind == 3) = false := k3;simpa using k3
 refine Br.split (fun k4 => ?_) (fun k4 => ?_) <;> cbv
 · have k4 : (q.kind == 4) = true := k4;have k4 : q.kind = 4 := by simpa using k4
   obtain rfl : x = pd h q.id := hx.trans (by rw [stepOf, if_neg n1, if_neg n2, if_neg n3, if_pos k4]);obtain rfl : y = ⟨aY h (jW q.id), []⟩ := hy.trans (by rw [jh, if_neg n1, if_neg n2, if_neg n3, if_pos k4, iI, if_pos (by rw [k4]; rfl)]);refine ag.by hP (QP h q.id hs (pd h q.id) rfl (aY h (jW q.id)) rfl) ?_;cbv
   repeat' first | exact trivial | refine ⟨rfl, ?_⟩ | fail
 have n4 : ¬ q.kind = 4 := by
   have k4 : (q.kind == 4) = false := k4;simpa using k4
 refine Br.split (fun k5 => ?_) (fun k5 => ?_) <;> cbv
 · have k5 : (q.kind == 5) = true := k5;have k5 : q.kind = 5 := by simpa using k5
   obtain rfl : x = pf h q.id := hx.trans (by rw [stepOf, if_neg n1, if_neg n2, if_neg n3, if_neg n4, if_pos k5]);obtain rfl : y = ⟨aY h (jX q.id), []⟩ := hy.trans (by rw [jh, if_neg n1, if_neg n2, if_neg n3, if_neg n4, if_pos k5, iI, if_pos (by rw [k5]; rfl)]);refine ag.by hP (Qj h q.id hs (pf h q.id) rfl (aY h (jX q.id)) rfl) ?_;cbv
   repeat' first | exact trivial | refine ⟨rfl, ?_⟩ | fail
 have n5 : ¬ q.kind = 5 := by
   have k5 : (q.kind == 5) = false := k5;simpa using k5
 refine Br.split (fun k6 => ?_) (fun k6 => ?_) <;> cbv
 · have k6 : (q.kind == 6) = true := k6;have k6 : q.kind = 6 := by simpa using k6
   obtain rfl : x = po h := hx.trans (by rw [stepOf, if_neg n1, if_neg n2, if_neg n3, if_neg n4, if_neg n5, if_pos k6]);obtain rfl : y = ⟨aY h nW, []⟩ := hy.trans (by rw [jh, if_neg n1, if_neg n2, if_neg n3, if_neg n4, if_neg n5, if_pos k6, iI, if_pos (by rw [k6]; rfl)]);refine ag.by hP (Qd h hs (po h) rfl (aY h nW) rfl) ?_;cbv
   repeat' first | exact trivial | refine ⟨rfl, ?_⟩ | fail
 have n6 : ¬ q.kind = 6 := by
   have k6 : (q.kind == 6) = false := k6;simpa using k6
 obtain rfl : x = iu h q.id := hx.trans (by rw [stepOf, if_neg n1, if_neg n2, if_neg n3, if_neg n4, if_neg n5, if_neg n6]);have h7 := Ja hv n1 n2 n3 n4 n5 n6;obtain rfl : y = ⟨aY h (gl q.id), iv h q.id⟩ := hy.trans (by rw [jh, if_neg n1, if_neg n2, if_neg n3, if_neg n4, if_neg n5, if_neg n6, iI, if_neg h7]);refine ag.by hP (I4 h q.id hs (iu h q.id) rfl (aY h (gl q.id)) rfl (iv h q.id) rfl) ?_;cbv
 repeat' first | exact trivial | refine ⟨rfl, ?_⟩ | fail
set_option maxHeartbeats 4000000 in
theorem wz (h : an) (q : bF) (hs : bh h) (x : an) (hx : x = nX h q) (y : fK) (hy : y = ly h q) : Spec Tryz.prog 27 [cw h, eA .cT q] (aE (.aT [(true, fT fun _ => x), (true, [.int .i64 fun _ => y.code, .own .int fun _ => y.ids])])) := by
 by_cases hv : aY h q = 0
 rotate_left
 · obtain rfl : x = h := hx.trans (if_neg hv);obtain rfl : y = ⟨aY x q, []⟩ := by rw [hy, ly, wy, r_, if_neg hv, if_neg hv]
   have k1 : (aY x q != 0) = true := by simpa using hv
   refine ay au Tryz.func27 rfl rfl (fr := true) (fun _ => by kernel_rfl) fun P hP hA => ?_;cbv;refine ag.by hP (jT x q hs (aY x q) rfl) ?_;cbv;refine Br.split (fun k0 => ?_) (fun k0 => ?_) <;> cbv
   · refine ag.by hP (iG x hs) ?_;cbv
     repeat' first | exact trivial | refine ⟨rfl, ?_⟩ | fail
   · have k0 : (aY x q != 0) = false := k0;rw [k1] at k0; cases k0
 have hx := hx.trans (if_pos hv);have hy : y = ⟨jh h q, iI h q⟩ := by rw [hy, ly, wy, r_, if_pos hv, if_pos hv]
 refine ay au Tryz.func27 rfl rfl (fr := true) (fun _ => by kernel_rfl) fun P hP hA => ?_;cbv;refine ag.by hP (jT h q hs (aY h q) rfl) ?_;cbv;refine Br.split (fun k0 => ?_) (fun k0 => ?_) <;> cbv
 · have k0 : (aY h q != 0) = true := k0;exact absurd hv (by simpa using k0)
 refine Br.split (fun k1 => ?_) (fun k1 => ?_) <;> cbv
 · have k1 : (q.kind == 1) = true := k1;have k1 : q.kind = 1 := by simpa using k1
   obtain rfl : x = pg h q.id q.ah q.ak q.al q.aJ := hx.trans (by rw [stepOf, if_pos k1]);obtain rfl : y = ⟨aY h (jY q.id q.ah q.ak q.al q.aJ), []⟩ := hy.trans (by rw [jh, if_pos k1, iI, if_pos (by rw [k1]; rfl)]);refine ag.by hP (QF h q.id q.ah q.ak q.al q.aJ hs (pg h q.id q.ah q.ak q.al q.aJ) rfl (aY h (jY q.id q.ah q.ak q.al q.aJ)) rfl) ?_;cbv
   repeat' first
     | exact trivial
     | (refine ⟨rfl, ?_⟩)
     | (refine Pz.mk ?_; cbv) | (refine bx.mk ?_ (by kernel_rfl) ?_; rotate_left; cbv; rotate_right) | refine ⟨rfl, ?_⟩ | refine And.intro ?_ ?_ | exact rfl | fail
 have n1 : ¬ q.kind = 1 := by
   have k1 : (q.kind == 1) = false := k1;simpa using k1
 refine Br.split (fun k2 => ?_) (fun k2 => ?_) <;> cbv
 · have k2 : (q.kind == 2) = true := k2;have k2 : q.kind = 2 := by simpa using k2
   obtain rfl : x = pc h q.id := hx.trans (by rw [stepOf, if_neg n1, if_pos k2]);obtain rfl : y = ⟨aY h (jg q.id), []⟩ := hy.trans (by rw [jh, if_neg n1, if_pos k2, iI, if_pos (by rw [k2]; rfl)]);refine ag.by hP (QO h q.id hs (pc h q.id) rfl (aY h (jg q.id)) rfl) ?_;cbv
   repeat' first
     | exact trivial
     | (refine ⟨rfl, ?_⟩)
     | (refine Pz.mk ?_; cbv) | (refine bx.mk ?_ (by kernel_rfl) ?_; rotate_left; cbv; rotate_right) | refine ⟨rfl, ?_⟩ | refine And.intro ?_ ?_ | exact rfl | fail
 have n2 : ¬ q.kind = 2 := by
   have k2 : (q.kind == 2) = false := k2;simpa using k2
 refine Br.split (fun k3 => ?_) (fun k3 => ?_) <;> cbv
 · have k3 : (q.kind == 3) = true := k3;have k3 : q.kind = 3 := by simpa using k3
   obtain rfl : x = pj h q.ah q.al := hx.trans (by rw [stepOf, if_neg n1, if_neg n2, if_pos k3]);obtain rfl : y = ⟨aY h (ml q.ah q.al), []⟩ := hy.trans (by rw [jh, if_neg n1, if_neg n2, if_pos k3, iI, if_pos (by rw [k3]; rfl)]);refine ag.by hP (Qb h q.ah q.al hs (pj h q.ah q.al) rfl (aY h (ml q.ah q.al)) rfl) ?_;cbv
   repeat' first
     | exact trivial
     | (refine ⟨rfl, ?_⟩)
     | (refine Pz.mk ?_; cbv) | (refine bx.mk ?_ (by kernel_rfl) ?_; rotate_left; cbv; rotate_right) | refine ⟨rfl, ?_⟩ | refine And.intro ?_ ?_ | exact rfl | fail
 have n3 : ¬ q.kind = 3 := by
   have k3 : (q.kind == 3) = false := k3;simpa using k3
 refine Br.split (fun k4 => ?_) (fun k4 => ?_) <;> cbv
 · have k4 : (q.kind == 4) = true := k4;have k4 : q.kind = 4 := by simpa using k4
   obtain rfl : x = pd h q.id := hx.trans (by rw [stepOf, if_neg n1, if_neg n2, if_neg n3, if_pos k4]);obtain rfl : y = ⟨aY h (jW q.id), []⟩ := hy.trans (by rw [jh, if_neg n1, if_neg n2, if_neg n3, if_pos k4, iI, if_pos (by rw [k4]; rfl)]);refine ag.by hP (QQ h q.id hs (pd h q.id) rfl (aY h (jW q.id)) rfl) ?_;cbv
   repeat' first
     | exact trivial
     | (refine ⟨rfl, ?_⟩)
     | (refine Pz.mk ?_; cbv) | (refine bx.mk ?_ (by kernel_rfl) ?_; rotate_left; cbv; rotate_right) | refine ⟨rfl, ?_⟩ | refine And.intro ?_ ?_ | exact rfl | fail
 have n4 : ¬ q.kind = 4 := by
   have k4 : (q.kind == 4) = false := k4;simpa using k4
 refine Br.split (fun k5 => ?_) (fun k5 => ?_) <;> cbv
 · have k5 : (q.kind == 5) = true := k5;have k5 : q.kind = 5 := by simpa using k5
   obtain rfl : x = pf h q.id := hx.trans (by rw [stepOf, if_neg n1, if_neg n2, if_neg n3, if_neg n4, if_pos k5]);obtain rfl : y = ⟨aY h (jX q.id), []⟩ := hy.trans (by rw [jh, if_neg n1, if_neg n2, if_neg n3, if_neg n4, if_pos k5, iI, if_pos (by rw [k5]; rfl)]);refine ag.by hP (Qk h q.id hs (pf h q.id) rfl (aY h (jX q.id)) rfl) ?_;cbv
   repeat' first
     | exact trivial
     | (refine ⟨rfl, ?_⟩)
     | (refine Pz.mk ?_; cbv) | (refine bx.mk ?_ (by kernel_rfl) ?_; rotate_left; cbv; rotate_right) | refine ⟨rfl, ?_⟩ | refine And.intro ?_ ?_ | exact rfl | fail
 have n5 : ¬ q.kind = 5 := by
   have k5 : (q.kind == 5) = false := k5;simpa using k5
 refine Br.split (fun k6 => ?_) (fun k6 => ?_) <;> cbv
 · have k6 : (q.kind == 6) = true := k6;have k6 : q.kind = 6 := by simpa using k6
   obtain rfl : x = po h := hx.trans (by rw [stepOf, if_neg n1, if_neg n2, if_neg n3, if_neg n4, if_neg n5, if_pos k6]);obtain rfl : y = ⟨aY h nW, []⟩ := hy.trans (by rw [jh, if_neg n1, if_neg n2, if_neg n3, if_neg n4, if_neg n5, if_pos k6, iI, if_pos (by rw [k6]; rfl)]);refine ag.by hP (Qe h hs (po h) rfl (aY h nW) rfl) ?_;cbv
   repeat' first
     | exact trivial
     | (refine ⟨rfl, ?_⟩)
     | (refine Pz.mk ?_; cbv) | (refine bx.mk ?_ (by kernel_rfl) ?_; rotate_left; cbv; rotate_right) | refine ⟨rfl, ?_⟩ | refine And.intro ?_ ?_ | exact rfl | fail
 have n6 : ¬ q.kind = 6 := by
   have k6 : (q.kind == 6) = false := k6;simpa using k6
 obtain rfl : x = iu h q.id := hx.trans (by rw [stepOf, if_neg n1, if_neg n2, if_neg n3, if_neg n4, if_neg n5, if_neg n6]);have h7 := Ja hv n1 n2 n3 n4 n5 n6;obtain rfl : y = ⟨aY h (gl q.id), iv h q.id⟩ := hy.trans (by rw [jh, if_neg n1, if_neg n2, if_neg n3, if_neg n4, if_neg n5, if_neg n6, iI, if_neg h7]);refine ag.by hP (I5 h q.id hs (iu h q.id) rfl (aY h (gl q.id)) rfl (iv h q.id) rfl) ?_;cbv
 repeat' first
   | exact trivial
   | (refine ⟨rfl, ?_⟩)
   | (refine Pz.mk ?_; cbv) | (refine bx.mk ?_ (by kernel_rfl) ?_; rotate_left; cbv; rotate_right) | refine ⟨rfl, ?_⟩ | refine And.intro ?_ ?_ | exact rfl | fail
end Go.Proofs.YticeaiiffeccmaaGreat

