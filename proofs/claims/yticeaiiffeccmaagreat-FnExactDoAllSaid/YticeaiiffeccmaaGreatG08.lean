/- Parts of a proof. No conditions. -/

import Derived.Test.YticeaiiffeccmaaGreatG06
import Derived.Test.YticeaiiffeccmaaGreatG05
import Derived.Test.YticeaiiffeccmaaGreatG07
import Derived.Test.YticeaiiffeccmaaGreatG01
set_option linter.unusedSimpArgs false
set_option linter.unusedVariables false
namespace Go.Proofs.YticeaiiffeccmaaGreat
open Go
set_option maxRecDepth 100000
def a_ (x : bA) : Bool := aq x.total 1 60 && (aq x.free 0 x.total && (aq x.held 0 x.total && (aq x.bn 0 x.total && (decide (x.free + x.held + x.bn = x.total) && aq x.tied 0 x.bn))))
theorem Bg (x : bA) (b : Bool) (hb : b = a_ x) : Spec Tryz.prog 233 [fY x] (aE (bR fun _ => b)) := by
 refine ay au Tryz.func233 rfl rfl (fr := true) (fun _ => by kernel_rfl) fun P hP hA => ?_;cbv;refine ag.by hP (da x.total 1 60) ?_;cbv
 repeat (refine Pz.mk ?_; cbv)
 refine Br.split (fun h0 => ?_) (fun h0 => ?_) <;> (cbv; repeat (refine Pz.mk ?_; cbv))
 rotate_left
 · refine ⟨?_, trivial⟩;have h0 : aq x.total 1 60 = false := h0;simp [hb, a_, h0]
 have h0 : aq x.total 1 60 = true := h0;have e0 := bO h0;refine ag.by hP (da x.free 0 x.total) ?_;cbv
 repeat (refine Pz.mk ?_; cbv)
 refine Br.split (fun h1 => ?_) (fun h1 => ?_) <;> (cbv; repeat (refine Pz.mk ?_; cbv))
 rotate_left
 · refine ⟨?_, trivial⟩;have h1 : aq x.free 0 x.total = false := h1;simp [hb, a_, h0, h1]
 have h1 : aq x.free 0 x.total = true := h1;have e1 := bO h1;refine ag.by hP (da x.held 0 x.total) ?_;cbv
 repeat (refine Pz.mk ?_; cbv)
 refine Br.split (fun h2 => ?_) (fun h2 => ?_) <;> (cbv; repeat (refine Pz.mk ?_; cbv))
 rotate_left
 · refine ⟨?_, trivial⟩;have h2 : aq x.held 0 x.total = false := h2;simp [hb, a_, h0, h1, h2]
 have h2 : aq x.held 0 x.total = true := h2;have e2 := bO h2;refine ag.by hP (da x.bn 0 x.total) ?_;cbv
 repeat (refine Pz.mk ?_; cbv)
 refine Br.split (fun h3 => ?_) (fun h3 => ?_) <;> (cbv; repeat (refine Pz.mk ?_; cbv))
 rotate_left
 · refine ⟨?_, trivial⟩;have h3 : aq x.bn 0 x.total = false := h3;simp [hb, a_, h0, h1, h2, h3]
 have h3 : aq x.bn 0 x.total = true := h3;have e3 := bO h3;refine Ar.exact ?_ ?_ ?_
 · show -9223372036854775808 ≤ x.free + x.held;omega
 · show x.free + x.held ≤ 9223372036854775807;omega
 cbv;refine Ar.exact ?_ ?_ ?_
 · show -9223372036854775808 ≤ x.free + x.held + x.bn;omega
 · show x.free + x.held + x.bn ≤ 9223372036854775807;omega
 cbv;refine Br.split (fun h4 => ?_) (fun h4 => ?_) <;> (cbv; repeat (refine Pz.mk ?_; cbv))
 rotate_left
 · refine ⟨?_, trivial⟩;have h4 : (x.free + x.held + x.bn == x.total) = false := h4;have h4 : ¬ (x.free + x.held + x.bn = x.total) := by simpa using h4
   simp [hb, a_, h0, h1, h2, h3, h4]
 have h4 : (x.free + x.held + x.bn == x.total) = true := h4;have h4 : x.free + x.held + x.bn = x.total := by simpa using h4
 refine ag.by hP (da x.tied 0 x.bn) ?_;cbv
 repeat (refine Pz.mk ?_; cbv)
 refine ⟨?_, trivial⟩;simp [hb, a_, h0, h1, h2, h3, h4]
theorem k9 (x : bA) (b : Bool) (hb : b = a_ x) : Spec Tryz.prog 182 [fY x] (aE (bR fun _ => b)) := by
 refine ay au Tryz.func182 rfl rfl (fr := true) (fun _ => by kernel_rfl) fun P hP hA => ?_;cbv;refine ag.by hP (cW x.total 1 60) ?_;cbv
 repeat (refine Pz.mk ?_; cbv)
 refine Br.split (fun h0 => ?_) (fun h0 => ?_) <;> (cbv; repeat (refine Pz.mk ?_; cbv))
 rotate_left
 · refine ⟨?_, trivial⟩;have h0 : aq x.total 1 60 = false := h0;simp [hb, a_, h0]
 have h0 : aq x.total 1 60 = true := h0;have e0 := bO h0;refine ag.by hP (cW x.free 0 x.total) ?_;cbv
 repeat (refine Pz.mk ?_; cbv)
 refine Br.split (fun h1 => ?_) (fun h1 => ?_) <;> (cbv; repeat (refine Pz.mk ?_; cbv))
 rotate_left
 · refine ⟨?_, trivial⟩;have h1 : aq x.free 0 x.total = false := h1;simp [hb, a_, h0, h1]
 have h1 : aq x.free 0 x.total = true := h1;have e1 := bO h1;refine ag.by hP (cW x.held 0 x.total) ?_;cbv
 repeat (refine Pz.mk ?_; cbv)
 refine Br.split (fun h2 => ?_) (fun h2 => ?_) <;> (cbv; repeat (refine Pz.mk ?_; cbv))
 rotate_left
 · refine ⟨?_, trivial⟩;have h2 : aq x.held 0 x.total = false := h2;simp [hb, a_, h0, h1, h2]
 have h2 : aq x.held 0 x.total = true := h2;have e2 := bO h2;refine ag.by hP (cW x.bn 0 x.total) ?_;cbv
 repeat (refine Pz.mk ?_; cbv)
 refine Br.split (fun h3 => ?_) (fun h3 => ?_) <;> (cbv; repeat (refine Pz.mk ?_; cbv))
 rotate_left
 · refine ⟨?_, trivial⟩;have h3 : aq x.bn 0 x.total = false := h3;simp [hb, a_, h0, h1, h2, h3]
 have h3 : aq x.bn 0 x.total = true := h3;have e3 := bO h3;refine Ar.exact ?_ ?_ ?_
 · show -9223372036854775808 ≤ x.free + x.held;omega
 · show x.free + x.held ≤ 9223372036854775807;omega
 cbv;refine Ar.exact ?_ ?_ ?_
 · show -9223372036854775808 ≤ x.free + x.held + x.bn;omega
 · show x.free + x.held + x.bn ≤ 9223372036854775807;omega
 cbv;refine Br.split (fun h4 => ?_) (fun h4 => ?_) <;> (cbv; repeat (refine Pz.mk ?_; cbv))
 rotate_left
 · refine ⟨?_, trivial⟩;have h4 : (x.free + x.held + x.bn == x.total) = false := h4;have h4 : ¬ (x.free + x.held + x.bn = x.total) := by simpa using h4
   simp [hb, a_, h0, h1, h2, h3, h4]
 have h4 : (x.free + x.held + x.bn == x.total) = true := h4;have h4 : x.free + x.held + x.bn = x.total := by simpa using h4
 refine ag.by hP (cW x.tied 0 x.bn) ?_;cbv
 repeat (refine Pz.mk ?_; cbv)
 refine ⟨?_, trivial⟩;simp [hb, a_, h0, h1, h2, h3, h4]
def il (x : Unit → bA) : List Sh := [.int .i64 fun _ => (x ()).total, .int .i64 fun _ => (x ()).free, .int .i64 fun _ => (x ()).held, .int .i64 fun _ => (x ()).bn, .int .i64 fun _ => (x ()).tied]
def cX (x : bI) : Bool := aq x.aj.length 1 4 && (x.aj.all (fun y => aq y 1 60) && (aq x.cn 1 5 && (aq x.room 1 10 && (aq x.size 1 6 && (aq x.period 1 12 && (aq x.cp 1 8 && (aq x.tries 1 4 && (aq x.cC 1 3 && aq x.rest 0 8))))))))
theorem M0 {α : Type} {a : List α} {i : Nat} (h : i < a.length) : a.take (i + 1) = a.take i ++ [a[i]] := by
 rw [List.take_add_one, List.getElem?_eq_getElem h]; rfl
theorem F5 {p : Int → Bool} {a : List Int} {i : Nat} (h : i < a.length) (h1 : ∀ y ∈ a.take i, p y = true) (h2 : p a[i] = true) : ∀ y ∈ a.take (i + 1), p y = true := by
 intro y hy;rw [M0 h, List.mem_append] at hy;rcases hy with hy | hy
 · exact h1 y hy
 · simp at hy; subst hy; exact h2
theorem F6 {p : Int → Bool} {a : List Int} {i : Nat} (h : i < a.length) (h2 : p a[i] = false) : a.all p = false := by
 rw [List.all_eq_false];exact ⟨a[i], List.getElem_mem _, by simp [h2]⟩
theorem F7 {p : Int → Bool} {a : List Int} {i : Nat} (h : a.length ≤ i) (h1 : ∀ y ∈ a.take i, p y = true) : a.all p = true := by
 rw [List.take_of_length_le h] at h1;exact List.all_eq_true.2 h1
theorem F8 (x : bI) (hs : x.aj.length ≤ bc) (b : Bool) (hb : b = cX x) : Spec Tryz.prog 164 [gM x] (aE (bR fun _ => b)) := by
 refine ay au Tryz.func164 rfl rfl (fr := true) (fun _ => by kernel_rfl) fun P hP hA => ?_;have hn : x.aj.length ≤ 1048576 := hs;cbv;refine ag.by hP (da x.aj.length 1 4) ?_;cbv;refine Br.split (fun h0 => ?_) (fun h0 => ?_) <;> cbv
 · refine ⟨?_, trivial⟩;have h0 : aq x.aj.length 1 4 = false := by simpa using h0
   simp [hb, cX, h0]
 have h0 : aq x.aj.length 1 4 = true := by simpa using h0
 refine ag.by hP (da x.cn 1 5) ?_;cbv;refine Br.split (fun h1 => ?_) (fun h1 => ?_) <;> cbv
 · refine ⟨?_, trivial⟩;have h1 : aq x.cn 1 5 = false := by simpa using h1
   simp [hb, cX, h0, h1]
 have h1 : aq x.cn 1 5 = true := by simpa using h1
 refine ag.by hP (da x.room 1 10) ?_;cbv;refine Br.split (fun h2 => ?_) (fun h2 => ?_) <;> cbv
 · refine ⟨?_, trivial⟩;have h2 : aq x.room 1 10 = false := by simpa using h2
   simp [hb, cX, h0, h1, h2]
 have h2 : aq x.room 1 10 = true := by simpa using h2
 refine ag.by hP (da x.size 1 6) ?_;cbv;refine Br.split (fun h3 => ?_) (fun h3 => ?_) <;> cbv
 · refine ⟨?_, trivial⟩;have h3 : aq x.size 1 6 = false := by simpa using h3
   simp [hb, cX, h0, h1, h2, h3]
 have h3 : aq x.size 1 6 = true := by simpa using h3
 refine ag.by hP (da x.period 1 12) ?_;cbv;refine Br.split (fun h4 => ?_) (fun h4 => ?_) <;> cbv
 · refine ⟨?_, trivial⟩;have h4 : aq x.period 1 12 = false := by simpa using h4
   simp [hb, cX, h0, h1, h2, h3, h4]
 have h4 : aq x.period 1 12 = true := by simpa using h4
 have g0 := h0;have g1 := h1;have g2 := h2;have g3 := h3;have g4 := h4;refine aU.by (X := Nat) (fun i => [(1, pN 0), (3, nT fun _ => i)]) (fun _ => [(0, .box [.lf (.list .int fun _ => x.aj), .lf (.int .i64 fun _ => x.cn), .lf (.int .i64 fun _ => x.room), .lf (.int .i64 fun _ => x.size), .lf (.int .i64 fun _ => x.period), .lf (.int .i64 fun _ => x.cp), .lf (.int .i64 fun _ => x.rest), .lf (.int .i64 fun _ => x.tries), .lf (.int .i64 fun _ => x.cC)])]) (fun i => i ≤ x.aj.length ∧ ∀ y ∈ x.aj.take i, aq y 1 60 = true) (fun i _ => x.aj.length - i) 0 ⟨Nat.zero_le _, by simp⟩ ?_ ?_
 · cbv
   repeat' first | exact trivial | refine ⟨rfl, ?_⟩ | fail
 · intro i ⟨hi, ht⟩;cbv;refine Br.dec (fun h2 => ?_) (fun h2 => ?_) <;> cbv
   · have h2 : (i : Int) < (x.aj.length : Int) := h2;have h2 : i < x.aj.length := by omega
     refine ⟨x.aj[i], by simp, get_cast x.aj h2, ?_⟩;cbv;refine ag.by hP (da x.aj[i] 1 60) ?_;cbv;refine Br.split (fun h3 => ?_) (fun h3 => ?_) <;> cbv
     · refine ⟨?_, trivial⟩;have h3 : aq x.aj[i] 1 60 = false := by simpa using h3
       have h3 : x.aj.all (fun y => aq y 1 60) = false := F6 (p := fun y => aq y 1 60) h2 h3;simp [hb, cX, g0, g1, g2, g3, g4, h3]
     have h3 : aq x.aj[i] 1 60 = true := by simpa using h3
     refine Ar.exact ?_ ?_ ?_
     · show -9223372036854775808 ≤ (i : Int) + 1;omega
     · show (i : Int) + 1 ≤ 9223372036854775807;omega
     cbv;refine aP.by (i + 1) ?_ ?_ ?_
     · show x.aj.length - (i + 1) < x.aj.length - i;omega
     · exact ⟨h2, F5 (p := fun y => aq y 1 60) h2 ht h3⟩
     · cbv
       repeat' first | exact trivial | refine ⟨rfl, ?_⟩ | fail
   have h2 : ¬ (i : Int) < (x.aj.length : Int) := h2;have h2 : x.aj.length ≤ i := by omega
   have fX : x.aj.all (fun y => aq y 1 60) = true := F7 (p := fun y => aq y 1 60) h2 ht;refine ag.by hP (da x.cp 1 8) ?_;cbv;refine Br.split (fun k0 => ?_) (fun k0 => ?_) <;> cbv
   rotate_left
   · refine ⟨?_, trivial⟩;have k0 : aq x.cp 1 8 = false := by simpa using k0
     simp [hb, cX, g0, g1, g2, g3, g4, fX, k0]
   have k0 : aq x.cp 1 8 = true := by simpa using k0
   refine ag.by hP (da x.rest 0 8) ?_;cbv;refine Br.split (fun k1 => ?_) (fun k1 => ?_) <;> cbv
   rotate_left
   · refine ⟨?_, trivial⟩;have k1 : aq x.rest 0 8 = false := by simpa using k1
     simp [hb, cX, g0, g1, g2, g3, g4, fX, k0, k1]
   have k1 : aq x.rest 0 8 = true := by simpa using k1
   refine ag.by hP (da x.tries 1 4) ?_;cbv;refine Br.split (fun k2 => ?_) (fun k2 => ?_) <;> cbv
   rotate_left
   · refine ⟨?_, trivial⟩;have k2 : aq x.tries 1 4 = false := by simpa using k2
     simp [hb, cX, g0, g1, g2, g3, g4, fX, k0, k1, k2]
   have k2 : aq x.tries 1 4 = true := by simpa using k2
   refine ag.by hP (da x.cC 1 3) ?_;cbv;refine ⟨?_, trivial⟩;simp [hb, cX, g0, g1, g2, g3, g4, fX, k0, k1, k2]
theorem Bh (x : bI) (hs : x.aj.length ≤ bc) (b : Bool) (hb : b = cX x) : Spec Tryz.prog 209 [gM x] (aE (bR fun _ => b)) := by
 refine ay au Tryz.func209 rfl rfl (fr := true) (fun _ => by kernel_rfl) fun P hP hA => ?_;have hn : x.aj.length ≤ 1048576 := hs;cbv;refine ag.by hP (cW x.aj.length 1 4) ?_;cbv
 repeat (refine Pz.mk ?_; cbv)
 refine Br.split (fun h0 => ?_) (fun h0 => ?_) <;> (cbv; repeat (refine Pz.mk ?_; cbv))
 · refine ⟨?_, trivial⟩;have h0 : aq x.aj.length 1 4 = false := by simpa using h0
   simp [hb, cX, h0]
 have h0 : aq x.aj.length 1 4 = true := by simpa using h0
 have g0 := h0;refine aU.by (X := Nat) (fun i => [(1, pN 0), (11, lT .int fun _ => x.aj), (12, nT fun _ => x.aj.length), (13, nT fun _ => i)]) (fun _ => [(0, .box [.lf (.list .int fun _ => x.aj), .lf (.int .i64 fun _ => x.cn), .lf (.int .i64 fun _ => x.room), .lf (.int .i64 fun _ => x.size), .lf (.int .i64 fun _ => x.period), .lf (.int .i64 fun _ => x.cp), .lf (.int .i64 fun _ => x.rest), .lf (.int .i64 fun _ => x.tries), .lf (.int .i64 fun _ => x.cC)])]) (fun i => i ≤ x.aj.length ∧ ∀ y ∈ x.aj.take i, aq y 1 60 = true) (fun i _ => x.aj.length - i) 0 ⟨Nat.zero_le _, by simp⟩ ?_ ?_
 · cbv
   repeat' first | exact trivial | refine ⟨rfl, ?_⟩ | fail
 · intro i ⟨hi, ht⟩;cbv;refine Br.dec (fun h2 => ?_) (fun h2 => ?_) <;> (cbv; repeat (refine Pz.mk ?_; cbv))
   · have h2 : (i : Int) < (x.aj.length : Int) := h2;have h2 : i < x.aj.length := by omega
     refine ⟨x.aj[i], by simp, get_cast x.aj h2, ?_⟩;cbv;refine ag.by hP (cW x.aj[i] 1 60) ?_;cbv
     repeat (refine Pz.mk ?_; cbv)
     refine Br.split (fun h3 => ?_) (fun h3 => ?_) <;> (cbv; repeat (refine Pz.mk ?_; cbv))
     · refine ⟨?_, trivial⟩;have h3 : aq x.aj[i] 1 60 = false := by simpa using h3
       have h3 : x.aj.all (fun y => aq y 1 60) = false := F6 (p := fun y => aq y 1 60) h2 h3;simp [hb, cX, g0, h3]
     have h3 : aq x.aj[i] 1 60 = true := by simpa using h3
     refine Ar.exact ?_ ?_ ?_
     · show -9223372036854775808 ≤ (i : Int) + 1;omega
     · show (i : Int) + 1 ≤ 9223372036854775807;omega
     cbv;refine aP.by (i + 1) ?_ ?_ ?_
     · show x.aj.length - (i + 1) < x.aj.length - i;omega
     · exact ⟨h2, F5 (p := fun y => aq y 1 60) h2 ht h3⟩
     · cbv
       repeat' first | exact trivial | refine ⟨rfl, ?_⟩ | fail
   have h2 : ¬ (i : Int) < (x.aj.length : Int) := h2;have h2 : x.aj.length ≤ i := by omega
   have fX : x.aj.all (fun y => aq y 1 60) = true := F7 (p := fun y => aq y 1 60) h2 ht;refine ag.by hP (cW x.cn 1 5) ?_;cbv
   repeat (refine Pz.mk ?_; cbv)
   refine Br.split (fun k0 => ?_) (fun k0 => ?_) <;> (cbv; repeat (refine Pz.mk ?_; cbv))
   rotate_left
   · refine ⟨?_, trivial⟩;have k0 : aq x.cn 1 5 = false := by simpa using k0
     simp [hb, cX, g0, fX, k0]
   have k0 : aq x.cn 1 5 = true := by simpa using k0
   refine ag.by hP (cW x.room 1 10) ?_;cbv
   repeat (refine Pz.mk ?_; cbv)
   refine Br.split (fun k1 => ?_) (fun k1 => ?_) <;> (cbv; repeat (refine Pz.mk ?_; cbv))
   rotate_left
   · refine ⟨?_, trivial⟩;have k1 : aq x.room 1 10 = false := by simpa using k1
     simp [hb, cX, g0, fX, k0, k1]
   have k1 : aq x.room 1 10 = true := by simpa using k1
   refine ag.by hP (cW x.size 1 6) ?_;cbv
   repeat (refine Pz.mk ?_; cbv)
   refine Br.split (fun k2 => ?_) (fun k2 => ?_) <;> (cbv; repeat (refine Pz.mk ?_; cbv))
   rotate_left
   · refine ⟨?_, trivial⟩;have k2 : aq x.size 1 6 = false := by simpa using k2
     simp [hb, cX, g0, fX, k0, k1, k2]
   have k2 : aq x.size 1 6 = true := by simpa using k2
   refine ag.by hP (cW x.period 1 12) ?_;cbv
   repeat (refine Pz.mk ?_; cbv)
   refine Br.split (fun k3 => ?_) (fun k3 => ?_) <;> (cbv; repeat (refine Pz.mk ?_; cbv))
   rotate_left
   · refine ⟨?_, trivial⟩;have k3 : aq x.period 1 12 = false := by simpa using k3
     simp [hb, cX, g0, fX, k0, k1, k2, k3]
   have k3 : aq x.period 1 12 = true := by simpa using k3
   refine ag.by hP (cW x.cp 1 8) ?_;cbv
   repeat (refine Pz.mk ?_; cbv)
   refine Br.split (fun k4 => ?_) (fun k4 => ?_) <;> (cbv; repeat (refine Pz.mk ?_; cbv))
   rotate_left
   · refine ⟨?_, trivial⟩;have k4 : aq x.cp 1 8 = false := by simpa using k4
     simp [hb, cX, g0, fX, k0, k1, k2, k3, k4]
   have k4 : aq x.cp 1 8 = true := by simpa using k4
   refine ag.by hP (cW x.tries 1 4) ?_;cbv
   repeat (refine Pz.mk ?_; cbv)
   refine Br.split (fun k5 => ?_) (fun k5 => ?_) <;> (cbv; repeat (refine Pz.mk ?_; cbv))
   rotate_left
   · refine ⟨?_, trivial⟩;have k5 : aq x.tries 1 4 = false := by simpa using k5
     simp [hb, cX, g0, fX, k0, k1, k2, k3, k4, k5]
   have k5 : aq x.tries 1 4 = true := by simpa using k5
   refine ag.by hP (cW x.cC 1 3) ?_;cbv
   repeat (refine Pz.mk ?_; cbv)
   refine Br.split (fun k6 => ?_) (fun k6 => ?_) <;> (cbv; repeat (refine Pz.mk ?_; cbv))
   rotate_left
   · refine ⟨?_, trivial⟩;have k6 : aq x.cC 1 3 = false := by simpa using k6
     simp [hb, cX, g0, fX, k0, k1, k2, k3, k4, k5, k6]
   have k6 : aq x.cC 1 3 = true := by simpa using k6
   refine ag.by hP (cW x.rest 0 8) ?_;cbv
   repeat (refine Pz.mk ?_; cbv)
   refine ⟨?_, trivial⟩;simp [hb, cX, g0, fX, k0, k1, k2, k3, k4, k5, k6]
theorem ye (a : List Int) (hn : a.length ≤ bc) : Spec Tryz.prog 99 [lA .int a] (aE (lR .int fun _ => a)) := by
 refine ay au Tryz.func99 rfl rfl (fr := true) (fun _ => by kernel_rfl) fun P hP hA => ?_;have hn : a.length ≤ 1048576 := hn;cbv;refine ⟨?_, ?_⟩
 · show (0 + a.length) * 8 ≤ 140737488355328;omega
 cbv;exact ⟨rfl, trivial⟩
theorem M1 (x : bI) (hs : x.aj.length ≤ bc) : Spec Tryz.prog 98 [gM x] (aE (Be fun _ => x)) := by
 refine ay au Tryz.func98 rfl rfl (fr := true) (fun _ => by kernel_rfl) fun P hP hA => ?_;cbv;refine ag.by hP (ye x.aj hs) ?_;cbv;exact ⟨rfl, rfl, rfl, rfl, rfl, rfl, rfl, rfl, rfl, trivial⟩
theorem F9 (x : bI) (hs : x.aj.length ≤ bc) : Spec Tryz.prog 86 [gM x] (aE (Be fun _ => x)) := by
 refine ay au Tryz.func86 rfl rfl (fr := true) (fun _ => by kernel_rfl) fun P hP hA => ?_;have hn : x.aj.length ≤ 1048576 := hs;cbv;refine ⟨?_, ?_⟩
 · show (0 + x.aj.length) * 8 ≤ 140737488355328;omega
 cbv;exact ⟨rfl, rfl, rfl, rfl, rfl, rfl, rfl, rfl, rfl, trivial⟩
structure M3 (x : bI) : Prop where
 len : 1 ≤ x.aj.length ∧ x.aj.length ≤ 4
 cn : 1 ≤ x.cn ∧ x.cn ≤ 5
 room : 1 ≤ x.room ∧ x.room ≤ 10
 size : 1 ≤ x.size ∧ x.size ≤ 6
 period : 1 ≤ x.period ∧ x.period ≤ 12
 cp : 1 ≤ x.cp ∧ x.cp ≤ 8
 tries : 1 ≤ x.tries ∧ x.tries ≤ 4
 cC : 1 ≤ x.cC ∧ x.cC ≤ 3
 rest : 0 ≤ x.rest ∧ x.rest ≤ 8
theorem fo {x : bI} (h : cX x = true) : M3 x := by
 simp only [cX, Bool.and_eq_true, List.all_eq_true] at h;obtain ⟨h1, _, h2, h3, h4, h5, h6, h7, h8, h9⟩ := h;have h1 := bO h1;exact ⟨by omega, bO h2, bO h3, bO h4, bO h5, bO h6, bO h7, bO h8, bO h9⟩
theorem nM (n sz : Int) (h0 : 0 ≤ sz) (h1 : sz ≤ 9223372036854775807) : Spec Tryz.prog 141 [iA n, iA sz] (aE (bR fun _ => aq n 0 (sz - 1))) := by
 have e : (fun _ : Unit => aq n 0 (sz - 1)) = fun _ => (decide (0 ≤ n) && decide (n < sz)) := by
  funext _
  unfold aq;rw [Bool.eq_iff_iff]; simp only [Bool.and_eq_true, decide_eq_true_eq]; omega
 rw [e];exact Mn n sz h0 h1
def bD (R : bI) (p : aw) (now : Int) : Bool :=
 cX R && (aq now 0 1000000 && (aq p.id 1 999 && (aq p.ah 0 (R.aj.length - 1) && (aq p.ak (-1) (R.aj.length - 1) && (!(p.ak == p.ah) &&
  (aq p.al 1 R.size && (aq p.aJ 0 (R.cn - 1) && (aq p.since 0 now && (aq p.aC 1 1000000 && (aq p.asked 0 (R.tries - 1) &&
   ((p.st == 1 && aq p.cm 0 (now + R.rest)) || (p.st == 2 && aq p.cm 1 (now + R.cp)))))))))))))
theorem Bi (R : bI) (p : aw) (now : Int) (hs : R.aj.length ≤ bc) (b : Bool) (hb : b = bD R p now) : Spec Tryz.prog 225 [gM R, eA .aG p, iA now] (aE (bR fun _ => b)) := by
 refine ay au Tryz.func225 rfl rfl (fr := true) (fun _ => by kernel_rfl) fun P hP hA => ?_;have hn : R.aj.length ≤ 1048576 := hs;cbv;refine ag.by hP (F8 R hs (cX R) rfl) ?_;cbv
 repeat (refine Pz.mk ?_; cbv)
 refine Br.split (fun h0 => ?_) (fun h0 => ?_) <;> (cbv; repeat (refine Pz.mk ?_; cbv))
 · refine ⟨?_, trivial⟩;have h0 : cX R = false := by simpa using h0
   simp [hb, bD, h0]
 have h0 : cX R = true := by simpa using h0
 obtain ⟨⟨a1, a2⟩, ⟨b1, b2⟩, _, ⟨d1, d2⟩, _, ⟨f1, f2⟩, ⟨g1, g2⟩, _, ⟨i1, i2⟩⟩ := fo h0;refine ag.by hP (da now 0 1000000) ?_;cbv
 repeat (refine Pz.mk ?_; cbv)
 refine Br.split (fun h1 => ?_) (fun h1 => ?_) <;> (cbv; repeat (refine Pz.mk ?_; cbv))
 · refine ⟨?_, trivial⟩;have h1 : aq now 0 1000000 = false := by simpa using h1
   simp [hb, bD, h0, h1]
 have h1 : aq now 0 1000000 = true := by simpa using h1
 obtain ⟨n1, n2⟩ := bO h1;refine ag.by hP (da p.id 1 999) ?_;cbv
 repeat (refine Pz.mk ?_; cbv)
 refine Br.split (fun h2 => ?_) (fun h2 => ?_) <;> (cbv; repeat (refine Pz.mk ?_; cbv))
 · refine ⟨?_, trivial⟩;have h2 : aq p.id 1 999 = false := by simpa using h2
   simp [hb, bD, h0, h1, h2]
 have h2 : aq p.id 1 999 = true := by simpa using h2
 refine Ar.exact ?_ ?_ ?_
 · show -9223372036854775808 ≤ (R.aj.length : Int) - 1;omega
 · show (R.aj.length : Int) - 1 ≤ 9223372036854775807;omega
 cbv;refine ag.by hP (da p.ah 0 ((R.aj.length : Int) - 1)) ?_;cbv
 repeat (refine Pz.mk ?_; cbv)
 refine Br.split (fun h3 => ?_) (fun h3 => ?_) <;> (cbv; repeat (refine Pz.mk ?_; cbv))
 · refine ⟨?_, trivial⟩;have h3 : aq p.ah 0 ((R.aj.length : Int) - 1) = false := by simpa using h3
   simp [hb, bD, h0, h1, h2, h3]
 have h3 : aq p.ah 0 ((R.aj.length : Int) - 1) = true := by simpa using h3
 refine Ar.exact ?_ ?_ ?_
 · show -9223372036854775808 ≤ (R.aj.length : Int) - 1;omega
 · show (R.aj.length : Int) - 1 ≤ 9223372036854775807;omega
 cbv;refine ag.by hP (da p.ak (-1) ((R.aj.length : Int) - 1)) ?_;cbv
 repeat (refine Pz.mk ?_; cbv)
 refine Br.split (fun h4 => ?_) (fun h4 => ?_) <;> (cbv; repeat (refine Pz.mk ?_; cbv))
 · refine ⟨?_, trivial⟩;have h4 : aq p.ak (-1) ((R.aj.length : Int) - 1) = false := by simpa using h4
   simp [hb, bD, h0, h1, h2, h3, h4]
 have h4 : aq p.ak (-1) ((R.aj.length : Int) - 1) = true := by simpa using h4
 refine Br.split (fun h5 => ?_) (fun h5 => ?_) <;> (cbv; repeat (refine Pz.mk ?_; cbv))
 · refine ⟨?_, trivial⟩;have h5 : (p.ak == p.ah) = true := h5;simp [hb, bD, h0, h1, h2, h3, h4, h5]
 have h5 : (!(p.ak == p.ah)) = true := by simpa using h5
 refine ag.by hP (da p.al 1 R.size) ?_;cbv
 repeat (refine Pz.mk ?_; cbv)
 refine Br.split (fun h6 => ?_) (fun h6 => ?_) <;> (cbv; repeat (refine Pz.mk ?_; cbv))
 · refine ⟨?_, trivial⟩;have h6 : aq p.al 1 R.size = false := by simpa using h6
   simp [hb, bD, h0, h1, h2, h3, h4, h5, h6]
 have h6 : aq p.al 1 R.size = true := by simpa using h6
 refine Ar.exact ?_ ?_ ?_
 · show -9223372036854775808 ≤ R.cn - 1;omega
 · show R.cn - 1 ≤ 9223372036854775807;omega
 cbv;refine ag.by hP (da p.aJ 0 (R.cn - 1)) ?_;cbv
 repeat (refine Pz.mk ?_; cbv)
 refine Br.split (fun h7 => ?_) (fun h7 => ?_) <;> (cbv; repeat (refine Pz.mk ?_; cbv))
 · refine ⟨?_, trivial⟩;have h7 : aq p.aJ 0 (R.cn - 1) = false := by simpa using h7
   simp [hb, bD, h0, h1, h2, h3, h4, h5, h6, h7]
 have h7 : aq p.aJ 0 (R.cn - 1) = true := by simpa using h7
 refine ag.by hP (da p.since 0 now) ?_;cbv
 repeat (refine Pz.mk ?_; cbv)
 refine Br.split (fun h8 => ?_) (fun h8 => ?_) <;> (cbv; repeat (refine Pz.mk ?_; cbv))
 · refine ⟨?_, trivial⟩;have h8 : aq p.since 0 now = false := by simpa using h8
   simp [hb, bD, h0, h1, h2, h3, h4, h5, h6, h7, h8]
 have h8 : aq p.since 0 now = true := by simpa using h8
 refine ag.by hP (da p.aC 1 1000000) ?_;cbv
 repeat (refine Pz.mk ?_; cbv)
 refine Br.split (fun h9 => ?_) (fun h9 => ?_) <;> (cbv; repeat (refine Pz.mk ?_; cbv))
 · refine ⟨?_, trivial⟩;have h9 : aq p.aC 1 1000000 = false := by simpa using h9
   simp [hb, bD, h0, h1, h2, h3, h4, h5, h6, h7, h8, h9]
 have h9 : aq p.aC 1 1000000 = true := by simpa using h9
 refine Ar.exact ?_ ?_ ?_
 · show -9223372036854775808 ≤ R.tries - 1;omega
 · show R.tries - 1 ≤ 9223372036854775807;omega
 cbv;refine ag.by hP (da p.asked 0 (R.tries - 1)) ?_;cbv
 repeat (refine Pz.mk ?_; cbv)
 refine Br.split (fun bM => ?_) (fun bM => ?_) <;> (cbv; repeat (refine Pz.mk ?_; cbv))
 · refine ⟨?_, trivial⟩;have bM : aq p.asked 0 (R.tries - 1) = false := by simpa using bM
   simp [hb, bD, h0, h1, h2, h3, h4, h5, h6, h7, h8, h9, bM]
 have bM : aq p.asked 0 (R.tries - 1) = true := by simpa using bM
 have e : b = ((p.st == 1 && aq p.cm 0 (now + R.rest)) || (p.st == 2 && aq p.cm 1 (now + R.cp))) := by simp [hb, bD, h0, h1, h2, h3, h4, h5, h6, h7, h8, h9, bM]
 clear hb h0 h2 h3 h4 h5 h6 h7 h8 h9 bM
 repeat' first
   | (refine Ar.exact (t := fun _ => now + R.rest) (by show -9223372036854775808 ≤ now + R.rest; omega) (by show now + R.rest ≤ 9223372036854775807; omega) ?_; cbv)
   | (refine Ar.exact (t := fun _ => now + R.cp) (by show -9223372036854775808 ≤ now + R.cp; omega) (by show now + R.cp ≤ 9223372036854775807; omega) ?_; cbv)
   | (refine ag.by hP (da p.cm 0 (now + R.rest)) ?_; cbv)
   | (refine ag.by hP (da p.cm 1 (now + R.cp)) ?_; cbv)
   | (refine Br.split (fun h => ?_) (fun h => ?_) <;> cbv)
 all_goals refine ⟨?_, trivial⟩
 all_goals simp_all
theorem yf (R : bI) (p : aw) (now : Int) (hs : R.aj.length ≤ bc) (b : Bool) (hb : b = bD R p now) : Spec Tryz.prog 200 [gM R, eA .aG p, iA now] (aE (bR fun _ => b)) := by
 refine ay au Tryz.func200 rfl rfl (fr := true) (fun _ => by kernel_rfl) fun P hP hA => ?_;have hn : R.aj.length ≤ 1048576 := hs;cbv;refine ag.by hP (Bh R hs (cX R) rfl) ?_;cbv
 repeat (refine Pz.mk ?_; cbv)
 refine Br.split (fun h0 => ?_) (fun h0 => ?_) <;> (cbv; repeat (refine Pz.mk ?_; cbv))
 · refine ⟨?_, trivial⟩;have h0 : cX R = false := by simpa using h0
   simp [hb, bD, h0]
 have h0 : cX R = true := by simpa using h0
 obtain ⟨⟨a1, a2⟩, ⟨b1, b2⟩, _, ⟨d1, d2⟩, _, ⟨f1, f2⟩, ⟨g1, g2⟩, _, ⟨i1, i2⟩⟩ := fo h0;refine ag.by hP (cW now 0 1000000) ?_;cbv
 repeat (refine Pz.mk ?_; cbv)
 refine Br.split (fun h1 => ?_) (fun h1 => ?_) <;> (cbv; repeat (refine Pz.mk ?_; cbv))
 · refine ⟨?_, trivial⟩;have h1 : aq now 0 1000000 = false := by simpa using h1
   simp [hb, bD, h0, h1]
 have h1 : aq now 0 1000000 = true := by simpa using h1
 obtain ⟨n1, n2⟩ := bO h1;refine ag.by hP (cW p.id 1 999) ?_;cbv
 repeat (refine Pz.mk ?_; cbv)
 refine Br.split (fun h2 => ?_) (fun h2 => ?_) <;> (cbv; repeat (refine Pz.mk ?_; cbv))
 · refine ⟨?_, trivial⟩;have h2 : aq p.id 1 999 = false := by simpa using h2
   simp [hb, bD, h0, h1, h2]
 have h2 : aq p.id 1 999 = true := by simpa using h2
 refine ag.by hP (nM p.ah (R.aj.length : Int) (by omega) (by omega)) ?_;cbv
 repeat (refine Pz.mk ?_; cbv)
 refine Br.split (fun h3 => ?_) (fun h3 => ?_) <;> (cbv; repeat (refine Pz.mk ?_; cbv))
 · refine ⟨?_, trivial⟩;have h3 : aq p.ah 0 ((R.aj.length : Int) - 1) = false := by simpa using h3
   simp [hb, bD, h0, h1, h2, h3]
 have h3 : aq p.ah 0 ((R.aj.length : Int) - 1) = true := by simpa using h3
 refine Ar.exact ?_ ?_ ?_
 · show -9223372036854775808 ≤ (R.aj.length : Int) - 1;omega
 · show (R.aj.length : Int) - 1 ≤ 9223372036854775807;omega
 cbv;refine ag.by hP (cW p.ak (-1) ((R.aj.length : Int) - 1)) ?_;cbv
 repeat (refine Pz.mk ?_; cbv)
 refine Br.split (fun h4 => ?_) (fun h4 => ?_) <;> (cbv; repeat (refine Pz.mk ?_; cbv))
 · refine ⟨?_, trivial⟩;have h4 : aq p.ak (-1) ((R.aj.length : Int) - 1) = false := by simpa using h4
   simp [hb, bD, h0, h1, h2, h3, h4]
 have h4 : aq p.ak (-1) ((R.aj.length : Int) - 1) = true := by simpa using h4
 refine Br.split (fun h5 => ?_) (fun h5 => ?_) <;> (cbv; repeat (refine Pz.mk ?_; cbv))
 · refine ⟨?_, trivial⟩;have h5 : (p.ak == p.ah) = true := h5;simp [hb, bD, h0, h1, h2, h3, h4, h5]
 have h5 : (!(p.ak == p.ah)) = true := by simpa using h5
 refine ag.by hP (cW p.al 1 R.size) ?_;cbv
 repeat (refine Pz.mk ?_; cbv)
 refine Br.split (fun h6 => ?_) (fun h6 => ?_) <;> (cbv; repeat (refine Pz.mk ?_; cbv))
 · refine ⟨?_, trivial⟩;have h6 : aq p.al 1 R.size = false := by simpa using h6
   simp [hb, bD, h0, h1, h2, h3, h4, h5, h6]
 have h6 : aq p.al 1 R.size = true := by simpa using h6
 refine ag.by hP (nM p.aJ R.cn (by omega) (by omega)) ?_;cbv
 repeat (refine Pz.mk ?_; cbv)
 refine Br.split (fun h7 => ?_) (fun h7 => ?_) <;> (cbv; repeat (refine Pz.mk ?_; cbv))
 · refine ⟨?_, trivial⟩;have h7 : aq p.aJ 0 (R.cn - 1) = false := by simpa using h7
   simp [hb, bD, h0, h1, h2, h3, h4, h5, h6, h7]
 have h7 : aq p.aJ 0 (R.cn - 1) = true := by simpa using h7
 refine ag.by hP (cW p.since 0 now) ?_;cbv
 repeat (refine Pz.mk ?_; cbv)
 refine Br.split (fun h8 => ?_) (fun h8 => ?_) <;> (cbv; repeat (refine Pz.mk ?_; cbv))
 · refine ⟨?_, trivial⟩;have h8 : aq p.since 0 now = false := by simpa using h8
   simp [hb, bD, h0, h1, h2, h3, h4, h5, h6, h7, h8]
 have h8 : aq p.since 0 now = true := by simpa using h8
 refine ag.by hP (cW p.aC 1 1000000) ?_;cbv
 repeat (refine Pz.mk ?_; cbv)
 refine Br.split (fun h9 => ?_) (fun h9 => ?_) <;> (cbv; repeat (refine Pz.mk ?_; cbv))
 · refine ⟨?_, trivial⟩;have h9 : aq p.aC 1 1000000 = false := by simpa using h9
   simp [hb, bD, h0, h1, h2, h3, h4, h5, h6, h7, h8, h9]
 have h9 : aq p.aC 1 1000000 = true := by simpa using h9
 refine ag.by hP (nM p.asked R.tries (by omega) (by omega)) ?_;cbv
 repeat (refine Pz.mk ?_; cbv)
 refine Br.split (fun bM => ?_) (fun bM => ?_) <;> (cbv; repeat (refine Pz.mk ?_; cbv))
 · refine ⟨?_, trivial⟩;have bM : aq p.asked 0 (R.tries - 1) = false := by simpa using bM
   simp [hb, bD, h0, h1, h2, h3, h4, h5, h6, h7, h8, h9, bM]
 have bM : aq p.asked 0 (R.tries - 1) = true := by simpa using bM
 have e : b = ((p.st == 1 && aq p.cm 0 (now + R.rest)) || (p.st == 2 && aq p.cm 1 (now + R.cp))) := by simp [hb, bD, h0, h1, h2, h3, h4, h5, h6, h7, h8, h9, bM]
 clear hb h0 h2 h3 h4 h5 h6 h7 h8 h9 bM
 repeat' first
   | (refine Ar.exact (t := fun _ => now + R.rest) (by show -9223372036854775808 ≤ now + R.rest; omega) (by show now + R.rest ≤ 9223372036854775807; omega) ?_; cbv)
   | (refine Ar.exact (t := fun _ => now + R.cp) (by show -9223372036854775808 ≤ now + R.cp; omega) (by show now + R.cp ≤ 9223372036854775807; omega) ?_; cbv)
   | (refine ag.by hP (cW p.cm 0 (now + R.rest)) ?_; cbv)
   | (refine ag.by hP (cW p.cm 1 (now + R.cp)) ?_; cbv)
   | (refine Br.split (fun h => ?_) (fun h => ?_) <;> cbv)
 all_goals refine ⟨?_, trivial⟩
 all_goals simp_all
def k_ (p : aw) (now : Int) : Bool := p.st == 2 && decide (p.cm ≤ now)
def gv (p : aw) (now : Int) : Bool := p.st == 1 && decide (p.cm > now)
theorem M4 (p : aw) (now : Int) : Spec Tryz.prog 208 [eA .aG p, iA now] (aE (bR fun _ => k_ p now)) := by
 refine ay au Tryz.func208 rfl rfl (fr := true) (fun _ => by kernel_rfl) fun P hP hA => ?_;cbv;refine Br.split (fun h => ?_) (fun h => ?_) <;> cbv
 · refine ⟨?_, trivial⟩;simp_all [k_]
 · refine ⟨?_, trivial⟩;simp_all [k_]
theorem M5 (p : aw) (now : Int) : Spec Tryz.prog 168 [eA .aG p, iA now] (aE (bR fun _ => gv p now)) := by
 refine ay au Tryz.func168 rfl rfl (fr := true) (fun _ => by kernel_rfl) fun P hP hA => ?_;cbv;refine Br.split (fun h => ?_) (fun h => ?_) <;> cbv
 · refine ⟨?_, trivial⟩;simp_all [gv]
 · refine ⟨?_, trivial⟩;simp_all [gv]
theorem F_ (p : aw) (now : Int) : Spec Tryz.prog 144 [eA .aG p, iA now] (aE (bR fun _ => k_ p now)) := by
 refine ay au Tryz.func144 rfl rfl (fr := true) (fun _ => by kernel_rfl) fun P hP hA => ?_;cbv;refine Br.split (fun h => ?_) (fun h => ?_) <;> cbv
 · refine ⟨?_, trivial⟩;simp_all [k_]
 · refine ⟨?_, trivial⟩;simp_all [k_]
theorem M6 (p : aw) (now : Int) : Spec Tryz.prog 102 [eA .aG p, iA now] (aE (bR fun _ => gv p now)) := by
 refine ay au Tryz.func102 rfl rfl (fr := true) (fun _ => by kernel_rfl) fun P hP hA => ?_;cbv;refine Br.split (fun h => ?_) (fun h => ?_) <;> cbv
 · refine ⟨?_, trivial⟩;simp_all [gv]
 · refine ⟨?_, trivial⟩;simp_all [gv]
theorem l9 {α : Type} (z : α → Nat) {a : List α} {i : Nat} (h : i < a.length) (hv : z a[i] = 0) : ((af z (a.take i) : Nat) : Int) = ((af z (a.take (i + 1)) : Nat) : Int) := by
 rw [kz z h, hv, Nat.add_zero]
theorem tA {α : Type} (z : α → Nat) {a : List α} {i : Nat} (h : i < a.length) {v : Int} (hv : ((z a[i] : Nat) : Int) = v) : ((af z (a.take i) : Nat) : Int) + v = ((af z (a.take (i + 1)) : Nat) : Int) := by
 rw [kz z h, ← hv]; omega
def bU (c : Int) (p : aw) : Nat := if (p.ah == c) = true then 1 else 0
def l_ (c : Int) (p : aw) : Bool := p.st == 2 && (p.ah == c && aq p.al 1 6)
def kA (c : Int) (p : aw) : Bool := p.ak == c && aq p.al 1 6
def cz (c : Int) (p : aw) : Nat := if l_ c p = true then p.al.toNat else 0
def cF (c : Int) (p : aw) : Nat := if kA c p = true then p.al.toNat else 0
theorem Ga (c : Int) (a : List aw) (hn : a.length ≤ bc) (i : Nat) : af (bU c) (a.take i) ≤ 1048576 := by
 have hn : a.length ≤ 1048576 := hn;exact o6 _ 1 1048576 (a.take i) (fun x _ => by unfold bU; split <;> omega) (by rw [List.length_take]; omega)
theorem Gb (c : Int) (a : List aw) (hn : a.length ≤ bc) (i : Nat) : af (cz c) (a.take i) ≤ 6291456 := by
 have hn : a.length ≤ 1048576 := hn
 exact o6 _ 6 1048576 (a.take i) (fun x _ => by
  unfold cz; split
  · rename_i h; simp only [l_, Bool.and_eq_true] at h; have := bO h.2.2; omega
  · omega) (by rw [List.length_take]; omega)
theorem Gc (c : Int) (a : List aw) (hn : a.length ≤ bc) (i : Nat) : af (cF c) (a.take i) ≤ 6291456 := by
 have hn : a.length ≤ 1048576 := hn
 exact o6 _ 6 1048576 (a.take i) (fun x _ => by
  unfold cF; split
  · rename_i h; simp only [kA, Bool.and_eq_true] at h; have := bO h.2; omega
  · omega) (by rw [List.length_take]; omega)
theorem Bj (a : List aw) (c : Int) (hn : a.length ≤ bc) : Spec Tryz.prog 154 [lA .aG a, iA c] (aE (nR fun _ => af (bU c) a)) := by
 refine ay au Tryz.func154 rfl rfl (fr := true) (fun _ => by kernel_rfl) fun P hP hA => ?_;have rG : a.length ≤ 1048576 := hn;cbv;refine aU.by (X := Nat) (fun i => [(0, lA .aG a), (1, iA c), (5, nT fun _ => af (bU c) (a.take i)), (6, nT fun _ => i)]) (fun _ => []) (fun i => i ≤ a.length) (fun i _ => a.length - i) 0 (Nat.zero_le _) ?_ ?_
 · cbv
   repeat' first | exact trivial | refine ⟨rfl, ?_⟩ | fail
 · intro i hi;have hle := Ga c a hn i;cbv;refine Br.dec (fun h2 => ?_) (fun h2 => ?_) <;> cbv
   rotate_left
   · have h2 : a.length ≤ i := by simp at h2; omega
     refine ⟨?_, trivial⟩;show ((af (bU c) (a.take i) : Nat) : Int) = ((af (bU c) a : Nat) : Int);rw [List.take_of_length_le h2]
   have h2 : i < a.length := by simpa using h2
   refine ⟨a[i], by simp, get_cast a h2, ?_⟩;cbv;refine Br.split (fun k0 => ?_) (fun k0 => ?_) <;> cbv
   rotate_left
   · have k0 : (a[i].ah == c) = false := by simpa using k0
     have hz : bU c a[i] = 0 := by simp [bU, k0]
     refine Ar.exact ?_ ?_ ?_
     · show -9223372036854775808 ≤ (i : Int) + 1;omega
     · show (i : Int) + 1 ≤ 9223372036854775807;omega
     cbv;refine aP.by (i + 1) ?_ ?_ ?_
     · show a.length - (i + 1) < a.length - i;omega
     · exact h2
     · cbv
       repeat' first | exact trivial | refine ⟨rfl, ?_⟩ | fail
       refine ⟨?_, ?_⟩
       · exact l9 (bU c) h2 hz
       repeat' first | exact trivial | refine ⟨rfl, ?_⟩ | fail
   have k0 : (a[i].ah == c) = true := by simpa using k0
   have hz : ((bU c a[i] : Nat) : Int) = 1 := by simp [bU, k0]
   refine Ar.exact ?_ ?_ ?_
   · show -9223372036854775808 ≤ ((af (bU c) (a.take i) : Nat) : Int) + 1;omega
   · show ((af (bU c) (a.take i) : Nat) : Int) + 1 ≤ 9223372036854775807;omega
   cbv;refine Ar.exact ?_ ?_ ?_
   · show -9223372036854775808 ≤ (i : Int) + 1;omega
   · show (i : Int) + 1 ≤ 9223372036854775807;omega
   cbv;refine aP.by (i + 1) ?_ ?_ ?_
   · show a.length - (i + 1) < a.length - i;omega
   · exact h2
   · cbv
     repeat' first | exact trivial | refine ⟨rfl, ?_⟩ | fail
     refine ⟨?_, ?_⟩
     · exact tA (bU c) h2 hz
     repeat' first | exact trivial | refine ⟨rfl, ?_⟩ | fail
theorem M7 (a : List aw) (c : Int) (hn : a.length ≤ bc) : Spec Tryz.prog 231 [lA .aG a, iA c] (aE (nR fun _ => af (cz c) a)) := by
 refine ay au Tryz.func231 rfl rfl (fr := true) (fun _ => by kernel_rfl) fun P hP hA => ?_;have rG : a.length ≤ 1048576 := hn;cbv;refine aU.by (X := Nat) (fun i => [(0, lA .aG a), (1, iA c), (5, nT fun _ => af (cz c) (a.take i)), (6, nT fun _ => i)]) (fun _ => []) (fun i => i ≤ a.length) (fun i _ => a.length - i) 0 (Nat.zero_le _) ?_ ?_
 · cbv
   repeat' first | exact trivial | refine ⟨rfl, ?_⟩ | fail
 · intro i hi;have hle := Gb c a hn i;cbv;refine Br.dec (fun h2 => ?_) (fun h2 => ?_) <;> cbv
   rotate_left
   · have h2 : a.length ≤ i := by simp at h2; omega
     refine ⟨?_, trivial⟩;show ((af (cz c) (a.take i) : Nat) : Int) = ((af (cz c) a : Nat) : Int);rw [List.take_of_length_le h2]
   have h2 : i < a.length := by simpa using h2
   refine ⟨a[i], by simp, get_cast a h2, ?_⟩;cbv;refine Br.split (fun k0 => ?_) (fun k0 => ?_) <;> cbv
   rotate_left
   · have k0 : (a[i].st == 2) = false := by simpa using k0
     have hz : cz c a[i] = 0 := by simp [cz, l_, k0]
     refine Ar.exact ?_ ?_ ?_
     · show -9223372036854775808 ≤ (i : Int) + 1;omega
     · show (i : Int) + 1 ≤ 9223372036854775807;omega
     cbv;refine aP.by (i + 1) ?_ ?_ ?_
     · show a.length - (i + 1) < a.length - i;omega
     · exact h2
     · cbv
       repeat' first | exact trivial | refine ⟨rfl, ?_⟩ | fail
       refine ⟨?_, ?_⟩
       · exact l9 (cz c) h2 hz
       repeat' first | exact trivial | refine ⟨rfl, ?_⟩ | fail
   have k0 : (a[i].st == 2) = true := by simpa using k0
   refine ⟨a[i], by simp, get_cast a h2, ?_⟩;cbv;refine Br.split (fun k1 => ?_) (fun k1 => ?_) <;> cbv
   rotate_left
   · have k1 : (a[i].ah == c) = false := by simpa using k1
     have hz : cz c a[i] = 0 := by simp [cz, l_, k0, k1]
     refine Ar.exact ?_ ?_ ?_
     · show -9223372036854775808 ≤ (i : Int) + 1;omega
     · show (i : Int) + 1 ≤ 9223372036854775807;omega
     cbv;refine aP.by (i + 1) ?_ ?_ ?_
     · show a.length - (i + 1) < a.length - i;omega
     · exact h2
     · cbv
       repeat' first | exact trivial | refine ⟨rfl, ?_⟩ | fail
       refine ⟨?_, ?_⟩
       · exact l9 (cz c) h2 hz
       repeat' first | exact trivial | refine ⟨rfl, ?_⟩ | fail
   have k1 : (a[i].ah == c) = true := by simpa using k1
   refine ⟨a[i], by simp, get_cast a h2, ?_⟩;cbv;refine ag.by hP (da a[i].al 1 6) ?_;cbv;refine Br.split (fun k2 => ?_) (fun k2 => ?_) <;> cbv
   rotate_left
   · have k2 : aq a[i].al 1 6 = false := by simpa using k2
     have hz : cz c a[i] = 0 := by simp [cz, l_, k0, k1, k2]
     refine Ar.exact ?_ ?_ ?_
     · show -9223372036854775808 ≤ (i : Int) + 1;omega
     · show (i : Int) + 1 ≤ 9223372036854775807;omega
     cbv;refine aP.by (i + 1) ?_ ?_ ?_
     · show a.length - (i + 1) < a.length - i;omega
     · exact h2
     · cbv
       repeat' first | exact trivial | refine ⟨rfl, ?_⟩ | fail
       refine ⟨?_, ?_⟩
       · exact l9 (cz c) h2 hz
       repeat' first | exact trivial | refine ⟨rfl, ?_⟩ | fail
   have k2 : aq a[i].al 1 6 = true := by simpa using k2
   have hq := bO k2;have hz : ((cz c a[i] : Nat) : Int) = a[i].al := by simp [cz, l_, k0, k1, k2]; omega
   refine ⟨a[i], by simp, get_cast a h2, ?_⟩;cbv;refine Ar.exact ?_ ?_ ?_
   · show -9223372036854775808 ≤ ((af (cz c) (a.take i) : Nat) : Int) + a[i].al;omega
   · show ((af (cz c) (a.take i) : Nat) : Int) + a[i].al ≤ 9223372036854775807;omega
   cbv;refine Ar.exact ?_ ?_ ?_
   · show -9223372036854775808 ≤ (i : Int) + 1;omega
   · show (i : Int) + 1 ≤ 9223372036854775807;omega
   cbv;refine aP.by (i + 1) ?_ ?_ ?_
   · show a.length - (i + 1) < a.length - i;omega
   · exact h2
   · cbv
     repeat' first | exact trivial | refine ⟨rfl, ?_⟩ | fail
     refine ⟨?_, ?_⟩
     · exact tA (cz c) h2 hz
     repeat' first | exact trivial | refine ⟨rfl, ?_⟩ | fail
theorem M8 (a : List aw) (c : Int) (hn : a.length ≤ bc) : Spec Tryz.prog 232 [lA .aG a, iA c] (aE (nR fun _ => af (cF c) a)) := by
 refine ay au Tryz.func232 rfl rfl (fr := true) (fun _ => by kernel_rfl) fun P hP hA => ?_;have rG : a.length ≤ 1048576 := hn;cbv;refine aU.by (X := Nat) (fun i => [(0, lA .aG a), (1, iA c), (5, nT fun _ => af (cF c) (a.take i)), (6, nT fun _ => i)]) (fun _ => []) (fun i => i ≤ a.length) (fun i _ => a.length - i) 0 (Nat.zero_le _) ?_ ?_
 · cbv
   repeat' first | exact trivial | refine ⟨rfl, ?_⟩ | fail
 · intro i hi;have hle := Gc c a hn i;cbv;refine Br.dec (fun h2 => ?_) (fun h2 => ?_) <;> cbv
   rotate_left
   · have h2 : a.length ≤ i := by simp at h2; omega
     refine ⟨?_, trivial⟩;show ((af (cF c) (a.take i) : Nat) : Int) = ((af (cF c) a : Nat) : Int);rw [List.take_of_length_le h2]
   have h2 : i < a.length := by simpa using h2
   refine ⟨a[i], by simp, get_cast a h2, ?_⟩;cbv;refine Br.split (fun k0 => ?_) (fun k0 => ?_) <;> cbv
   rotate_left
   · have k0 : (a[i].ak == c) = false := by simpa using k0
     have hz : cF c a[i] = 0 := by simp [cF, kA, k0]
     refine Ar.exact ?_ ?_ ?_
     · show -9223372036854775808 ≤ (i : Int) + 1;omega
     · show (i : Int) + 1 ≤ 9223372036854775807;omega
     cbv;refine aP.by (i + 1) ?_ ?_ ?_
     · show a.length - (i + 1) < a.length - i;omega
     · exact h2
     · cbv
       repeat' first | exact trivial | refine ⟨rfl, ?_⟩ | fail
       refine ⟨?_, ?_⟩
       · exact l9 (cF c) h2 hz
       repeat' first | exact trivial | refine ⟨rfl, ?_⟩ | fail
   have k0 : (a[i].ak == c) = true := by simpa using k0
   refine ⟨a[i], by simp, get_cast a h2, ?_⟩;cbv;refine ag.by hP (da a[i].al 1 6) ?_;cbv;refine Br.split (fun k1 => ?_) (fun k1 => ?_) <;> cbv
   rotate_left
   · have k1 : aq a[i].al 1 6 = false := by simpa using k1
     have hz : cF c a[i] = 0 := by simp [cF, kA, k0, k1]
     refine Ar.exact ?_ ?_ ?_
     · show -9223372036854775808 ≤ (i : Int) + 1;omega
     · show (i : Int) + 1 ≤ 9223372036854775807;omega
     cbv;refine aP.by (i + 1) ?_ ?_ ?_
     · show a.length - (i + 1) < a.length - i;omega
     · exact h2
     · cbv
       repeat' first | exact trivial | refine ⟨rfl, ?_⟩ | fail
       refine ⟨?_, ?_⟩
       · exact l9 (cF c) h2 hz
       repeat' first | exact trivial | refine ⟨rfl, ?_⟩ | fail
   have k1 : aq a[i].al 1 6 = true := by simpa using k1
   have hq := bO k1;have hz : ((cF c a[i] : Nat) : Int) = a[i].al := by simp [cF, kA, k0, k1]; omega
   refine ⟨a[i], by simp, get_cast a h2, ?_⟩;cbv;refine Ar.exact ?_ ?_ ?_
   · show -9223372036854775808 ≤ ((af (cF c) (a.take i) : Nat) : Int) + a[i].al;omega
   · show ((af (cF c) (a.take i) : Nat) : Int) + a[i].al ≤ 9223372036854775807;omega
   cbv;refine Ar.exact ?_ ?_ ?_
   · show -9223372036854775808 ≤ (i : Int) + 1;omega
   · show (i : Int) + 1 ≤ 9223372036854775807;omega
   cbv;refine aP.by (i + 1) ?_ ?_ ?_
   · show a.length - (i + 1) < a.length - i;omega
   · exact h2
   · cbv
     repeat' first | exact trivial | refine ⟨rfl, ?_⟩ | fail
     refine ⟨?_, ?_⟩
     · exact tA (cF c) h2 hz
     repeat' first | exact trivial | refine ⟨rfl, ?_⟩ | fail
theorem Bk (a : List aw) (c : Int) (hn : a.length ≤ bc) : Spec Tryz.prog 142 [lA .aG a, iA c] (aE (nR fun _ => af (bU c) a)) := by
 refine ay au Tryz.func142 rfl rfl (fr := true) (fun _ => by kernel_rfl) fun P hP hA => ?_;have rG : a.length ≤ 1048576 := hn;cbv;refine aU.by (X := Nat) (fun i => [(1, iA c), (5, nT fun _ => af (bU c) (a.take i)), (8, lA .aG a), (9, nT fun _ => a.length), (10, nT fun _ => i)]) (fun _ => []) (fun i => i ≤ a.length) (fun i _ => a.length - i) 0 (Nat.zero_le _) ?_ ?_
 · cbv
   repeat' first | exact trivial | refine ⟨rfl, ?_⟩ | fail
 · intro i hi;have hle := Ga c a hn i;cbv;refine Br.dec (fun h2 => ?_) (fun h2 => ?_) <;> cbv
   rotate_left
   · have h2 : a.length ≤ i := by simp at h2; omega
     refine ⟨?_, trivial⟩;show ((af (bU c) (a.take i) : Nat) : Int) = ((af (bU c) a : Nat) : Int);rw [List.take_of_length_le h2]
   have h2 : i < a.length := by simpa using h2
   refine ⟨a[i], by simp, get_cast a h2, ?_⟩;cbv;refine Br.split (fun k0 => ?_) (fun k0 => ?_) <;> cbv
   rotate_left
   · have k0 : (a[i].ah == c) = false := by simpa using k0
     have hz : bU c a[i] = 0 := by simp [bU, k0]
     refine Ar.exact ?_ ?_ ?_
     · show -9223372036854775808 ≤ (i : Int) + 1;omega
     · show (i : Int) + 1 ≤ 9223372036854775807;omega
     cbv;refine aP.by (i + 1) ?_ ?_ ?_
     · show a.length - (i + 1) < a.length - i;omega
     · exact h2
     · cbv
       repeat' first | exact trivial | refine ⟨rfl, ?_⟩ | fail
       refine ⟨?_, ?_⟩
       · exact l9 (bU c) h2 hz
       repeat' first | exact trivial | refine ⟨rfl, ?_⟩ | fail
   have k0 : (a[i].ah == c) = true := by simpa using k0
   have hz : ((bU c a[i] : Nat) : Int) = 1 := by simp [bU, k0]
   refine Ar.exact ?_ ?_ ?_
   · show -9223372036854775808 ≤ ((af (bU c) (a.take i) : Nat) : Int) + 1;omega
   · show ((af (bU c) (a.take i) : Nat) : Int) + 1 ≤ 9223372036854775807;omega
   cbv;refine Ar.exact ?_ ?_ ?_
   · show -9223372036854775808 ≤ (i : Int) + 1;omega
   · show (i : Int) + 1 ≤ 9223372036854775807;omega
   cbv;refine aP.by (i + 1) ?_ ?_ ?_
   · show a.length - (i + 1) < a.length - i;omega
   · exact h2
   · cbv
     repeat' first | exact trivial | refine ⟨rfl, ?_⟩ | fail
     refine ⟨?_, ?_⟩
     · exact tA (bU c) h2 hz
     repeat' first | exact trivial | refine ⟨rfl, ?_⟩ | fail
theorem M9 (a : List aw) (c : Int) (hn : a.length ≤ bc) : Spec Tryz.prog 252 [lA .aG a, iA c] (aE (nR fun _ => af (cz c) a)) := by
 refine ay au Tryz.func252 rfl rfl (fr := true) (fun _ => by kernel_rfl) fun P hP hA => ?_;have rG : a.length ≤ 1048576 := hn;cbv;refine aU.by (X := Nat) (fun i => [(1, iA c), (5, nT fun _ => af (cz c) (a.take i)), (8, lA .aG a), (9, nT fun _ => a.length), (10, nT fun _ => i)]) (fun _ => []) (fun i => i ≤ a.length) (fun i _ => a.length - i) 0 (Nat.zero_le _) ?_ ?_
 · cbv
   repeat' first | exact trivial | refine ⟨rfl, ?_⟩ | fail
 · intro i hi;have hle := Gb c a hn i;cbv;refine Br.dec (fun h2 => ?_) (fun h2 => ?_) <;> cbv
   rotate_left
   · have h2 : a.length ≤ i := by simp at h2; omega
     refine ⟨?_, trivial⟩;show ((af (cz c) (a.take i) : Nat) : Int) = ((af (cz c) a : Nat) : Int);rw [List.take_of_length_le h2]
   have h2 : i < a.length := by simpa using h2
   refine ⟨a[i], by simp, get_cast a h2, ?_⟩;cbv;refine Br.split (fun k0 => ?_) (fun k0 => ?_) <;> cbv
   rotate_left
   · have k0 : (a[i].st == 2) = false := by simpa using k0
     have hz : cz c a[i] = 0 := by simp [cz, l_, k0]
     refine Ar.exact ?_ ?_ ?_
     · show -9223372036854775808 ≤ (i : Int) + 1;omega
     · show (i : Int) + 1 ≤ 9223372036854775807;omega
     cbv;refine aP.by (i + 1) ?_ ?_ ?_
     · show a.length - (i + 1) < a.length - i;omega
     · exact h2
     · cbv
       repeat' first | exact trivial | refine ⟨rfl, ?_⟩ | fail
       refine ⟨?_, ?_⟩
       · exact l9 (cz c) h2 hz
       repeat' first | exact trivial | refine ⟨rfl, ?_⟩ | fail
   have k0 : (a[i].st == 2) = true := by simpa using k0
   refine Br.split (fun k1 => ?_) (fun k1 => ?_) <;> cbv
   rotate_left
   · have k1 : (a[i].ah == c) = false := by simpa using k1
     have hz : cz c a[i] = 0 := by simp [cz, l_, k0, k1]
     refine Ar.exact ?_ ?_ ?_
     · show -9223372036854775808 ≤ (i : Int) + 1;omega
     · show (i : Int) + 1 ≤ 9223372036854775807;omega
     cbv;refine aP.by (i + 1) ?_ ?_ ?_
     · show a.length - (i + 1) < a.length - i;omega
     · exact h2
     · cbv
       repeat' first | exact trivial | refine ⟨rfl, ?_⟩ | fail
       refine ⟨?_, ?_⟩
       · exact l9 (cz c) h2 hz
       repeat' first | exact trivial | refine ⟨rfl, ?_⟩ | fail
   have k1 : (a[i].ah == c) = true := by simpa using k1
   refine ag.by hP (cW a[i].al 1 6) ?_;cbv;refine Br.split (fun k2 => ?_) (fun k2 => ?_) <;> cbv
   rotate_left
   · have k2 : aq a[i].al 1 6 = false := by simpa using k2
     have hz : cz c a[i] = 0 := by simp [cz, l_, k0, k1, k2]
     refine Ar.exact ?_ ?_ ?_
     · show -9223372036854775808 ≤ (i : Int) + 1;omega
     · show (i : Int) + 1 ≤ 9223372036854775807;omega
     cbv;refine aP.by (i + 1) ?_ ?_ ?_
     · show a.length - (i + 1) < a.length - i;omega
     · exact h2
     · cbv
       repeat' first | exact trivial | refine ⟨rfl, ?_⟩ | fail
       refine ⟨?_, ?_⟩
       · exact l9 (cz c) h2 hz
       repeat' first | exact trivial | refine ⟨rfl, ?_⟩ | fail
   have k2 : aq a[i].al 1 6 = true := by simpa using k2
   have hq := bO k2;have hz : ((cz c a[i] : Nat) : Int) = a[i].al := by simp [cz, l_, k0, k1, k2]; omega
   refine Ar.exact ?_ ?_ ?_
   · show -9223372036854775808 ≤ ((af (cz c) (a.take i) : Nat) : Int) + a[i].al;omega
   · show ((af (cz c) (a.take i) : Nat) : Int) + a[i].al ≤ 9223372036854775807;omega
   cbv;refine Ar.exact ?_ ?_ ?_
   · show -9223372036854775808 ≤ (i : Int) + 1;omega
   · show (i : Int) + 1 ≤ 9223372036854775807;omega
   cbv;refine aP.by (i + 1) ?_ ?_ ?_
   · show a.length - (i + 1) < a.length - i;omega
   · exact h2
   · cbv
     repeat' first | exact trivial | refine ⟨rfl, ?_⟩ | fail
     refine ⟨?_, ?_⟩
     · exact tA (cz c) h2 hz
     repeat' first | exact trivial | refine ⟨rfl, ?_⟩ | fail
theorem M_ (a : List aw) (c : Int) (hn : a.length ≤ bc) : Spec Tryz.prog 253 [lA .aG a, iA c] (aE (nR fun _ => af (cF c) a)) := by
 refine ay au Tryz.func253 rfl rfl (fr := true) (fun _ => by kernel_rfl) fun P hP hA => ?_;have rG : a.length ≤ 1048576 := hn;cbv;refine aU.by (X := Nat) (fun i => [(1, iA c), (5, nT fun _ => af (cF c) (a.take i)), (8, lA .aG a), (9, nT fun _ => a.length), (10, nT fun _ => i)]) (fun _ => []) (fun i => i ≤ a.length) (fun i _ => a.length - i) 0 (Nat.zero_le _) ?_ ?_
 · cbv
   repeat' first | exact trivial | refine ⟨rfl, ?_⟩ | fail
 · intro i hi;have hle := Gc c a hn i;cbv;refine Br.dec (fun h2 => ?_) (fun h2 => ?_) <;> cbv
   rotate_left
   · have h2 : a.length ≤ i := by simp at h2; omega
     refine ⟨?_, trivial⟩;show ((af (cF c) (a.take i) : Nat) : Int) = ((af (cF c) a : Nat) : Int);rw [List.take_of_length_le h2]
   have h2 : i < a.length := by simpa using h2
   refine ⟨a[i], by simp, get_cast a h2, ?_⟩;cbv;refine Br.split (fun k0 => ?_) (fun k0 => ?_) <;> cbv
   rotate_left
   · have k0 : (a[i].ak == c) = false := by simpa using k0
     have hz : cF c a[i] = 0 := by simp [cF, kA, k0]
     refine Ar.exact ?_ ?_ ?_
     · show -9223372036854775808 ≤ (i : Int) + 1;omega
     · show (i : Int) + 1 ≤ 9223372036854775807;omega
     cbv;refine aP.by (i + 1) ?_ ?_ ?_
     · show a.length - (i + 1) < a.length - i;omega
     · exact h2
     · cbv
       repeat' first | exact trivial | refine ⟨rfl, ?_⟩ | fail
       refine ⟨?_, ?_⟩
       · exact l9 (cF c) h2 hz
       repeat' first | exact trivial | refine ⟨rfl, ?_⟩ | fail
   have k0 : (a[i].ak == c) = true := by simpa using k0
   refine ag.by hP (cW a[i].al 1 6) ?_;cbv;refine Br.split (fun k1 => ?_) (fun k1 => ?_) <;> cbv
   rotate_left
   · have k1 : aq a[i].al 1 6 = false := by simpa using k1
     have hz : cF c a[i] = 0 := by simp [cF, kA, k0, k1]
     refine Ar.exact ?_ ?_ ?_
     · show -9223372036854775808 ≤ (i : Int) + 1;omega
     · show (i : Int) + 1 ≤ 9223372036854775807;omega
     cbv;refine aP.by (i + 1) ?_ ?_ ?_
     · show a.length - (i + 1) < a.length - i;omega
     · exact h2
     · cbv
       repeat' first | exact trivial | refine ⟨rfl, ?_⟩ | fail
       refine ⟨?_, ?_⟩
       · exact l9 (cF c) h2 hz
       repeat' first | exact trivial | refine ⟨rfl, ?_⟩ | fail
   have k1 : aq a[i].al 1 6 = true := by simpa using k1
   have hq := bO k1;have hz : ((cF c a[i] : Nat) : Int) = a[i].al := by simp [cF, kA, k0, k1]; omega
   refine Ar.exact ?_ ?_ ?_
   · show -9223372036854775808 ≤ ((af (cF c) (a.take i) : Nat) : Int) + a[i].al;omega
   · show ((af (cF c) (a.take i) : Nat) : Int) + a[i].al ≤ 9223372036854775807;omega
   cbv;refine Ar.exact ?_ ?_ ?_
   · show -9223372036854775808 ≤ (i : Int) + 1;omega
   · show (i : Int) + 1 ≤ 9223372036854775807;omega
   cbv;refine aP.by (i + 1) ?_ ?_ ?_
   · show a.length - (i + 1) < a.length - i;omega
   · exact h2
   · cbv
     repeat' first | exact trivial | refine ⟨rfl, ?_⟩ | fail
     refine ⟨?_, ?_⟩
     · exact tA (cF c) h2 hz
     repeat' first | exact trivial | refine ⟨rfl, ?_⟩ | fail
theorem Na (a b : Int) : Spec Tryz.prog 284 [iA a, iA b] (aE (iR fun _ => if a > b then a else b)) := by
 refine ay au Tryz.func284 rfl rfl (fr := true) (fun _ => by kernel_rfl) fun P hP hA => ?_;cbv;refine Br.dec (fun h => ?_) (fun h => ?_) <;> cbv
 · refine ⟨?_, trivial⟩;rw [if_pos h]
 · refine ⟨?_, trivial⟩;rw [if_neg h]
def lvl (R : bI) (aJ waited : Int) : Int := if 0 > aJ - waited.tdiv R.period then 0 else aJ - waited.tdiv R.period
theorem Bl {a b : Int} (h0 : 0 ≤ a) (h1 : a ≤ 1000000) (h2 : 1 ≤ b) : 0 ≤ a.tdiv b ∧ a.tdiv b ≤ 1000000 :=
 ⟨Int.tdiv_nonneg h0 (by omega), Int.le_trans (Int.tdiv_le_self b h0) h1⟩
theorem Nb (R : bI) (aJ waited : Int) (h0 : 0 ≤ waited) (h1 : waited ≤ 1000000) (h2 : 0 ≤ aJ) (h3 : aJ ≤ 10) (h4 : 1 ≤ R.period) : Spec Tryz.prog 267 [gM R, iA aJ, iA waited] (aE (iR fun _ => lvl R aJ waited)) := by
 refine ay au Tryz.func267 rfl rfl (fr := true) (fun _ => by kernel_rfl) fun P hP hA => ?_;obtain ⟨q0, q1⟩ := Bl h0 h1 h4;cbv;refine ⟨by show R.period ≠ 0; omega, ?_⟩;cbv;refine Ar.exact (t := fun _ => waited.tdiv R.period) ?_ ?_ ?_
 · show -9223372036854775808 ≤ waited.tdiv R.period;omega
 · show waited.tdiv R.period ≤ 9223372036854775807;omega
 cbv;refine Ar.exact (t := fun _ => aJ - waited.tdiv R.period) ?_ ?_ ?_
 · show -9223372036854775808 ≤ aJ - waited.tdiv R.period;omega
 · show aJ - waited.tdiv R.period ≤ 9223372036854775807;omega
 refine ag.dL hP (Na 0 (aJ - waited.tdiv R.period)) rfl ?_;cbv
 repeat' first | exact trivial | refine ⟨rfl, ?_⟩ | fail
theorem Gd (a : Int) : Spec Tryz.prog 240 [iA a] (aE (bR fun _ => false)) := by
 refine ay au Tryz.func240 rfl rfl (fr := true) (fun _ => by kernel_rfl) fun P hP hA => ?_;cbv;refine ⟨?_, trivial⟩;simp
def kB (a b : Int) : Int := if a < b then -1 else if a > b then 1 else 0
theorem yg (a b : Int) : Spec Tryz.prog 186 [iA a, iA b] (aE (iR fun _ => kB a b)) := by
 refine ay au Tryz.func186 rfl rfl (fr := true) (fun _ => by kernel_rfl) fun P hP hA => ?_;cbv;refine ag.by hP (Gd a) ?_;cbv;refine ag.by hP (Gd b) ?_;cbv
 repeat' first
  | (refine Br.split (fun h => ?_) (fun h => ?_) <;> cbv)
 all_goals refine ⟨?_, trivial⟩
 all_goals (unfold kB; repeat' split)
 all_goals first
  | rfl
  | (exfalso; simp_all; done)
  | (exfalso; simp_all; omega)
theorem Nc (R : bI) (aJ waited : Int) (hs : R.aj.length ≤ bc) (hr : cX R = true) (h0 : 0 ≤ waited) (h1 : waited ≤ 1000000) (ht : aq aJ 0 (R.cn - 1) = true) : Spec Tryz.prog 245 [gM R, iA aJ, iA waited] (aE (iR fun _ => lvl R aJ waited)) := by
 refine ay au Tryz.func245 rfl rfl (fr := true) (fun _ => by kernel_rfl) fun P hP hA => ?_;have hg := fo hr;obtain ⟨p1, p2⟩ := hg.period;obtain ⟨t1, t2⟩ := hg.cn;obtain ⟨u1, u2⟩ := bO ht;obtain ⟨q0, q1⟩ := Bl h0 h1 p1;cbv;refine ag.by hP (Bh R hs (cX R) rfl) ?_;cbv;refine Br.split (fun k0 => ?_) (fun k0 => ?_) <;> cbv
 · rw [hr] at k0; cases k0
 refine ag.by hP (nM aJ R.cn (by omega) (by omega)) ?_;cbv;refine Br.split (fun k1 => ?_) (fun k1 => ?_) <;> cbv
 · rw [ht] at k1; cases k1
 refine Br.dec (fun k2 => ?_) (fun k2 => ?_) <;> cbv
 · exfalso;have k2 : waited < 0 := k2;omega
 refine ⟨by show R.period ≠ 0; omega, ?_⟩;cbv;refine Ar.exact (t := fun _ => waited.tdiv R.period) ?_ ?_ ?_
 · show -9223372036854775808 ≤ waited.tdiv R.period;omega
 · show waited.tdiv R.period ≤ 9223372036854775807;omega
 cbv;refine Ar.exact (t := fun _ => aJ - waited.tdiv R.period) ?_ ?_ ?_
 · show -9223372036854775808 ≤ aJ - waited.tdiv R.period;omega
 · show aJ - waited.tdiv R.period ≤ 9223372036854775807;omega
 cbv;refine ⟨?_, trivial⟩;show (if aJ - waited.tdiv R.period > 0 then aJ - waited.tdiv R.period else 0) = lvl R aJ waited;unfold lvl
 split <;> split <;> omega
structure Nd (R : bI) (p : aw) (now : Int) : Prop where
 rules : cX R = true
 rH : 0 ≤ now ∧ now ≤ 1000000
 al : 1 ≤ p.al ∧ p.al ≤ R.size
 aJ : aq p.aJ 0 (R.cn - 1) = true
 since : 0 ≤ p.since ∧ p.since ≤ now
theorem qo {R : bI} {p : aw} {now : Int} (h : bD R p now = true) : Nd R p now := by
 simp only [bD, Bool.and_eq_true] at h;obtain ⟨h1, h2, _, _, _, _, h3, h4, h5, _⟩ := h;exact ⟨h1, bO h2, bO h3, h4, bO h5⟩
def ma (R : bI) (p : aw) (now : Int) : Int := if bD R p now = true then lvl R p.aJ (now - p.since) else -1
theorem Nf (R : bI) (p : aw) (now : Int) (hs : R.aj.length ≤ bc) (x : Int) (hx : x = ma R p now) : Spec Tryz.prog 254 [gM R, eA .aG p, iA now] (aE (iR fun _ => x)) := by
 refine ay au Tryz.func254 rfl rfl (fr := true) (fun _ => by kernel_rfl) fun P hP hA => ?_;cbv;refine ag.by hP (Bi R p now hs (bD R p now) rfl) ?_;cbv;refine Br.split (fun k0 => ?_) (fun k0 => ?_) <;> cbv
 · have k0 : bD R p now = false := by simpa using k0
   obtain rfl : x = -1 := hx.trans (if_neg (by rw [k0]; simp))
   repeat' first | exact trivial | refine ⟨rfl, ?_⟩ | fail
 have k0 : bD R p now = true := by simpa using k0
 obtain rfl : x = lvl R p.aJ (now - p.since) := hx.trans (if_pos k0);have hp := qo k0;have hr := fo hp.rules;obtain ⟨a1, a2⟩ := hp.rH;obtain ⟨b1, b2⟩ := hp.since;obtain ⟨c1, c2⟩ := hr.cn;obtain ⟨d1, d2⟩ := hr.period;obtain ⟨e1, e2⟩ := bO hp.aJ;refine Ar.exact (t := fun _ => now - p.since) ?_ ?_ ?_
 · show -9223372036854775808 ≤ now - p.since;omega
 · show now - p.since ≤ 9223372036854775807;omega
 cbv;refine ag.by hP (Nb R p.aJ (now - p.since) (by omega) (by omega) (by omega) (by omega) (by omega)) ?_;cbv
 repeat' first | exact trivial | refine ⟨rfl, ?_⟩ | fail
theorem Ng (R : bI) (p : aw) (now : Int) (hs : R.aj.length ≤ bc) (x : Int) (hx : x = ma R p now) : Spec Tryz.prog 201 [gM R, eA .aG p, iA now] (aE (iR fun _ => x)) := by
 refine ay au Tryz.func201 rfl rfl (fr := true) (fun _ => by kernel_rfl) fun P hP hA => ?_;cbv;refine ag.by hP (yf R p now hs (bD R p now) rfl) ?_;cbv;refine Br.split (fun k0 => ?_) (fun k0 => ?_) <;> cbv
 · have k0 : bD R p now = false := by simpa using k0
   obtain rfl : x = -1 := hx.trans (if_neg (by rw [k0]; simp))
   repeat' first | exact trivial | refine ⟨rfl, ?_⟩ | fail
 have k0 : bD R p now = true := by simpa using k0
 obtain rfl : x = lvl R p.aJ (now - p.since) := hx.trans (if_pos k0);have hp := qo k0;have hr := fo hp.rules;obtain ⟨a1, a2⟩ := hp.rH;obtain ⟨b1, b2⟩ := hp.since;obtain ⟨c1, c2⟩ := hr.cn;obtain ⟨d1, d2⟩ := hr.period;obtain ⟨e1, e2⟩ := bO hp.aJ;refine Ar.exact (t := fun _ => now - p.since) ?_ ?_ ?_
 · show -9223372036854775808 ≤ now - p.since;omega
 · show now - p.since ≤ 9223372036854775807;omega
 cbv;refine ag.by hP (Nc R p.aJ (now - p.since) hs hp.rules (by omega) (by omega) hp.aJ) ?_;cbv
 repeat' first | exact trivial | refine ⟨rfl, ?_⟩ | fail
theorem Ge (R : bI) (t w : Int) : 0 ≤ lvl R t w := by
 unfold lvl; split <;> omega
theorem Nh {R : bI} {p : aw} {now : Int} (h : bD R p now = true) : 0 ≤ ma R p now := by
 rw [ma, if_pos h]; exact Ge _ _ _
theorem Ni {R : bI} {p : aw} {now : Int} (h : bD R p now = false) : ma R p now = -1 := by
 rw [ma, if_neg (by rw [h]; simp)]
def eQ (R : bI) (p : aw) (now : Int) : Bool := bD R p now && p.st == 1
def kC (R : bI) (p : aw) (now : Int) : Entry := ⟨ma R p now, p.aC, p.id, p.al⟩
def dw (R : bI) (p : aw) (now : Int) : Entry := if eQ R p now = true then kC R p now else default
def Gf (x : Unit → Entry) : List Sh := [.int .i64 fun _ => (x ()).lvl, .int .i64 fun _ => (x ()).aC, .int .i64 fun _ => (x ()).aV, .int .i64 fun _ => (x ()).al]
theorem Gg (R : bI) (p : aw) (now : Int) (hs : R.aj.length ≤ bc) (x : Entry) (hx : x = dw R p now) (b : Bool) (hb : b = eQ R p now) : Spec Tryz.prog 212 [gM R, eA .aG p, iA now] (aE (.aT [(true, Gf fun _ => x), (false, [.bool fun _ => b])])) := by
 refine ay au Tryz.func212 rfl rfl (fr := true) (fun _ => by kernel_rfl) fun P hP hA => ?_;cbv;refine ag.by hP (Nf R p now hs (ma R p now) rfl) ?_;cbv;refine Br.dec (fun k0 => ?_) (fun k0 => ?_) <;> cbv
 · have k0 : ma R p now < 0 := k0
   have e : eQ R p now = false := by
     rcases hq : bD R p now with _ | _
     · simp [eQ, hq]
     · have := Nh hq;omega
   obtain rfl : b = false := hb.trans e;obtain rfl : x = default := hx.trans (if_neg (by rw [e]; simp))
   repeat' first | exact trivial | refine ⟨rfl, ?_⟩ | fail
 have k0 : ¬ ma R p now < 0 := k0
 have hq : bD R p now = true := by
   rcases hq : bD R p now with _ | _
   · have := Ni hq;omega
   · rfl
 refine Br.split (fun k1 => ?_) (fun k1 => ?_) <;> cbv
 · have e : eQ R p now = false := by simp_all [eQ]
   obtain rfl : b = false := hb.trans e;obtain rfl : x = default := hx.trans (if_neg (by rw [e]; simp))
   repeat' first | exact trivial | refine ⟨rfl, ?_⟩ | fail
 have e : eQ R p now = true := by simp_all [eQ]
 obtain rfl : b = true := hb.trans e;obtain rfl : x = kC R p now := hx.trans (if_pos e)
 repeat' first | exact trivial | refine ⟨rfl, ?_⟩ | fail
theorem Bm (R : bI) (p : aw) (now : Int) (hs : R.aj.length ≤ bc) (x : Entry) (hx : x = dw R p now) (b : Bool) (hb : b = eQ R p now) : Spec Tryz.prog 130 [gM R, eA .aG p, iA now] (aE (.aT [(true, Gf fun _ => x), (false, [.bool fun _ => b])])) := by
 refine ay au Tryz.func130 rfl rfl (fr := true) (fun _ => by kernel_rfl) fun P hP hA => ?_;cbv;refine ag.by hP (yf R p now hs (bD R p now) rfl) ?_;cbv;refine Br.split (fun k0 => ?_) (fun k0 => ?_) <;> cbv
 · have e : eQ R p now = false := by simp_all [eQ]
   obtain rfl : b = false := hb.trans e;obtain rfl : x = default := hx.trans (if_neg (by rw [e]; simp))
   repeat' first | exact trivial | refine ⟨rfl, ?_⟩ | fail
 refine Br.split (fun k1 => ?_) (fun k1 => ?_) <;> cbv
 · have e : eQ R p now = false := by simp_all [eQ]
   obtain rfl : b = false := hb.trans e;obtain rfl : x = default := hx.trans (if_neg (by rw [e]; simp))
   repeat' first | exact trivial | refine ⟨rfl, ?_⟩ | fail
 have e : eQ R p now = true := by simp_all [eQ]
 obtain rfl : b = true := hb.trans e;obtain rfl : x = kC R p now := hx.trans (if_pos e);refine ag.by hP (Ng R p now hs (ma R p now) rfl) ?_;cbv
 repeat' first | exact trivial | refine ⟨rfl, ?_⟩ | fail
theorem Gh (a b : Entry) : Spec Tryz.prog 255 [eA .aH a, eA .aH b] (aE (bR fun _ => bp a b)) := by
 refine ay au Tryz.func255 rfl rfl (fr := true) (fun _ => by kernel_rfl) fun P hP hA => ?_;cbv
 repeat' first
  | (refine Br.split (fun h => ?_) (fun h => ?_) <;> cbv)
  | fail
 all_goals refine ⟨?_, trivial⟩
 all_goals simp_all [bp]
theorem Gi (a b : Entry) : Spec Tryz.prog 223 [eA .aH a, eA .aH b] (aE (iR fun _ => if bp a b = true then -1 else if bp b a = true then 1 else 0)) := by
 refine ay au Tryz.func223 rfl rfl (fr := true) (fun _ => by kernel_rfl) fun P hP hA => ?_;cbv;refine ag.by hP (yg a.lvl b.lvl) ?_;cbv;refine Br.split (fun h => ?_) (fun h => ?_) <;> cbv
 · refine ⟨?_, trivial⟩;have h : (kB a.lvl b.lvl != 0) = true := h;show kB a.lvl b.lvl = _;unfold kB bp at *
   repeat' split at *
   all_goals simp_all <;> omega
 · refine ag.by hP (yg a.aC b.aC) ?_;cbv;refine ⟨?_, trivial⟩;have h : (kB a.lvl b.lvl != 0) = false := h;show kB a.aC b.aC = _;unfold kB bp at *
   repeat' split at *
   all_goals simp_all <;> omega
theorem Gj (a b : Entry) : Spec Tryz.prog 202 [eA .aH a, eA .aH b] (aE (bR fun _ => bp a b)) := by
 refine ay au Tryz.func202 rfl rfl (fr := true) (fun _ => by kernel_rfl) fun P hP hA => ?_;cbv;refine ag.by hP (Gi a b) ?_;cbv;refine ⟨?_, trivial⟩;show decide ((if bp a b = true then (-1 : Int) else if bp b a = true then 1 else 0) < 0) = bp a b;cases h1 : bp a b <;> cases h2 : bp b a <;> simp
theorem Gk (a b : aB) : Spec Tryz.prog 235 [eA .aI a, eA .aI b] (aE (bR fun _ => bm a b)) := by
 refine ay au Tryz.func235 rfl rfl (fr := true) (fun _ => by kernel_rfl) fun P hP hA => ?_;cbv
 repeat' first
  | (refine Br.split (fun h => ?_) (fun h => ?_) <;> cbv)
  | fail
 all_goals refine ⟨?_, trivial⟩
 all_goals simp_all [bm]
theorem Bn (a b : aB) : Spec Tryz.prog 116 [eA .aI a, eA .aI b] (aE (iR fun _ => if bm a b = true then -1 else if bm b a = true then 1 else 0)) := by
 refine ay au Tryz.func116 rfl rfl (fr := true) (fun _ => by kernel_rfl) fun P hP hA => ?_;cbv;refine ag.by hP (yg a.tm b.tm) ?_;cbv;refine Br.split (fun h => ?_) (fun h => ?_) <;> cbv
 · refine ⟨?_, trivial⟩;have h : (kB a.tm b.tm != 0) = true := h;show kB a.tm b.tm = _;unfold kB bm at *
   repeat' split at *
   all_goals simp_all <;> omega
 · refine ag.by hP (yg a.pid b.pid) ?_;cbv;refine ⟨?_, trivial⟩;have h : (kB a.tm b.tm != 0) = false := h;show kB a.pid b.pid = _;unfold kB bm at *
   repeat' split at *
   all_goals simp_all <;> omega
def eC (p : aB) : Bool := aq p.tm 1 1000008 && aq p.pid 1 999
theorem Bo (p : aB) : Spec Tryz.prog 115 [eA .aI p] (aE (bR fun _ => eC p)) := by
 refine ay au Tryz.func115 rfl rfl (fr := true) (fun _ => by kernel_rfl) fun P hP hA => ?_;cbv
 repeat' first
  | (refine ag.by hP (cW p.tm 1 1000008) ?_; cbv)
  | (refine ag.by hP (cW p.pid 1 999) ?_; cbv)
  | (refine Br.split (fun h => ?_) (fun h => ?_) <;> cbv)
  | fail
 all_goals refine ⟨?_, trivial⟩
 all_goals simp_all [eC]
end Go.Proofs.YticeaiiffeccmaaGreat

