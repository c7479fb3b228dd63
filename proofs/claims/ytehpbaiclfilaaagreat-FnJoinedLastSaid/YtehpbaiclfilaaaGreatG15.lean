/- Parts of a proof. No conditions. -/

import Derived.Test.YtehpbaiclfilaaaGreatG14
set_option linter.unusedSimpArgs false
set_option linter.unusedVariables false
namespace Go.Proofs.YtehpbaiclfilaaaGreat
open Go
set_option maxRecDepth 100000
def sf (free : Int) (skip : List Int) (e : Entry) : Bool := decide (e.siz ≤ free) && !hasB skip e.bg
def lV (l : List Entry) (free : Int) (skip : List Int) : Int := hM (sf free skip) l
def iD (q : au → Bool) (l : List au) : List Int := (l.filter q).map fun p => p.id
def lW (h : ai) : List Int := iD (fun p => mw p h.now) h.ae
def vz (h : ai) (c : a_) : Int := if lV c.row c.ah.free (lW h) < 0 then 0 else ((c.row[(lV c.row c.ah.free (lW h)).toNat]?).getD default).bg
def eE (h : ai) (k : Int) : Int := if cC h k = true then vz h (aC h k) else 0
def jm (h : ai) : List Int := if aW h = true then iD (fun p => eT p h.now) h.ae else []
set_option maxHeartbeats 1000000 in
theorem qu (a b : ai) (ha : bh a) (hb : bh b) (r : Bool) (hr : r = jN a b) : Spec Tryz.prog 41 [dk a, dk b] (aE (bR fun _ => r)) := by
 refine aH ay Tryz.func41 rfl rfl (fr := true) (fun _ => by kernel_rfl) fun P hP hA => ?_;have QN : a.ae.length ≤ 1048576 := ha.2.1;have Co : a.cabins.length ≤ 1048576 := ha.2.2.1.1;have no : ¬ jN a b = true → r = false := fun q => by rw [hr]; simpa using q
 cbv
 repeat (refine Pz.mk ?_; cbv)
 refine ag.by hP (f_ a ha (aW a) rfl) ?_;cbv
 repeat (refine Pz.mk ?_; cbv)
 refine Br.split (fun q0 => ?_) (fun q0 => ?_) <;> (cbv; repeat (refine Pz.mk ?_; cbv))
 · refine ⟨?_, trivial⟩;have q0 : (!aW a) = true := q0;exact (no fun q => by simp only [jN, Bool.and_eq_true] at q; simp_all).symm
 have q0 : (!aW a) = false := q0;have q0 : aW a = true := by simpa using q0
 refine ag.by hP (f_ b hb (aW b) rfl) ?_;cbv
 repeat (refine Pz.mk ?_; cbv)
 refine Br.split (fun q1 => ?_) (fun q1 => ?_) <;> (cbv; repeat (refine Pz.mk ?_; cbv))
 · refine ⟨?_, trivial⟩;have q1 : (!aW b) = true := q1;exact (no fun q => by simp only [jN, Bool.and_eq_true] at q; simp_all).symm
 have q1 : (!aW b) = false := q1;have q1 : aW b = true := by simpa using q1
 refine ag.by hP (ER a.rules b.rules (mI a.rules b.rules) rfl) ?_;cbv
 repeat (refine Pz.mk ?_; cbv)
 refine Br.split (fun q2 => ?_) (fun q2 => ?_) <;> (cbv; repeat (refine Pz.mk ?_; cbv))
 · refine ⟨?_, trivial⟩;have q2 : (!mI a.rules b.rules) = true := q2;exact (no fun q => by simp only [jN, Bool.and_eq_true] at q; simp_all).symm
 have q2 : (!mI a.rules b.rules) = false := q2;have q2 : mI a.rules b.rules = true := by simpa using q2
 refine Br.split (fun q3 => ?_) (fun q3 => ?_) <;> (cbv; repeat (refine Pz.mk ?_; cbv))
 · refine ⟨?_, trivial⟩;have q3 : (a.now != b.now) = true := q3;exact (no fun q => by simp only [jN, Bool.and_eq_true] at q; simp_all).symm
 have q3 : (a.now != b.now) = false := q3;have q3 : (a.now == b.now) = true := by simpa using q3
 refine Br.split (fun q4 => ?_) (fun q4 => ?_) <;> (cbv; repeat (refine Pz.mk ?_; cbv))
 · refine ⟨?_, trivial⟩;have q4 : (a.aw != b.aw) = true := q4;exact (no fun q => by simp only [jN, Bool.and_eq_true] at q; simp_all).symm
 have q4 : (a.aw != b.aw) = false := q4;have q4 : (a.aw == b.aw) = true := by simpa using q4
 refine Br.split (fun q5 => ?_) (fun q5 => ?_) <;> (cbv; repeat (refine Pz.mk ?_; cbv))
 · refine ⟨?_, trivial⟩;have q5 := rQ (a := a.ae) (b := b.ae) q5;exact (no fun q => by simp only [jN, Bool.and_eq_true, decide_eq_true_eq] at q; exact q5 q.2.2.2.2.2.1).symm
 have q5 := rP (a := a.ae) (b := b.ae) q5;refine ag.by hP (vT a.todo b.todo) ?_;cbv
 repeat (refine Pz.mk ?_; cbv)
 refine Br.split (fun q6 => ?_) (fun q6 => ?_) <;> (cbv; repeat (refine Pz.mk ?_; cbv))
 · refine ⟨?_, trivial⟩;have q6 : (!decide (a.todo = b.todo)) = true := q6;exact (no fun q => by simp only [jN, Bool.and_eq_true] at q; simp_all).symm
 have q6 : (!decide (a.todo = b.todo)) = false := q6;have q6 : decide (a.todo = b.todo) = true := by simpa using q6
 refine ag.by hP (vT a.aN b.aN) ?_;cbv
 repeat (refine Pz.mk ?_; cbv)
 refine Br.split (fun q7 => ?_) (fun q7 => ?_) <;> (cbv; repeat (refine Pz.mk ?_; cbv))
 · refine ⟨?_, trivial⟩;have q7 : (!decide (a.aN = b.aN)) = true := q7;exact (no fun q => by simp only [jN, Bool.and_eq_true] at q; simp_all).symm
 have q7 : (!decide (a.aN = b.aN)) = false := q7;have q7 : decide (a.aN = b.aN) = true := by simpa using q7
 refine aT.by (X := Nat) (fun i => [(2, pN 0), (3, pN 1), (5, nT fun _ => i)]) (fun _ => [(0, .box (iq a)), (1, .box (iq b))]) (fun i => i ≤ a.ae.length ∧ a.ae.take i = b.ae.take i) (fun i _ => a.ae.length - i) 0 ⟨Nat.zero_le _, by simp⟩ ?_ ?_
 · cbv
   repeat (refine Pz.mk ?_; cbv)
   repeat' first | exact trivial | refine ⟨rfl, ?_⟩ | fail
 · intro i ⟨hi, ht⟩;cbv
   repeat (refine Pz.mk ?_; cbv)
   refine Br.dec (fun h2 => ?_) (fun h2 => ?_) <;> (cbv; repeat (refine Pz.mk ?_; cbv))
   · have h2 : i < a.ae.length := by simpa using h2
     have fZ : i < b.ae.length := q5 ▸ h2
     repeat' first
       | (refine Ix.mk a.ae[i] (by simp) (get_cast a.ae h2) ?_; cbv)
       | (refine Ix.mk b.ae[i] (by simp) (get_cast b.ae fZ) ?_; cbv)
       | (refine Pz.mk ?_; cbv)
       | (refine And.intro ?_ ?_)
       | fail
     all_goals
       refine Br.split (fun h3 => ?_) (fun h3 => ?_) <;> (cbv; repeat (refine Pz.mk ?_; cbv))
       · refine ⟨?_, trivial⟩;have := rN h2 fZ (fun he => by rw [he] at h3; simp at h3);exact (no fun q => by simp only [jN, Bool.and_eq_true, decide_eq_true_eq] at q; exact this q.2.2.2.2.2.1).symm
       · refine Ar.exact (by (try simp only [nc] at *); omega) (by (try simp only [nc] at *); omega) ?_;cbv
         repeat (refine Pz.mk ?_; cbv)
         refine aJ.by (i + 1) ?_ ?_ ?_
         · show a.ae.length - (i + 1) < a.ae.length - i;omega
         · refine ⟨h2, rM ht h2 fZ ?_⟩;simp only [Bool.not_eq_false', Bool.and_eq_true, beq_iff_eq, Bool.and_true] at h3;exact (by obtain ⟨g0, g1, g2, g3, g4, g5, g6, g7, g8, g9⟩ := h3; exact Eu g0 g1 g2 g3 g4 g5 g6 g7 g8 g9)
         · cbv
           repeat (refine Pz.mk ?_; cbv)
           repeat' first | exact trivial | refine ⟨rfl, ?_⟩ | fail
   have h2 : a.ae.length ≤ i := by simp at h2; omega
   have E3 := rO q5 h2 ht;refine aT.by (X := Nat) (fun i => [(2, pN 0), (3, pN 1), (6, nT fun _ => i)]) (fun _ => [(0, .box (iq a)), (1, .box (iq b))]) (fun i => i ≤ a.cabins.length ∧ ∀ (j : Nat) x, j < i → a.cabins[j]? = some x → ∀ y, b.cabins[j]? = some y → om x y = true) (fun i _ => a.cabins.length - i) 0 ⟨Nat.zero_le _, fun j y hj => by omega⟩ ?_ ?_
   · cbv
     repeat (refine Pz.mk ?_; cbv)
     repeat' first | exact trivial | refine ⟨rfl, ?_⟩ | fail
   · intro i ⟨hi, hn⟩;cbv
     repeat (refine Pz.mk ?_; cbv)
     refine Br.dec (fun h3 => ?_) (fun h3 => ?_) <;> (cbv; repeat (refine Pz.mk ?_; cbv))
     · have h3 : i < a.cabins.length := by simpa using h3
       have sE : i < b.cabins.length := by
         have e1 := (cI.1 q0).fy;have e2 := (cI.1 q1).fy;have e : a.rules = b.rules := by simpa [xW] using q2
         rw [e] at e1;omega
       repeat' first
         | (refine Ix.mk a.cabins[i] (by simp) (get_cast a.cabins h3) ?_; cbv)
         | (refine Ix.mk b.cabins[i] (by simp) (get_cast b.cabins sE) ?_; cbv)
         | (refine ag.by hP (EV a.cabins[i] b.cabins[i] (eC.cab ha.2.2.1 h3) (eC.cab hb.2.2.1 sE) (om a.cabins[i] b.cabins[i]) rfl) ?_; cbv)
         | (refine Pz.mk ?_; cbv)
         | (refine And.intro ?_ ?_)
         | fail
       all_goals
         refine Br.split (fun h4 => ?_) (fun h4 => ?_) <;> (cbv; repeat (refine Pz.mk ?_; cbv))
         · refine ⟨?_, trivial⟩;have h4 : om a.cabins[i] b.cabins[i] = false := by simpa using h4
           exact (no fun q => by
             simp only [jN, Bool.and_eq_true] at q;have q := q.2.2.2.2.2.2.2.2;rw [pd, EW h3 sE h4] at q;simp at q).symm
         · have h4 : om a.cabins[i] b.cabins[i] = true := by simpa using h4
           refine Ar.exact (by (try simp only [nc] at *); omega) (by (try simp only [nc] at *); omega) ?_;cbv
           repeat (refine Pz.mk ?_; cbv)
           refine aJ.by (i + 1) ?_ ?_ ?_
           · show a.cabins.length - (i + 1) < a.cabins.length - i;omega
           · refine ⟨h3, fun j x hj hx y hy => ?_⟩;rcases Nat.lt_or_ge j i with q | q
             · exact hn j x q hx y hy
             · obtain rfl : j = i := by omega
               rw [List.getElem?_eq_getElem h3] at hx;rw [List.getElem?_eq_getElem sE] at hy;cases hx; cases hy; exact h4
           · cbv
             repeat (refine Pz.mk ?_; cbv)
             repeat' first | exact trivial | refine ⟨rfl, ?_⟩ | fail
     · have h3 : a.cabins.length ≤ i := by simp at h3; omega
       refine ⟨?_, trivial⟩
       have hl : a.cabins.length = b.cabins.length := by
         have e1 := (cI.1 q0).fy;have e2 := (cI.1 q1).fy;have e : a.rules = b.rules := by simpa [xW] using q2
         rw [e] at e1;omega
       have e : pd a.cabins b.cabins = true := by
         rw [pd, decide_eq_true hl, xX hl fun j x hx y hy => hn j x (Nat.lt_of_lt_of_le (bq hx) h3) hx y hy]; rfl
       refine (hr.trans ?_).symm;simp only [jN, Bool.and_eq_true];exact ⟨q0, q1, q2, q3, q4, decide_eq_true E3, q6, q7, e⟩
end Go.Proofs.YtehpbaiclfilaaaGreat

