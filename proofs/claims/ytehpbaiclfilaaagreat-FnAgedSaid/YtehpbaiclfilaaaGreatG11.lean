/- Parts of a proof. No conditions. -/

import Derived.Test.YtehpbaiclfilaaaGreatG09
import Derived.Test.YtehpbaiclfilaaaGreatG10
set_option linter.unusedSimpArgs false
set_option linter.unusedVariables false
namespace Go.Proofs.YtehpbaiclfilaaaGreat
open Go
set_option maxRecDepth 100000
def bd (w : List (List aA)) : List aA := w.flatten
structure ln (w : List (List aA)) : Prop where
 len : w.length = 9
 dn : (bd w).length ≤ 10
 ok : ∀ p ∈ bd w, eZ p = true
 ne : (bd w).Pairwise fun a b => a.pid ≠ b.pid
 at_ : ∀ (k : Nat) l, w[k]? = some l → ∀ p ∈ l, p.tm.tmod 9 = (k : Int)
 fm : ∀ l ∈ w, l.Pairwise fun a b => bm a b = true
instance (w : List (List aA)) : Decidable (∀ (k : Nat) l, w[k]? = some l → ∀ p ∈ l, p.tm.tmod 9 = (k : Int)) :=
 decidable_of_iff (∀ k : Fin w.length, ∀ p ∈ w[k], p.tm.tmod 9 = (k.1 : Int)) ⟨fun h k l hl p hp => by
  have hk := bq hl;have := h ⟨k, hk⟩ p;rw [List.getElem?_eq_getElem hk] at hl;cases hl;exact this hp, fun h k p hp => h k.1 w[k] (List.getElem?_eq_getElem k.2) p hp⟩
instance (w : List (List aA)) : Decidable (ln w) :=
 decidable_of_iff (w.length = 9 ∧ (bd w).length ≤ 10 ∧ (∀ p ∈ bd w, eZ p = true) ∧ ((bd w).Pairwise fun a b => a.pid ≠ b.pid) ∧ (∀ (k : Nat) l, w[k]? = some l → ∀ p ∈ l, p.tm.tmod 9 = (k : Int)) ∧ ∀ l ∈ w, l.Pairwise fun a b => bm a b = true)
  ⟨fun ⟨a, b, c, d, e, f⟩ => ⟨a, b, c, d, e, f⟩, fun ⟨a, b, c, d, e, f⟩ => ⟨a, b, c, d, e, f⟩⟩
def br (w : List (List aA)) : Bool := decide (ln w)
def bC (w : List (List aA)) : List aA := if br w = true then dz bm (bd w) else []
theorem vp {w : List (List aA)} {i : Nat} (h : i < w.length) : (w.take (i + 1)).flatten = (w.take i).flatten ++ w[i] := by
 rw [List.take_add_one, List.getElem?_eq_getElem h, List.flatten_append]; simp
theorem DU {w : List (List aA)} (i : Nat) : (w.take i).flatten.length ≤ w.flatten.length := by
 have h : (w.take i ++ w.drop i).flatten = w.flatten := by rw [List.take_append_drop]
 rw [List.flatten_append] at h;have := congrArg List.length h;rw [List.length_append] at this;omega
theorem Qc {w : List (List aA)} (n : Nat) (h : ∀ x ∈ w, x.length ≤ n) : w.flatten.length ≤ w.length * n := by
 induction w with
 | nil => simp
 | cons a w ih =>
   have h1 := h a List.mem_cons_self;have h2 := ih fun x hx => h x (List.mem_cons_of_mem _ hx);simp only [List.flatten_cons, List.length_append, List.length_cons, Nat.add_mul];omega
def eC (w : List (List aA)) : Prop := w.length ≤ aR ∧ (bd w).length ≤ 1099511627776
theorem eC.of {w : List (List aA)} (h : w.length ≤ aR) (h1 : ∀ x ∈ w, x.length ≤ aR) : eC w := by
 refine ⟨h, Nat.le_trans (Qc _ h1) ?_⟩;exact Nat.mul_le_mul h (Nat.le_refl aR)
theorem Jc (w : List (List aA)) (hw : eC w) : Spec Tryz.prog 187 [kG w] (aE (lR .aF fun _ => bd w)) := by
 refine aH ay Tryz.func187 rfl rfl (fr := true) (fun _ => by kernel_rfl) fun P hP hA => ?_;have hl : w.length ≤ 1048576 := hw.1;have hp : w.flatten.length ≤ 1099511627776 := hw.2;cbv;refine aT.by (X := Nat) (fun i => [(1, pN 0), (3, oN 1), (4, nT fun _ => i)]) (fun i => [(0, .box [.lf (.list .cF fun _ => w)]), (1, aQ .aF fun _ => (w.take i).flatten)]) (fun i => i ≤ w.length) (fun i _ => w.length - i) 0 (Nat.zero_le _) ?_ ?_
 · cbv
   repeat' first | exact trivial | refine ⟨rfl, ?_⟩ | fail
 · intro i hi;cbv;refine Br.dec (fun h2 => ?_) (fun h2 => ?_) <;> cbv
   · have h2 : i < w.length := by simpa using h2
     refine ⟨w[i], by simp, get_cast w h2, ?_⟩;cbv;refine ⟨?_, ?_⟩
     · show (List.length (w.take i).flatten + List.length w[i]) * 16 ≤ 140737488355328;have h3 := DU (w := w) (i + 1);rw [vp h2, List.length_append] at h3;omega
     cbv;refine Ar.exact (by (try simp only [nc] at *); omega) (by (try simp only [nc] at *); omega) ?_;cbv;refine aJ.by (i + 1) ?_ ?_ ?_
     · show w.length - (i + 1) < w.length - i;omega
     · exact h2
     · cbv
       repeat' first | exact trivial | refine ⟨rfl, ?_⟩ | fail
       refine ⟨(vp h2).symm, trivial⟩
   · have h2 : w.length ≤ i := by simp at h2; omega
     refine ⟨?_, trivial⟩;show (w.take i).flatten = bd w;rw [List.take_of_length_le h2]; rfl
theorem Jd {w : List (List aA)} (h : ¬ ln w) : br w = false := by simp [br, h]
structure xx (l : List aA) (i : Nat) : Prop where
 ok : ∀ p ∈ l.take i, eZ p = true
 ne : (l.take i).Pairwise fun a b => a.pid ≠ b.pid
theorem xx.snoc {l : List aA} {i : Nat} (hi : i < l.length) (h : xx l i) (ok : eZ l[i] = true) (ne : ∀ (j : Nat) x, j < i → l[j]? = some x → (x.pid == l[i].pid) = false) : xx l (i + 1) := by
 have e : l.take (i + 1) = l.take i ++ [l[i]] := by rw [List.take_add_one, List.getElem?_eq_getElem hi]; rfl
 constructor
 · intro p hp;rw [e, List.mem_append] at hp;rcases hp with hp | hp
   · exact h.ok p hp
   · cases List.mem_singleton.1 hp; exact ok
 · rw [e, List.pairwise_append];refine ⟨h.ne, List.pairwise_singleton _ _, fun a ha b hb => ?_⟩;cases List.mem_singleton.1 hb;obtain ⟨j, hj⟩ := List.mem_iff_getElem?.1 ha;rw [List.getElem?_take] at hj
   split at hj
   · have := ne j a (by assumption) hj;simpa using this
   · cases hj
theorem Qd {l : List aA} (h : l.Pairwise fun a b => a.pid ≠ b.pid) {i : Nat} (hi : i < l.length) {j : Nat} {x : aA} (hj : j < i) (hx : l[j]? = some x) : (x.pid == l[i].pid) = false := by
 have := (List.pairwise_iff_getElem.1 h) j i (by omega) hi hj;rw [List.getElem?_eq_getElem (by omega)] at hx;cases hx;simpa using this
structure xy (w : List (List aA)) (i : Nat) : Prop where
 at_ : ∀ (k : Nat) l, k < i → w[k]? = some l → ∀ p ∈ l, p.tm.tmod 9 = (k : Int)
 fm : ∀ (k : Nat) l, k < i → w[k]? = some l → l.Pairwise fun a b => bm a b = true
structure rY (l : List aA) (k j : Nat) : Prop where
 at_ : ∀ p ∈ l.take j, p.tm.tmod 9 = (k : Int)
 fm : (l.take j).Pairwise fun a b => bm a b = true
theorem rY.zero (l : List aA) (k : Nat) : rY l k 0 := ⟨fun p hp => by simp at hp, by simp⟩
theorem rY.snoc {l : List aA} {k j : Nat} (hj : j < l.length) (h : rY l k j) (ok : l[j].tm.tmod 9 = (k : Int)) (lt : 0 < j → bm (l[j - 1]'(by omega)) l[j] = true) : rY l k (j + 1) := by
 have e : l.take (j + 1) = l.take j ++ [l[j]] := by rw [List.take_add_one, List.getElem?_eq_getElem hj]; rfl
 constructor
 · intro p hp;rw [e, List.mem_append] at hp;rcases hp with hp | hp
   · exact h.at_ p hp
   · cases List.mem_singleton.1 hp; exact ok
 · rw [e, List.pairwise_append];refine ⟨h.fm, List.pairwise_singleton _ _, fun a ha b hb => ?_⟩;cases List.mem_singleton.1 hb;obtain ⟨m, hm⟩ := List.mem_iff_getElem?.1 ha;rw [List.getElem?_take] at hm
   split at hm
   · rename_i DV;have hl := lt (by omega);rcases Nat.lt_or_ge m (j - 1) with h1 | h1
     · have h2 := (List.pairwise_iff_getElem.1 h.fm) m (j - 1) (by rw [List.length_take]; omega) (by rw [List.length_take]; omega) h1;simp only [List.getElem_take] at h2;rw [List.getElem?_eq_getElem (by omega)] at hm;cases hm;exact jz.tr _ _ _ h2 hl
     · obtain rfl : m = j - 1 := by omega
       rw [List.getElem?_eq_getElem (by omega)] at hm;cases hm; exact hl
   · cases hm
theorem xy.snoc {w : List (List aA)} {i : Nat} (hi : i < w.length) (h : xy w i) (hr : rY w[i] i w[i].length) : xy w (i + 1) := by
 have e : w[i].take w[i].length = w[i] := List.take_length
 constructor
 · intro k l hk hl;rcases Nat.lt_or_ge k i with h1 | h1
   · exact h.at_ k l h1 hl
   · obtain rfl : k = i := by omega
     rw [List.getElem?_eq_getElem hi] at hl;cases hl;have := hr.at_
     rwa [e] at this
 · intro k l hk hl;rcases Nat.lt_or_ge k i with h1 | h1
   · exact h.fm k l h1 hl
   · obtain rfl : k = i := by omega
     rw [List.getElem?_eq_getElem hi] at hl;cases hl;have := hr.fm
     rwa [e] at this
theorem Qe {w : List (List aA)} (h9 : w.length = 9) (dn : (bd w).length ≤ 10) (hp : xx (bd w) (bd w).length) (hs : xy w w.length) : br w = true := by
 have h1 := hp.ok;have h2 := hp.ne;rw [List.take_length] at h1 h2
 have : ln w := ⟨h9, dn, h1, h2, fun k l hl => hs.at_ k l (bq hl) hl, fun l hl => by
  obtain ⟨k, hk⟩ := List.mem_iff_getElem?.1 hl;exact hs.fm k l (bq hk) hk⟩
 simp [br, this]
theorem ln.row {w : List (List aA)} (h : ln w) {k : Nat} (hk : k < w.length) {j : Nat} (hj : j < w[k].length) : w[k][j].tm.tmod 9 = (k : Int) ∧ (0 < j → bm (w[k][j - 1]'(by omega)) w[k][j] = true) := by
 refine ⟨h.at_ k w[k] (List.getElem?_eq_getElem hk) _ (List.getElem_mem hj), fun h0 => ?_⟩;exact (List.pairwise_iff_getElem.1 (h.fm w[k] (List.getElem_mem hk))) (j - 1) j (by omega) hj (by omega)
set_option maxHeartbeats 1000000 in
theorem vq (w : List (List aA)) (hw : eC w) (b : Bool) (hb : b = br w) : Spec Tryz.prog 186 [kG w] (aE (bR fun _ => b)) := by
 refine aH ay Tryz.func186 rfl rfl (fr := true) (fun _ => by kernel_rfl) fun P hP hA => ?_;have hl : w.length ≤ 1048576 := hw.1;have mT : (bd w).length ≤ 1099511627776 := hw.2;obtain ⟨⟨⟨ha, eY⟩, _⟩, _⟩ := hA;have eY : ∀ x ∈ w, x.length ≤ 9223372036854775807 := eY;have no : ¬ ln w → b = false := fun h => hb.trans (Jd h);cbv
 repeat (refine Pz.mk ?_; cbv)
 refine ag.by hP (Jc w hw) ?_;cbv
 repeat (refine Pz.mk ?_; cbv)
 refine Br.split (fun h9 => ?_) (fun h9 => ?_) <;> (cbv; repeat (refine Pz.mk ?_; cbv))
 · refine ⟨?_, trivial⟩;exact (no (fun h => by have := h.len; simp [this] at h9)).symm
 have h9 : ((w.length : Int) != 9) = false := h9;have h9 : w.length = 9 := by simp at h9; omega
 refine Br.dec (fun bw => ?_) (fun bw => ?_) <;> (cbv; repeat (refine Pz.mk ?_; cbv))
 · have bw : ((bd w).length : Int) > 10 := bw;refine ⟨?_, trivial⟩;exact (no (fun h => by have := h.dn; omega)).symm
 have bw : ¬ ((bd w).length : Int) > 10 := bw;have bw : (bd w).length ≤ 10 := by omega
 refine aT.by (X := Nat) (fun i => [(1, pN 0), (3, oN 1), (4, nT fun _ => i)]) (fun i => [(0, .box [.lf (.list .cF fun _ => w)]), (1, aQ .aF fun _ => bd w)]) (fun i => i ≤ (bd w).length ∧ xx (bd w) i) (fun i _ => (bd w).length - i) 0 ⟨Nat.zero_le _, ⟨fun p hp => by simp at hp, by simp⟩⟩ ?_ ?_
 · cbv
   repeat (refine Pz.mk ?_; cbv)
   repeat' first | exact trivial | refine ⟨rfl, ?_⟩ | fail
 · intro i ⟨hi, hp⟩;cbv
   repeat (refine Pz.mk ?_; cbv)
   refine Br.dec (fun h2 => ?_) (fun h2 => ?_) <;> (cbv; repeat (refine Pz.mk ?_; cbv))
   · have h2 : i < (bd w).length := by simpa using h2
     have gi : (bd w).getD ((i : Int)).toNat default = (bd w)[i] := by rw [Int.toNat_natCast, List.getD_eq_getElem?_getD, List.getElem?_eq_getElem h2]; rfl
     have oi : 0 ≤ (i : Int) ∧ (i : Int) < ((bd w).length : Int) := by omega
     refine ⟨oi, ?_⟩;cbv
     repeat (refine Pz.mk ?_; cbv)
     refine ag.by hP (da ((bd w).getD ((i : Int)).toNat default).tm 1 1000008) ?_;cbv
     repeat (refine Pz.mk ?_; cbv)
     refine Br.split (fun k0 => ?_) (fun k0 => ?_) <;> (cbv; repeat (refine Pz.mk ?_; cbv))
     · refine ⟨?_, trivial⟩;have k0 : (!aj ((bd w).getD ((i : Int)).toNat default).tm 1 1000008) = true := k0;rw [gi] at k0;exact (no (fun h => by have := h.ok _ (List.getElem_mem h2); simp_all [eZ])).symm
     refine ⟨oi, ?_⟩;cbv
     repeat (refine Pz.mk ?_; cbv)
     refine ag.by hP (da ((bd w).getD ((i : Int)).toNat default).pid 1 999) ?_;cbv
     repeat (refine Pz.mk ?_; cbv)
     refine Br.split (fun k1 => ?_) (fun k1 => ?_) <;> (cbv; repeat (refine Pz.mk ?_; cbv))
     · refine ⟨?_, trivial⟩;have k1 : (!aj ((bd w).getD ((i : Int)).toNat default).pid 1 999) = true := k1;rw [gi] at k1;exact (no (fun h => by have := h.ok _ (List.getElem_mem h2); simp_all [eZ])).symm
     have ok : eZ (bd w)[i] = true := by
       have k0 : (!aj ((bd w).getD ((i : Int)).toNat default).tm 1 1000008) = false := k0;have k1 : (!aj ((bd w).getD ((i : Int)).toNat default).pid 1 999) = false := k1;rw [gi] at k0 k1;simp_all [eZ]
     clear k0 k1;refine aT.by (X := Nat) (fun j => [(1, pN 0), (3, oN 1), (4, nT fun _ => i), (5, nT fun _ => j)]) (fun j => [(0, .box [.lf (.list .cF fun _ => w)]), (1, aQ .aF fun _ => bd w)]) (fun j => j ≤ i ∧ ∀ (m : Nat) x, m < j → (bd w)[m]? = some x → (x.pid == (bd w)[i].pid) = false) (fun j _ => i - j) 0 ⟨Nat.zero_le _, fun m x hm => by omega⟩ ?_ ?_
     · cbv
       repeat (refine Pz.mk ?_; cbv)
       repeat' first | exact trivial | refine ⟨rfl, ?_⟩ | fail
     · intro j ⟨hj, hn⟩;cbv
       repeat (refine Pz.mk ?_; cbv)
       refine Br.dec (fun h3 => ?_) (fun h3 => ?_) <;> (cbv; repeat (refine Pz.mk ?_; cbv))
       · have h3 : j < i := by simpa using h3
         have gA : j < (bd w).length := by omega
         have gj : (bd w).getD ((j : Int)).toNat default = (bd w)[j] := by rw [Int.toNat_natCast, List.getD_eq_getElem?_getD, List.getElem?_eq_getElem gA]; rfl
         have oj : 0 ≤ (j : Int) ∧ (j : Int) < ((bd w).length : Int) := by omega
         repeat' first
           | (refine Ob.mk (by first | exact oi | exact oj) ?_; cbv; repeat (refine Pz.mk ?_; cbv))
           | refine And.intro ?_ ?_
           | fail
         all_goals
           refine Br.split (fun k2 => ?_) (fun k2 => ?_) <;> (cbv; repeat (refine Pz.mk ?_; cbv))
           · refine ⟨?_, trivial⟩;have k2 : (((bd w).getD ((j : Int)).toNat default).pid == ((bd w).getD ((i : Int)).toNat default).pid) = true := k2;rw [gi, gj] at k2;exact (no (fun h => by have := Qd h.ne h2 h3 (List.getElem?_eq_getElem gA); rw [this] at k2; cases k2)).symm
           have k2 : (((bd w).getD ((j : Int)).toNat default).pid == ((bd w).getD ((i : Int)).toNat default).pid) = false := k2;rw [gi, gj] at k2;refine Ar.exact (by (try simp only [nc] at *); omega) (by (try simp only [nc] at *); omega) ?_;cbv
           repeat (refine Pz.mk ?_; cbv)
           refine aJ.by (j + 1) ?_ ?_ ?_
           · show i - (j + 1) < i - j;omega
           · exact ⟨h3, il gA hn k2⟩
           · cbv
             repeat (refine Pz.mk ?_; cbv)
             repeat' first | exact trivial | refine ⟨rfl, ?_⟩ | fail
       · have h3 : i ≤ j := by simp at h3; omega
         refine Ar.exact (by (try simp only [nc] at *); omega) (by (try simp only [nc] at *); omega) ?_;cbv
         repeat (refine Pz.mk ?_; cbv)
         refine aJ.by (i + 1) ?_ ?_ ?_
         · show (bd w).length - (i + 1) < (bd w).length - i;omega
         · exact ⟨h2, hp.snoc h2 ok fun m x hm => hn m x (by omega)⟩
         · cbv
           repeat (refine Pz.mk ?_; cbv)
           repeat' first | exact trivial | refine ⟨rfl, ?_⟩ | fail
   · have h2 : (bd w).length ≤ i := by simp at h2; omega
     have oQ : i ≤ (bd w).length := hi;obtain rfl : i = (bd w).length := by omega
     clear h2;refine aT.by (X := Nat) (fun i => [(1, pN 0), (6, nT fun _ => i)]) (fun i => [(0, .box [.lf (.list .cF fun _ => w)])]) (fun i => i ≤ w.length ∧ xy w i) (fun i _ => w.length - i) 0 ⟨Nat.zero_le _, ⟨fun k l hk => by omega, fun k l hk => by omega⟩⟩ ?_ ?_
     · cbv
       repeat (refine Pz.mk ?_; cbv)
       repeat' first | exact trivial | refine ⟨rfl, ?_⟩ | fail
     · intro i ⟨hi, hs⟩;cbv
       repeat (refine Pz.mk ?_; cbv)
       refine Br.dec (fun h2 => ?_) (fun h2 => ?_) <;> (cbv; repeat (refine Pz.mk ?_; cbv))
       rotate_left
       · have h2 : w.length ≤ i := by simp at h2; omega
         have oQ : i ≤ w.length := hi;obtain rfl : i = w.length := by omega
         refine ⟨?_, trivial⟩;exact (hb.trans (Qe h9 bw hp hs)).symm
       have h2 : i < w.length := by simpa using h2
       have Vs : (w[i]).length ≤ 9223372036854775807 := eY _ (List.getElem_mem h2);refine aT.by (X := Nat) (fun j => [(1, pN 0), (6, nT fun _ => i), (7, nT fun _ => j)]) (fun j => [(0, .box [.lf (.list .cF fun _ => w)])]) (fun j => j ≤ w[i].length ∧ rY w[i] i j) (fun j _ => w[i].length - j) 0 ⟨Nat.zero_le _, rY.zero _ _⟩ ?_ ?_
       · cbv
         repeat (refine Pz.mk ?_; cbv)
         repeat' first | exact trivial | refine ⟨rfl, ?_⟩ | fail
       · intro j ⟨hj, hr⟩;cbv
         repeat (refine Pz.mk ?_; cbv)
         refine ⟨w[i], by simp, get_cast w h2, ?_⟩;cbv
         repeat (refine Pz.mk ?_; cbv)
         refine Br.dec (fun h3 => ?_) (fun h3 => ?_) <;> (cbv; repeat (refine Pz.mk ?_; cbv))
         rotate_left
         · have h3 : w[i].length ≤ j := by simp at h3; omega
           have cL : j ≤ w[i].length := hj;obtain rfl : j = w[i].length := by omega
           refine Ar.exact (by (try simp only [nc] at *); omega) (by (try simp only [nc] at *); omega) ?_;cbv
           repeat (refine Pz.mk ?_; cbv)
           refine aJ.by (i + 1) ?_ ?_ ?_
           · show w.length - (i + 1) < w.length - i;omega
           · exact ⟨h2, hs.snoc h2 hr⟩
           · cbv
             repeat (refine Pz.mk ?_; cbv)
             repeat' first | exact trivial | refine ⟨rfl, ?_⟩ | fail
         have h3 : j < w[i].length := by simpa using h3
         refine ⟨w[i], by simp, get_cast w h2, ?_⟩;cbv
         repeat (refine Pz.mk ?_; cbv)
         refine ⟨w[i][j], by simp, get_cast w[i] h3, ?_⟩;cbv
         repeat (refine Pz.mk ?_; cbv)
         refine ⟨by decide, ?_⟩;cbv
         repeat (refine Pz.mk ?_; cbv)
         refine Br.split (fun k0 => ?_) (fun k0 => ?_) <;> (cbv; repeat (refine Pz.mk ?_; cbv))
         · refine ⟨?_, trivial⟩;have k0 : (w[i][j].tm.tmod 9 != (i : Int)) = true := k0;exact (no (fun h => by have := (h.row h2 h3).1; rw [this] at k0; simp at k0)).symm
         have k0 : (w[i][j].tm.tmod 9 != (i : Int)) = false := k0;have k0 : w[i][j].tm.tmod 9 = (i : Int) := by simpa using k0
         refine Br.dec (fun k1 => ?_) (fun k1 => ?_) <;> (cbv; repeat (refine Pz.mk ?_; cbv))
         · have k1 : 0 < j := by simpa using k1
           have h4 : j - 1 < w[i].length := by omega
           have oj : 0 ≤ (j : Int) - 1 := by omega
           have gj : w[i][((j : Int) - 1).toNat]? = some w[i][j - 1] := by rw [show ((j : Int) - 1).toNat = j - 1 by omega]; exact List.getElem?_eq_getElem h4
           repeat' first
             | (refine Ix.mk w[i] (by simp) (get_cast w h2) ?_; cbv; repeat (refine Pz.mk ?_; cbv))
             | (refine Ix.mk w[i][j] (by simp) (get_cast w[i] h3) ?_; cbv; repeat (refine Pz.mk ?_; cbv))
             | (refine Ix.mk w[i][j - 1] oj gj ?_; cbv; repeat (refine Pz.mk ?_; cbv))
             | (refine Ar.exact (by (try simp only [nc] at *); omega) (by (try simp only [nc] at *); omega) ?_; cbv; repeat (refine Pz.mk ?_; cbv))
             | refine And.intro ?_ ?_
             | fail
           all_goals
             refine ag.by hP (IT w[i][j - 1] w[i][j]) ?_;cbv
             repeat (refine Pz.mk ?_; cbv)
             refine Br.split (fun k2 => ?_) (fun k2 => ?_) <;> (cbv; repeat (refine Pz.mk ?_; cbv))
             · refine ⟨?_, trivial⟩;exact (no (fun h => by have := (h.row h2 h3).2 k1; rw [this] at k2; simp at k2)).symm
             have k2 : bm w[i][j - 1] w[i][j] = true := by simpa using k2
             refine Ar.exact (by (try simp only [nc] at *); omega) (by (try simp only [nc] at *); omega) ?_;cbv
             repeat (refine Pz.mk ?_; cbv)
             refine aJ.by (j + 1) ?_ ?_ ?_
             · show w[i].length - (j + 1) < w[i].length - j;omega
             · exact ⟨h3, hr.snoc h3 k0 fun _ => k2⟩
             · cbv
               repeat (refine Pz.mk ?_; cbv)
               repeat' first | exact trivial | refine ⟨rfl, ?_⟩ | fail
         · have k1 : ¬ 0 < j := by simpa using k1
           refine Ar.exact (by (try simp only [nc] at *); omega) (by (try simp only [nc] at *); omega) ?_;cbv
           repeat (refine Pz.mk ?_; cbv)
           refine aJ.by (j + 1) ?_ ?_ ?_
           · show w[i].length - (j + 1) < w[i].length - j;omega
           · exact ⟨h3, hr.snoc h3 k0 fun h => absurd h k1⟩
           · cbv
             repeat (refine Pz.mk ?_; cbv)
             repeat' first | exact trivial | refine ⟨rfl, ?_⟩ | fail
def eW (P : List aA) : List (Int × Int) := P.foldl (fun m p => ju m p.pid (eX m p.pid + 1)) []
theorem vr (P : List aA) (p : aA) : eW (P ++ [p]) = ju (eW P) p.pid (eX (eW P) p.pid + 1) := by simp [eW]
theorem Je : ∀ {m : List (Int × Int)} {k : Int}, iN m k = none ↔ ∀ q ∈ m, q.1 ≠ k
 | [], k => by simp [iN]
 | p :: m, k => by
   have ih := Je (m := m) (k := k);simp only [iN]
   split
   · rename_i h;simp [h]
   · rename_i h;simp only [Option.map_eq_none_iff, ih, List.forall_mem_cons];exact ⟨fun h1 => ⟨fun h2 => h h2.symm, h1⟩, fun h1 => h1.2⟩
theorem Jf : ∀ {m : List (Int × Int)} {k v j : Int}, (∃ q ∈ ju m k v, q.1 = j) ↔ j = k ∨ ∃ q ∈ m, q.1 = j
 | [], k, v, j => by simp [ju, eq_comm]
 | p :: m, k, v, j => by
   have ih := Jf (m := m) (k := k) (v := v) (j := j);simp only [ju]
   split
   · rename_i h;subst h;simp only [List.mem_cons, exists_eq_or_imp]
     constructor
     · rintro (h | h)
       · exact .inl h.symm
       · exact .inr (.inr h)
     · rintro (h | h | h)
       · exact .inl h.symm
       · exact .inl h
       · exact .inr h
   · simp only [List.mem_cons, exists_eq_or_imp, ih]
     constructor
     · rintro (h | h | h)
       · exact .inr (.inl h)
       · exact .inl h
       · exact .inr (.inr h)
     · rintro (h | h | h)
       · exact .inr (.inl h)
       · exact .inl h
       · exact .inr (.inr h)
theorem DW : ∀ {m : List (Int × Int)} {k v j : Int}, eX (ju m k v) j = if j = k then v else eX m j
 | [], k, v, j => by simp [ju, eX]
 | p :: m, k, v, j => by
   have ih := DW (m := m) (k := k) (v := v) (j := j);simp only [ju]
   split
   · rename_i h;subst h;simp only [eX]
     split <;> rfl
   · rename_i h;simp only [eX, ih]
     split
     · rename_i h1;rw [if_neg (by rw [h1]; exact fun h2 => h h2.symm)]
     · rfl
structure Qf (P : List aA) : Prop where
 mem : ∀ j, (∃ q ∈ eW P, q.1 = j) ↔ ∃ p ∈ P, p.pid = j
 len : (eW P).length ≤ P.length
 eq : (eW P).length = P.length ↔ P.Pairwise fun a b => a.pid ≠ b.pid
 lo : ∀ j, 0 ≤ eX (eW P) j
 hi : ∀ j, eX (eW P) j ≤ P.length
theorem zZ (P : List aA) : Qf P := by
 obtain ⟨n, hn⟩ : ∃ n, P.length = n := ⟨_, rfl⟩
 induction n generalizing P with
 | zero =>
   have : P = [] := List.length_eq_zero_iff.1 hn;subst this;exact ⟨by simp [eW], by simp [eW], by simp [eW], by simp [eW, eX], by simp [eW, eX]⟩
 | succ n ih =>
   rcases List.eq_nil_or_concat P with rfl | ⟨P, p, rfl⟩
   · cases hn
   rw [List.concat_eq_append] at *;have h := ih P (by simpa using hn)
   have cA : ∀ j, (∃ q ∈ eW (P ++ [p]), q.1 = j) ↔ ∃ q ∈ P ++ [p], q.pid = j := fun j => by
     rw [vr, Jf, h.mem]
     constructor
     · rintro (rfl | ⟨q, hq, rfl⟩)
       · exact ⟨p, by simp, rfl⟩
       · exact ⟨q, by simp [hq], rfl⟩
     · rintro ⟨q, hq, rfl⟩
       rcases List.mem_append.1 hq with hq | hq
       · exact .inr ⟨q, hq, rfl⟩
       · cases List.mem_singleton.1 hq; exact .inl rfl
   have oR : ∀ j, 0 ≤ eX (eW (P ++ [p])) j := fun j => by
     rw [vr, DW]
     split
     · have := h.lo p.pid; omega
     · exact h.lo j
   have mU : ∀ j, eX (eW (P ++ [p])) j ≤ (P ++ [p]).length := fun j => by
     rw [vr, DW, List.length_append, List.length_singleton]
     split
     · have := h.hi p.pid; omega
     · have := h.hi j; omega
   have Jg : ((P ++ [p]).Pairwise fun a b => a.pid ≠ b.pid) ↔ (P.Pairwise fun a b => a.pid ≠ b.pid) ∧ ∀ a ∈ P, a.pid ≠ p.pid := by
     rw [List.pairwise_append];exact ⟨fun h => ⟨h.1, fun a ha => h.2.2 a ha p (by simp)⟩, fun h => ⟨h.1, List.pairwise_singleton _ _, fun a ha b hb => by cases List.mem_singleton.1 hb; exact h.2 a ha⟩⟩
   have hle := h.len;cases hi : iN (eW P) p.pid with
   | none =>
     have hl : (eW (P ++ [p])).length = (eW P).length + 1 := by rw [vr, (vY hi).1]; simp
     have pG : ∀ a ∈ P, a.pid ≠ p.pid := fun a ha he => by
       obtain ⟨q, hq, h1⟩ := (h.mem p.pid).2 ⟨a, ha, he⟩;exact Je.1 hi q hq h1
     refine ⟨cA, by rw [hl, List.length_append, List.length_singleton]; omega, ?_, oR, mU⟩;rw [hl, List.length_append, List.length_singleton, Jg, ← h.eq];exact ⟨fun h1 => ⟨by omega, pG⟩, fun h1 => by omega⟩
   | some j =>
     have hl : (eW (P ++ [p])).length = (eW P).length := by rw [vr, (vZ hi).2]; simp
     refine ⟨cA, by rw [hl, List.length_append, List.length_singleton]; omega, ?_, oR, mU⟩;rw [hl, List.length_append, List.length_singleton, Jg]
     constructor
     · intro h1; omega
     · intro ⟨_, h1⟩;exfalso;have h2 := (vZ (v := 0) hi).1;obtain ⟨a, ha, h3⟩ := (h.mem p.pid).1 ⟨_, List.mem_of_getElem? h2, rfl⟩;exact h1 a ha h3
theorem Jh {x y : aA} : ((if bm x y = true then (-1 : Int) else if bm y x = true then 1 else 0) > 0) ↔ bm y x = true := by
 cases h1 : bm x y <;> cases h2 : bm y x <;> simp
 have := jz.as _ _ h1;rw [h2] at this; cases this
def ed (w : List (List aA)) (k i : Nat) : List aA := (w.take k).flatten ++ (w.getD k []).take i
theorem Ji (w : List (List aA)) (k : Nat) : ed w k 0 = (w.take k).flatten := by simp [ed]
theorem Qg {w : List (List aA)} {k i : Nat} (hk : k < w.length) (hi : i < w[k].length) : ed w k (i + 1) = ed w k i ++ [w[k][i]] := by
 have e : w.getD k [] = w[k] := by rw [List.getD_eq_getElem?_getD, List.getElem?_eq_getElem hk]; rfl
 rw [ed, ed, e, List.take_add_one, List.getElem?_eq_getElem hi, List.append_assoc]; rfl
theorem Qh {w : List (List aA)} {k i : Nat} (hk : k < w.length) (hi : w[k].length ≤ i) : ed w k i = (w.take (k + 1)).flatten := by
 have e : w.getD k [] = w[k] := by rw [List.getD_eq_getElem?_getD, List.getElem?_eq_getElem hk]; rfl
 rw [ed, e, List.take_of_length_le hi, vp hk]
theorem Qi {w : List (List aA)} {k i : Nat} (hk : k < w.length) : (ed w k i).length ≤ (bd w).length := by
 have e : w.getD k [] = w[k] := by rw [List.getD_eq_getElem?_getD, List.getElem?_eq_getElem hk]; rfl
 have h := DU (w := w) (k + 1);rw [vp hk, List.length_append] at h;rw [ed, e, List.length_append, List.length_take];show _ ≤ w.flatten.length;omega
structure oS (l : List aA) (k j : Nat) : Prop where
 ok : ∀ p ∈ l.take j, eZ p = true
 at_ : ∀ p ∈ l.take j, p.tm.tmod 9 = (k : Int)
 fm : (l.take j).Pairwise fun a b => bm b a = false
theorem oS.zero (l : List aA) (k : Nat) : oS l k 0 := ⟨fun p hp => by simp at hp, fun p hp => by simp at hp, by simp⟩
theorem oS.snoc {l : List aA} {k j : Nat} (hj : j < l.length) (h : oS l k j) (ok : eZ l[j] = true) (Qj : l[j].tm.tmod 9 = (k : Int)) (lt : 0 < j → bm l[j] (l[j - 1]'(by omega)) = false) : oS l k (j + 1) := by
 have e : l.take (j + 1) = l.take j ++ [l[j]] := by rw [List.take_add_one, List.getElem?_eq_getElem hj]; rfl
 refine ⟨?_, ?_, ?_⟩
 · intro p hp;rw [e, List.mem_append] at hp;rcases hp with hp | hp
   · exact h.ok p hp
   · cases List.mem_singleton.1 hp; exact ok
 · intro p hp;rw [e, List.mem_append] at hp;rcases hp with hp | hp
   · exact h.at_ p hp
   · cases List.mem_singleton.1 hp; exact Qj
 · rw [e, List.pairwise_append];refine ⟨h.fm, List.pairwise_singleton _ _, fun a ha b hb => ?_⟩;cases List.mem_singleton.1 hb;obtain ⟨m, hm⟩ := List.mem_iff_getElem?.1 ha;rw [List.getElem?_take] at hm
   split at hm
   · rename_i DV;have hl := lt (by omega);rcases Nat.lt_or_ge m (j - 1) with h1 | h1
     · have h2 := (List.pairwise_iff_getElem.1 h.fm) m (j - 1) (by rw [List.length_take]; omega) (by rw [List.length_take]; omega) h1;simp only [List.getElem_take] at h2;rw [List.getElem?_eq_getElem (by omega)] at hm;cases hm;exact jz.ng _ _ _ hl h2
     · obtain rfl : m = j - 1 := by omega
       rw [List.getElem?_eq_getElem (by omega)] at hm;cases hm; exact hl
   · cases hm
def xz (w : List (List aA)) (k : Nat) : Prop := ∀ (m : Nat) l, m < k → w[m]? = some l → oS l m l.length
theorem xz.snoc {w : List (List aA)} {k : Nat} (hk : k < w.length) (h : xz w k) (hr : oS w[k] k w[k].length) : xz w (k + 1) := by
 intro m l hm hl;rcases Nat.lt_or_ge m k with h1 | h1
 · exact h m l h1 hl
 · obtain rfl : m = k := by omega
   rw [List.getElem?_eq_getElem hk] at hl;cases hl;exact hr
theorem ln.hR {w : List (List aA)} (h : ln w) {k : Nat} (hk : k < w.length) {j : Nat} (hj : j < w[k].length) : eZ w[k][j] = true ∧ w[k][j].tm.tmod 9 = (k : Int) ∧ (0 < j → bm w[k][j] (w[k][j - 1]'(by omega)) = false) := by
 obtain ⟨h1, h2⟩ := h.row hk hj;refine ⟨h.ok _ ?_, h1, fun h0 => jz.as _ _ (h2 h0)⟩;exact List.mem_flatten.2 ⟨w[k], List.getElem_mem hk, List.getElem_mem hj⟩
theorem Qk {w : List (List aA)} (h9 : w.length = 9) (hs : xz w w.length) : br w = (decide ((bd w).length ≤ 10) && (((eW (bd w)).length : Int) == ((bd w).length : Int))) := by
 have hc := (zZ (bd w)).eq
 have key : ln w ↔ (bd w).length ≤ 10 ∧ (eW (bd w)).length = (bd w).length := by
  constructor
  · exact fun h => ⟨h.dn, hc.2 h.ne⟩
  · intro ⟨h1, h2⟩;have hne := hc.1 h2
    have get : ∀ l ∈ w, ∃ m, w[m]? = some l ∧ oS l m l.length := fun l hl => by
      obtain ⟨m, hm⟩ := List.mem_iff_getElem?.1 hl;exact ⟨m, hm, hs m l (bq hm) hm⟩
    refine ⟨h9, h1, fun p hp => ?_, hne, fun k l hl p hp => ?_, fun l hl => ?_⟩
    · obtain ⟨l, hl, hp⟩ := List.mem_flatten.1 hp;obtain ⟨m, hm, hr⟩ := get l hl;exact hr.ok p (by rw [List.take_length]; exact hp)
    · exact (hs k l (bq hl) hl).at_ p (by rw [List.take_length]; exact hp)
    · obtain ⟨m, hm, hr⟩ := get l hl;have h3 := hr.fm;rw [List.take_length] at h3;have h4 := (List.pairwise_flatten.1 hne).1 l hl;refine (h3.and h4).imp fun {a b} h => ?_;cases h5 : bm a b with
      | true => rfl
      | false => exact absurd (congrArg aA.pid (wC a b h5 h.1)) h.2
 rw [Bool.eq_iff_iff];simp only [br, decide_eq_true_eq, Bool.and_eq_true, beq_iff_eq];rw [key]
 constructor
 · intro ⟨h1, h2⟩; exact ⟨h1, by rw [h2]⟩
 · intro ⟨h1, h2⟩; exact ⟨h1, by omega⟩
set_option maxHeartbeats 1000000 in
theorem vt (w : List (List aA)) (hw : eC w) (b : Bool) (hb : b = br w) : Spec Tryz.prog 161 [kG w] (aE (bR fun _ => b)) := by
 refine aH ay Tryz.func161 rfl rfl (fr := true) (fun _ => by kernel_rfl) fun P hP hA => ?_;have hl : w.length ≤ 1048576 := hw.1;have mT : (bd w).length ≤ 1099511627776 := hw.2;obtain ⟨⟨⟨ha, eY⟩, _⟩, _⟩ := hA;have eY : ∀ x ∈ w, x.length ≤ 9223372036854775807 := eY;have no : ¬ ln w → b = false := fun h => hb.trans (Jd h);cbv;refine Br.split (fun h9 => ?_) (fun h9 => ?_) <;> cbv
 · refine ⟨?_, trivial⟩;exact (no (fun h => by have := h.len; simp [this] at h9)).symm
 have h9 : ((w.length : Int) != 9) = false := h9;have h9 : w.length = 9 := by simp at h9; omega
 refine aT.by (X := Nat) (fun k => [(3, oN 0), (4, nT fun _ => (ed w k 0).length), (15, lA .cF w), (16, nT fun _ => w.length), (17, nT fun _ => k)]) (fun k => [(0, .mp fun _ => eW (ed w k 0))]) (fun k => k ≤ w.length ∧ xz w k) (fun k _ => w.length - k) 0 ⟨Nat.zero_le _, fun m l hm => by omega⟩ ?_ ?_
 · cbv
   repeat' first | exact trivial | refine ⟨rfl, ?_⟩ | fail
 · intro k ⟨hk, hs⟩;cbv;refine Br.dec (fun h2 => ?_) (fun h2 => ?_) <;> cbv
   rotate_left
   · have h2 : w.length ≤ k := by simp at h2; omega
     have bD : k ≤ w.length := hk;obtain rfl : k = w.length := by omega
     have ea : ed w w.length 0 = bd w := by rw [Ji, List.take_length]; rfl
     have hq := Qk h9 hs;refine Br.dec (fun h3 => ?_) (fun h3 => ?_) <;> cbv
     · refine ⟨?_, trivial⟩;have h3 : ((ed w w.length 0).length : Int) ≤ 10 := h3;show (((eW (ed w w.length 0)).length : Int) == ((ed w w.length 0).length : Int)) = b;rw [ea] at h3 ⊢;rw [hb, hq, decide_eq_true (by omega), Bool.true_and]
     · refine ⟨?_, trivial⟩;have h3 : ¬ ((ed w w.length 0).length : Int) ≤ 10 := h3;rw [ea] at h3;rw [hb, hq, decide_eq_false (by omega), Bool.false_and]
   have h2 : k < w.length := by simpa using h2
   have Vt : (w[k]).length ≤ 9223372036854775807 := eY _ (List.getElem_mem h2);refine ⟨w[k], by simp, get_cast w h2, ?_⟩;cbv;refine aT.by (X := Nat) (fun i => [(3, oN 0), (4, nT fun _ => (ed w k i).length), (5, nT fun _ => k), (6, lT .aF fun _ => w[k]), (15, lA .cF w), (16, nT fun _ => w.length), (17, nT fun _ => k), (22, lT .aF fun _ => w[k]), (23, nT fun _ => w[k].length), (24, nT fun _ => i)]) (fun i => [(0, .mp fun _ => eW (ed w k i))]) (fun i => i ≤ w[k].length ∧ oS w[k] k i) (fun i _ => w[k].length - i) 0 ⟨Nat.zero_le _, oS.zero _ _⟩ ?_ ?_
   · cbv
     repeat' first | exact trivial | refine ⟨rfl, ?_⟩ | fail
   · intro i ⟨hi, hr⟩;have BK := Qi (i := i) h2;have fh := (zZ (ed w k i)).len;cbv;refine Br.dec (fun h3 => ?_) (fun h3 => ?_) <;> cbv
     rotate_left
     · have h3 : w[k].length ≤ i := by simp at h3; omega
       have oQ : i ≤ w[k].length := hi;obtain rfl : i = w[k].length := by omega
       have e : ed w k w[k].length = ed w (k + 1) 0 := by rw [Qh h2 (Nat.le_refl _), Ji]
       refine Ar.exact (by (try simp only [nc] at *); omega) (by (try simp only [nc] at *); omega) ?_;cbv;refine aJ.by (k + 1) ?_ ?_ ?_
       · show w.length - (k + 1) < w.length - k;omega
       · exact ⟨h2, hs.snoc h2 hr⟩
       · cbv;rw [e]
         repeat' first | exact trivial | refine ⟨rfl, ?_⟩ | fail
     have h3 : i < w[k].length := by simpa using h3
     have Vu := (zZ (ed w k i)).lo w[k][i].pid;have Vv := (zZ (ed w k i)).hi w[k][i].pid;have Jj := Qg h2 h3;have Ql : (ed w k (i + 1)).length = (ed w k i).length + 1 := by rw [Jj]; simp
     have Jk : eW (ed w k (i + 1)) = ju (eW (ed w k i)) w[k][i].pid (eX (eW (ed w k i)) w[k][i].pid + 1) := by rw [Jj, vr]
     have Jl : -9223372036854775808 ≤ eX (eW (ed w k i)) w[k][i].pid + 1 := by omega
     have aq : eX (eW (ed w k i)) w[k][i].pid + 1 ≤ 9223372036854775807 := by omega
     have Jm : (eW (ed w k i)).length < 9223372036854775807 := by omega
     have Jn : -9223372036854775808 ≤ ((ed w k i).length : Int) + 1 := by omega
     have nj : ((ed w k i).length : Int) + 1 ≤ 9223372036854775807 := by omega
     have Jo : ((ed w k i).length : Int) + 1 = ((ed w k (i + 1)).length : Int) := by rw [Ql]; omega
     have Jp : -9223372036854775808 ≤ (i : Int) + 1 := by omega
     have vm : (i : Int) + 1 ≤ 9223372036854775807 := by omega
     refine ⟨w[k][i], by simp, get_cast w[k] h3, ?_⟩;cbv;refine ag.by hP (DF w[k][i]) ?_;cbv;refine Br.split (fun k0 => ?_) (fun k0 => ?_) <;> cbv
     · refine ⟨?_, trivial⟩;have k0 : (!eZ w[k][i]) = true := k0;exact (no (fun h => by have := (h.hR h2 h3).1; rw [this] at k0; cases k0)).symm
     have k0 : (!eZ w[k][i]) = false := k0;have k0 : eZ w[k][i] = true := by simpa using k0
     refine ⟨by decide, ?_⟩;cbv;refine Br.split (fun k1 => ?_) (fun k1 => ?_) <;> cbv
     · refine ⟨?_, trivial⟩;have k1 : (w[k][i].tm.tmod 9 != (k : Int)) = true := k1;exact (no (fun h => by have := (h.hR h2 h3).2.1; rw [this] at k1; simp at k1)).symm
     have k1 : (w[k][i].tm.tmod 9 != (k : Int)) = false := k1;have k1 : w[k][i].tm.tmod 9 = (k : Int) := by simpa using k1
     refine Br.dec (fun k2 => ?_) (fun k2 => ?_) <;> cbv
     · have k2 : 0 < i := by simpa using k2
       have h4 : i - 1 < w[k].length := by omega
       have oj : 0 ≤ (i : Int) - 1 := by omega
       have gj : w[k][((i : Int) - 1).toNat]? = some w[k][i - 1] := by rw [show ((i : Int) - 1).toNat = i - 1 by omega]; exact List.getElem?_eq_getElem h4
       refine Ar.exact (by (try simp only [nc] at *); omega) (by (try simp only [nc] at *); omega) ?_;cbv;refine ⟨w[k][i - 1], oj, gj, ?_⟩;cbv;refine ag.by hP (DE w[k][i - 1] w[k][i]) ?_;cbv;refine Br.dec (fun k3 => ?_) (fun k3 => ?_) <;> cbv
       · refine ⟨?_, trivial⟩;have k3 := Jh.1 k3;exact (no (fun h => by have := (h.hR h2 h3).2.2 k2; rw [this] at k3; cases k3)).symm
       have k3 : bm w[k][i] w[k][i - 1] = false := by
         cases h5 : bm w[k][i] w[k][i - 1] with
         | false => rfl
         | true => exact absurd (Jh.2 h5) k3
       refine Ar.exact Jl aq ?_;cbv;refine ⟨Jm, ?_⟩;cbv;refine Ar.exact Jn nj ?_;cbv;refine Ar.exact Jp vm ?_;cbv;refine aJ.by (i + 1) ?_ ?_ ?_
       · show w[k].length - (i + 1) < w[k].length - i;omega
       · exact ⟨h3, hr.snoc h3 k0 k1 fun _ => k3⟩
       · cbv;refine ⟨Jo, ?_⟩
         repeat' first | exact trivial | refine ⟨rfl, ?_⟩ | fail
         refine ⟨Jk.symm, ?_⟩
         repeat' first | exact trivial | refine ⟨rfl, ?_⟩ | fail
     · have k2 : ¬ 0 < i := by simpa using k2
       refine Ar.exact Jl aq ?_;cbv;refine ⟨Jm, ?_⟩;cbv;refine Ar.exact Jn nj ?_;cbv;refine Ar.exact Jp vm ?_;cbv;refine aJ.by (i + 1) ?_ ?_ ?_
       · show w[k].length - (i + 1) < w[k].length - i;omega
       · exact ⟨h3, hr.snoc h3 k0 k1 fun h => absurd h k2⟩
       · cbv;refine ⟨Jo, ?_⟩
         repeat' first | exact trivial | refine ⟨rfl, ?_⟩ | fail
         refine ⟨Jk.symm, ?_⟩
         repeat' first | exact trivial | refine ⟨rfl, ?_⟩ | fail
theorem DX {w : List (List aA)} (h : br w = true) : bC w = dz bm (bd w) := if_pos h
theorem DY {w : List (List aA)} (h : br w = false) : bC w = [] := if_neg (by rw [h]; simp)
theorem z5 {w : List (List aA)} (h : br w = true) : ln w := by simpa [br] using h
theorem z6 (w : List (List aA)) (hw : eC w) (x : List aA) (hx : x = bC w) : Spec Tryz.prog 131 [kG w] (aE (lR .aF fun _ => x)) := by
 refine aH ay Tryz.func131 rfl rfl (fr := true) (fun _ => by kernel_rfl) fun P hP hA => ?_;cbv;refine ag.by hP (vq w hw (br w) rfl) ?_;cbv;refine Br.split (fun k0 => ?_) (fun k0 => ?_) <;> cbv
 · have k0 : br w = false := by simpa using k0
   obtain rfl : x = [] := hx.trans (DY k0)
   repeat' first | exact trivial | refine ⟨rfl, ?_⟩ | fail
 have k0 : br w = true := by simpa using k0
 have hx := hx.trans (DX k0);have dn := (z5 k0).dn;refine ag.by hP (Jc w hw) ?_;cbv;refine aT.by (X := Nat) (fun i => [(3, oN 0), (4, oN 1), (5, nT fun _ => i)]) (fun i => [(0, aQ .aF fun _ => iU bm ((bd w).take i)), (1, aQ .aF fun _ => bd w)]) (fun i => i ≤ (bd w).length) (fun i _ => (bd w).length - i) 0 (Nat.zero_le _) ?_ ?_
 · cbv
   repeat' first | exact trivial | refine ⟨rfl, ?_⟩ | fail
 · intro i hi;cbv;refine Br.dec (fun h2 => ?_) (fun h2 => ?_) <;> cbv
   rotate_left
   · have h2 : (bd w).length ≤ i := by simp at h2; omega
     refine ⟨?_, trivial⟩;show iU bm ((bd w).take i) = x;rw [List.take_of_length_le h2, yN jz wC, hx]
   have h2 : i < (bd w).length := by simpa using h2
   have gi : (bd w).getD ((i : Int)).toNat default = (bd w)[i] := by rw [Int.toNat_natCast, List.getD_eq_getElem?_getD, List.getElem?_eq_getElem h2]; rfl
   have oi : 0 ≤ (i : Int) ∧ (i : Int) < ((bd w).length : Int) := by omega
   have st : bG bm ((bd w).getD ((i : Int)).toNat default) (iU bm ((bd w).take i)) = iU bm ((bd w).take (i + 1)) := by
     rw [gi, ← BO, List.take_add_one, List.getElem?_eq_getElem h2]; rfl
   refine ⟨oi, ?_⟩;cbv;refine ag.by hP (DP (iU bm ((bd w).take i)) ((bd w).getD ((i : Int)).toNat default) (by rw [yN jz wC, jy, List.length_take]; show _ ≤ 1048576; omega)) ?_;cbv;refine Ar.exact (by (try simp only [nc] at *); omega) (by (try simp only [nc] at *); omega) ?_;cbv;refine aJ.by (i + 1) ?_ ?_ ?_
   · show (bd w).length - (i + 1) < (bd w).length - i;omega
   · exact h2
   · cbv
     repeat' first | exact trivial | refine ⟨rfl, ?_⟩ | fail
     refine ⟨st, ?_⟩
     repeat' first | exact trivial | refine ⟨rfl, ?_⟩ | fail
theorem Jq (w : List (List aA)) (hw : eC w) (x : List aA) (hx : x = bC w) : Spec Tryz.prog 171 [kG w] (aE (lR .aF fun _ => x)) := by
 refine aH ay Tryz.func171 rfl rfl (fr := true) (fun _ => by kernel_rfl) fun P hP hA => ?_;cbv;refine ag.by hP (vt w hw (br w) rfl) ?_;cbv;refine Br.split (fun k0 => ?_) (fun k0 => ?_) <;> cbv
 · have k0 : br w = false := by simpa using k0
   obtain rfl : x = [] := hx.trans (DY k0)
   repeat' first | exact trivial | refine ⟨rfl, ?_⟩ | fail
 have k0 : br w = true := by simpa using k0
 have hx := hx.trans (DX k0);have dn := (z5 k0).dn;have h9 := (z5 k0).len;refine aT.by (X := Nat) (fun i => [(3, oN 0), (10, lA .cF w), (11, nT fun _ => w.length), (12, nT fun _ => i)]) (fun i => [(0, aQ .aF fun _ => (w.take i).flatten)]) (fun i => i ≤ w.length) (fun i _ => w.length - i) 0 (Nat.zero_le _) ?_ ?_
 · cbv
   repeat' first | exact trivial | refine ⟨rfl, ?_⟩ | fail
 · intro i hi;cbv;refine Br.dec (fun h2 => ?_) (fun h2 => ?_) <;> cbv
   rotate_left
   · have h2 : w.length ≤ i := by simp at h2; omega
     have e : (w.take i).flatten = bd w := by rw [List.take_of_length_le h2]; rfl
     refine aB.by hP (P3 ((w.take i).flatten) (by rw [e]; exact dn)) ?_;cbv;refine ⟨?_, trivial⟩;show dz bm (w.take i).flatten = x;rw [e, hx]
   have h2 : i < w.length := by simpa using h2
   have ob : (List.length (w.take i).flatten + List.length w[i]) * 16 ≤ 140737488355328 := by
     have h3 := DU (w := w) (i + 1);rw [vp h2, List.length_append] at h3;have h4 : w.flatten.length ≤ 10 := dn;omega
   refine ⟨w[i], by simp, get_cast w h2, ?_⟩;cbv;refine ⟨ob, ?_⟩;cbv;refine Ar.exact (by (try simp only [nc] at *); omega) (by (try simp only [nc] at *); omega) ?_;cbv;refine aJ.by (i + 1) ?_ ?_ ?_
   · show w.length - (i + 1) < w.length - i;omega
   · exact h2
   · cbv
     repeat' first | exact trivial | refine ⟨rfl, ?_⟩ | fail
     refine ⟨(vp h2).symm, trivial⟩
def im (c : a_) : Bool := aZ c.ah && (dJ c.row && br c.spoke)
def fQ (R : bp) (c : a_) (l : List au) (k now : Int) : Bool :=
 im c && (decide (c.row = cH R l k now) && (decide (bC c.spoke = gF l k) && ((c.ah.held == ((aV (cp k) l : Nat) : Int)) && (c.ah.tied == ((aV (cz k) l : Nat) : Int)))))
theorem DZ (c : a_) (hw : eC c.spoke) (b : Bool) (hb : b = im c) : Spec Tryz.prog 128 [eA .cf c] (aE (bR fun _ => b)) := by
 refine aH ay Tryz.func128 rfl rfl (fr := true) (fun _ => by kernel_rfl) fun P hP hA => ?_;cbv
 repeat' first
  | (refine ag.by hP (IA c.ah (aZ c.ah) rfl) ?_; cbv)
  | (refine ag.by hP (DM c.row (dJ c.row) rfl) ?_; cbv)
  | (refine ag.by hP (vq c.spoke hw (br c.spoke) rfl) ?_; cbv)
  | (refine Br.split (fun h => ?_) (fun h => ?_) <;> cbv)
  | fail
 all_goals refine ⟨?_, trivial⟩
 all_goals simp_all [im]
theorem Qm (c : a_) (hw : eC c.spoke) (b : Bool) (hb : b = im c) : Spec Tryz.prog 177 [eA .cf c] (aE (bR fun _ => b)) := by
 refine aH ay Tryz.func177 rfl rfl (fr := true) (fun _ => by kernel_rfl) fun P hP hA => ?_;cbv
 repeat' first
  | (refine ag.by hP (lQ c.ah (aZ c.ah) rfl) ?_; cbv)
  | (refine ag.by hP (xw c.row (dJ c.row) rfl) ?_; cbv)
  | (refine ag.by hP (vt c.spoke hw (br c.spoke) rfl) ?_; cbv)
  | (refine Br.split (fun h => ?_) (fun h => ?_) <;> cbv)
  | fail
 all_goals refine ⟨?_, trivial⟩
 all_goals simp_all [im]
set_option maxHeartbeats 1000000 in
theorem Qn (R : bp) (c : a_) (l : List au) (k now : Int) (hs : R.ah.length ≤ aR) (hl : l.length ≤ aR) (hw : eC c.spoke) (b : Bool) (hb : b = fQ R c l k now) :
   Spec Tryz.prog 74 [gu R, eA .cf c, lA .az l, iA k, iA now] (aE (bR fun _ => b)) := by
 refine aH ay Tryz.func74 rfl rfl (fr := true) (fun _ => by kernel_rfl) fun P hP hA => ?_;cbv
 repeat (refine Pz.mk ?_; cbv)
 repeat (refine Pz.mk ?_; cbv)
 refine ag.by hP (DZ c hw (im c) rfl) ?_;cbv
 repeat (refine Pz.mk ?_; cbv)
 refine Br.split (fun k0 => ?_) (fun k0 => ?_) <;> (cbv; repeat (refine Pz.mk ?_; cbv))
 rotate_left
 · refine ⟨?_, trivial⟩;have k0 : im c = false := k0;simp [hb, fQ, k0]
 have k0 : im c = true := k0;refine ag.by hP (zY R l k now hs hl) ?_;cbv
 repeat (refine Pz.mk ?_; cbv)
 refine ag.by hP (I5 c.row (cH R l k now)) ?_;cbv
 repeat (refine Pz.mk ?_; cbv)
 refine Br.split (fun k1 => ?_) (fun k1 => ?_) <;> (cbv; repeat (refine Pz.mk ?_; cbv))
 rotate_left
 · refine ⟨?_, trivial⟩;have k1 : decide (c.row = cH R l k now) = false := k1;rw [hb, fQ, k0, k1]; rfl
 have k1 : decide (c.row = cH R l k now) = true := k1
 repeat' first
   | (refine ag.by hP (z6 c.spoke hw (bC c.spoke) rfl) ?_; cbv; repeat (refine Pz.mk ?_; cbv))
   | (refine ag.by hP (Jb l k hl) ?_; cbv; repeat (refine Pz.mk ?_; cbv))
   | refine And.intro ?_ ?_
   | fail
 all_goals
   refine ag.by hP (I6 (bC c.spoke) (gF l k)) ?_;cbv
   repeat (refine Pz.mk ?_; cbv)
   refine Br.split (fun k2 => ?_) (fun k2 => ?_) <;> (cbv; repeat (refine Pz.mk ?_; cbv))
   rotate_left
   · refine ⟨?_, trivial⟩;have k2 : decide (bC c.spoke = gF l k) = false := k2;rw [hb, fQ, k0, k1, k2]; rfl
   have k2 : decide (bC c.spoke = gF l k) = true := k2;refine ag.by hP (IJ l k hl) ?_;cbv
   repeat (refine Pz.mk ?_; cbv)
   refine Br.split (fun k3 => ?_) (fun k3 => ?_) <;> (cbv; repeat (refine Pz.mk ?_; cbv))
   rotate_left
   · refine ⟨?_, trivial⟩;have k3 : (c.ah.held == ((aV (cp k) l : Nat) : Int)) = false := k3;rw [hb, fQ, k0, k1, k2, k3]; rfl
   have k3 : (c.ah.held == ((aV (cp k) l : Nat) : Int)) = true := k3;refine ag.by hP (IK l k hl) ?_;cbv
   repeat (refine Pz.mk ?_; cbv)
   refine ⟨?_, trivial⟩;rw [hb, fQ, k0, k1, k2, k3]; rfl
set_option maxHeartbeats 1000000 in
theorem Qo (R : bp) (c : a_) (l : List au) (k now : Int) (hs : R.ah.length ≤ aR) (hl : l.length ≤ aR) (hw : eC c.spoke) (he : (fx R k now l).length ≤ 10) (hp : (fP k l).length ≤ 10)
   (b : Bool) (hb : b = fQ R c l k now) : Spec Tryz.prog 125 [gu R, eA .cf c, lA .az l, iA k, iA now] (aE (bR fun _ => b)) := by
 refine aH ay Tryz.func125 rfl rfl (fr := true) (fun _ => by kernel_rfl) fun P hP hA => ?_;cbv
 repeat (refine Pz.mk ?_; cbv)
 repeat (refine Pz.mk ?_; cbv)
 refine ag.by hP (Qm c hw (im c) rfl) ?_;cbv
 repeat (refine Pz.mk ?_; cbv)
 refine Br.split (fun k0 => ?_) (fun k0 => ?_) <;> (cbv; repeat (refine Pz.mk ?_; cbv))
 rotate_left
 · refine ⟨?_, trivial⟩;have k0 : im c = false := k0;simp [hb, fQ, k0]
 have k0 : im c = true := k0;refine ag.by hP (DT R l k now hs hl he) ?_;cbv
 repeat (refine Pz.mk ?_; cbv)
 refine ag.by hP (PV c.row (cH R l k now)) ?_;cbv
 repeat (refine Pz.mk ?_; cbv)
 refine Br.split (fun k1 => ?_) (fun k1 => ?_) <;> (cbv; repeat (refine Pz.mk ?_; cbv))
 rotate_left
 · refine ⟨?_, trivial⟩;have k1 : decide (c.row = cH R l k now) = false := k1;rw [hb, fQ, k0, k1]; rfl
 have k1 : decide (c.row = cH R l k now) = true := k1
 repeat' first
   | (refine ag.by hP (Jq c.spoke hw (bC c.spoke) rfl) ?_; cbv; repeat (refine Pz.mk ?_; cbv))
   | (refine ag.by hP (Qb l k hl hp) ?_; cbv; repeat (refine Pz.mk ?_; cbv))
   | refine And.intro ?_ ?_
   | fail
 all_goals
   refine ag.by hP (PW (bC c.spoke) (gF l k)) ?_;cbv
   repeat (refine Pz.mk ?_; cbv)
   refine Br.split (fun k2 => ?_) (fun k2 => ?_) <;> (cbv; repeat (refine Pz.mk ?_; cbv))
   rotate_left
   · refine ⟨?_, trivial⟩;have k2 : decide (bC c.spoke = gF l k) = false := k2;rw [hb, fQ, k0, k1, k2]; rfl
   have k2 : decide (bC c.spoke = gF l k) = true := k2;refine ag.by hP (Pv l k hl) ?_;cbv
   repeat (refine Pz.mk ?_; cbv)
   refine Br.split (fun k3 => ?_) (fun k3 => ?_) <;> (cbv; repeat (refine Pz.mk ?_; cbv))
   rotate_left
   · refine ⟨?_, trivial⟩;have k3 : (c.ah.held == ((aV (cp k) l : Nat) : Int)) = false := k3;rw [hb, fQ, k0, k1, k2, k3]; rfl
   have k3 : (c.ah.held == ((aV (cp k) l : Nat) : Int)) = true := k3;refine ag.by hP (Pw l k hl) ?_;cbv
   repeat (refine Pz.mk ?_; cbv)
   refine ⟨?_, trivial⟩;rw [hb, fQ, k0, k1, k2, k3]; rfl
end Go.Proofs.YtehpbaiclfilaaaGreat

