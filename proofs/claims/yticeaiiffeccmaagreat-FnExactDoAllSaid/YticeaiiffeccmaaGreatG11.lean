/- Parts of a proof. No conditions. -/

import Derived.Test.YticeaiiffeccmaaGreatG09
import Derived.Test.YticeaiiffeccmaaGreatG10
set_option linter.unusedSimpArgs false
set_option linter.unusedVariables false
namespace Go.Proofs.YticeaiiffeccmaaGreat
open Go
set_option maxRecDepth 100000
def bf (w : List (List aB)) : List aB := w.flatten
structure kF (w : List (List aB)) : Prop where
 len : w.length = 9
 dq : (bf w).length ≤ 10
 ok : ∀ p ∈ bf w, eC p = true
 ne : (bf w).Pairwise fun a b => a.pid ≠ b.pid
 at_ : ∀ (k : Nat) l, w[k]? = some l → ∀ p ∈ l, p.tm.tmod 9 = (k : Int)
 gb : ∀ l ∈ w, l.Pairwise fun a b => bm a b = true
instance (w : List (List aB)) : Decidable (∀ (k : Nat) l, w[k]? = some l → ∀ p ∈ l, p.tm.tmod 9 = (k : Int)) :=
 decidable_of_iff (∀ k : Fin w.length, ∀ p ∈ w[k], p.tm.tmod 9 = (k.1 : Int)) ⟨fun h k l hl p hp => by
  have hk := bK hl;have := h ⟨k, hk⟩ p;rw [List.getElem?_eq_getElem hk] at hl;cases hl;exact this hp, fun h k p hp => h k.1 w[k] (List.getElem?_eq_getElem k.2) p hp⟩
instance (w : List (List aB)) : Decidable (kF w) :=
 decidable_of_iff (w.length = 9 ∧ (bf w).length ≤ 10 ∧ (∀ p ∈ bf w, eC p = true) ∧ ((bf w).Pairwise fun a b => a.pid ≠ b.pid) ∧ (∀ (k : Nat) l, w[k]? = some l → ∀ p ∈ l, p.tm.tmod 9 = (k : Int)) ∧ ∀ l ∈ w, l.Pairwise fun a b => bm a b = true)
  ⟨fun ⟨a, b, c, d, e, f⟩ => ⟨a, b, c, d, e, f⟩, fun ⟨a, b, c, d, e, f⟩ => ⟨a, b, c, d, e, f⟩⟩
def bz (w : List (List aB)) : Bool := decide (kF w)
def bL (w : List (List aB)) : List aB := if bz w = true then dk bm (bf w) else []
theorem tG {w : List (List aB)} {i : Nat} (h : i < w.length) : (w.take (i + 1)).flatten = (w.take i).flatten ++ w[i] := by
 rw [List.take_add_one, List.getElem?_eq_getElem h, List.flatten_append]; simp
theorem Bz {w : List (List aB)} (i : Nat) : (w.take i).flatten.length ≤ w.flatten.length := by
 have h : (w.take i ++ w.drop i).flatten = w.flatten := by rw [List.take_append_drop]
 rw [List.flatten_append] at h;have := congrArg List.length h;rw [List.length_append] at this;omega
theorem N0 {w : List (List aB)} (n : Nat) (h : ∀ x ∈ w, x.length ≤ n) : w.flatten.length ≤ w.length * n := by
 induction w with
 | nil => simp
 | cons a w ih =>
   have h1 := h a List.mem_cons_self;have h2 := ih fun x hx => h x (List.mem_cons_of_mem _ hx);simp only [List.flatten_cons, List.length_append, List.length_cons, Nat.add_mul];omega
def fa (w : List (List aB)) : Prop := w.length ≤ bc ∧ (bf w).length ≤ 1099511627776
theorem fa.of {w : List (List aB)} (h : w.length ≤ bc) (h1 : ∀ x ∈ w, x.length ≤ bc) : fa w := by
 refine ⟨h, Nat.le_trans (N0 _ h1) ?_⟩;exact Nat.mul_le_mul h (Nat.le_refl bc)
theorem GF (w : List (List aB)) (hw : fa w) : Spec Tryz.prog 234 [iU w] (aE (lR .aI fun _ => bf w)) := by
 refine ay au Tryz.func234 rfl rfl (fr := true) (fun _ => by kernel_rfl) fun P hP hA => ?_;have hl : w.length ≤ 1048576 := hw.1;have hp : w.flatten.length ≤ 1099511627776 := hw.2;cbv;refine aU.by (X := Nat) (fun i => [(1, pN 0), (3, oN 1), (4, nT fun _ => i)]) (fun i => [(0, .box [.lf (.list .bZ fun _ => w)]), (1, aN .aI fun _ => (w.take i).flatten)]) (fun i => i ≤ w.length) (fun i _ => w.length - i) 0 (Nat.zero_le _) ?_ ?_
 · cbv
   repeat' first | exact trivial | refine ⟨rfl, ?_⟩ | fail
 · intro i hi;cbv;refine Br.dec (fun h2 => ?_) (fun h2 => ?_) <;> cbv
   · have h2 : i < w.length := by simpa using h2
     refine ⟨w[i], by simp, get_cast w h2, ?_⟩;cbv;refine ⟨?_, ?_⟩
     · show (List.length (w.take i).flatten + List.length w[i]) * 16 ≤ 140737488355328;have h3 := Bz (w := w) (i + 1);rw [tG h2, List.length_append] at h3;omega
     cbv;refine Ar.exact (by (try simp only [nc] at *); omega) (by (try simp only [nc] at *); omega) ?_;cbv;refine aP.by (i + 1) ?_ ?_ ?_
     · show w.length - (i + 1) < w.length - i;omega
     · exact h2
     · cbv
       repeat' first | exact trivial | refine ⟨rfl, ?_⟩ | fail
       refine ⟨(tG h2).symm, trivial⟩
   · have h2 : w.length ≤ i := by simp at h2; omega
     refine ⟨?_, trivial⟩;show (w.take i).flatten = bf w;rw [List.take_of_length_le h2]; rfl
theorem GG {w : List (List aB)} (h : ¬ kF w) : bz w = false := by simp [bz, h]
structure vD (l : List aB) (i : Nat) : Prop where
 ok : ∀ p ∈ l.take i, eC p = true
 ne : (l.take i).Pairwise fun a b => a.pid ≠ b.pid
theorem vD.snoc {l : List aB} {i : Nat} (hi : i < l.length) (h : vD l i) (ok : eC l[i] = true) (ne : ∀ (j : Nat) x, j < i → l[j]? = some x → (x.pid == l[i].pid) = false) : vD l (i + 1) := by
 have e : l.take (i + 1) = l.take i ++ [l[i]] := by rw [List.take_add_one, List.getElem?_eq_getElem hi]; rfl
 constructor
 · intro p hp;rw [e, List.mem_append] at hp;rcases hp with hp | hp
   · exact h.ok p hp
   · cases List.mem_singleton.1 hp; exact ok
 · rw [e, List.pairwise_append];refine ⟨h.ne, List.pairwise_singleton _ _, fun a ha b hb => ?_⟩;cases List.mem_singleton.1 hb;obtain ⟨j, hj⟩ := List.mem_iff_getElem?.1 ha;rw [List.getElem?_take] at hj
   split at hj
   · have := ne j a (by assumption) hj;simpa using this
   · cases hj
theorem N1 {l : List aB} (h : l.Pairwise fun a b => a.pid ≠ b.pid) {i : Nat} (hi : i < l.length) {j : Nat} {x : aB} (hj : j < i) (hx : l[j]? = some x) : (x.pid == l[i].pid) = false := by
 have := (List.pairwise_iff_getElem.1 h) j i (by omega) hi hj;rw [List.getElem?_eq_getElem (by omega)] at hx;cases hx;simpa using this
structure vE (w : List (List aB)) (i : Nat) : Prop where
 at_ : ∀ (k : Nat) l, k < i → w[k]? = some l → ∀ p ∈ l, p.tm.tmod 9 = (k : Int)
 gb : ∀ (k : Nat) l, k < i → w[k]? = some l → l.Pairwise fun a b => bm a b = true
structure qt (l : List aB) (k j : Nat) : Prop where
 at_ : ∀ p ∈ l.take j, p.tm.tmod 9 = (k : Int)
 gb : (l.take j).Pairwise fun a b => bm a b = true
theorem qt.zero (l : List aB) (k : Nat) : qt l k 0 := ⟨fun p hp => by simp at hp, by simp⟩
theorem qt.snoc {l : List aB} {k j : Nat} (hj : j < l.length) (h : qt l k j) (ok : l[j].tm.tmod 9 = (k : Int)) (lt : 0 < j → bm (l[j - 1]'(by omega)) l[j] = true) : qt l k (j + 1) := by
 have e : l.take (j + 1) = l.take j ++ [l[j]] := by rw [List.take_add_one, List.getElem?_eq_getElem hj]; rfl
 constructor
 · intro p hp;rw [e, List.mem_append] at hp;rcases hp with hp | hp
   · exact h.at_ p hp
   · cases List.mem_singleton.1 hp; exact ok
 · rw [e, List.pairwise_append];refine ⟨h.gb, List.pairwise_singleton _ _, fun a ha b hb => ?_⟩;cases List.mem_singleton.1 hb;obtain ⟨m, hm⟩ := List.mem_iff_getElem?.1 ha;rw [List.getElem?_take] at hm
   split at hm
   · rename_i N2;have hl := lt (by omega);rcases Nat.lt_or_ge m (j - 1) with h1 | h1
     · have h2 := (List.pairwise_iff_getElem.1 h.gb) m (j - 1) (by rw [List.length_take]; omega) (by rw [List.length_take]; omega) h1;simp only [List.getElem_take] at h2;rw [List.getElem?_eq_getElem (by omega)] at hm;cases hm;exact jM.tr _ _ _ h2 hl
     · obtain rfl : m = j - 1 := by omega
       rw [List.getElem?_eq_getElem (by omega)] at hm;cases hm; exact hl
   · cases hm
theorem vE.snoc {w : List (List aB)} {i : Nat} (hi : i < w.length) (h : vE w i) (hr : qt w[i] i w[i].length) : vE w (i + 1) := by
 have e : w[i].take w[i].length = w[i] := List.take_length
 constructor
 · intro k l hk hl;rcases Nat.lt_or_ge k i with h1 | h1
   · exact h.at_ k l h1 hl
   · obtain rfl : k = i := by omega
     rw [List.getElem?_eq_getElem hi] at hl;cases hl;have := hr.at_
     rwa [e] at this
 · intro k l hk hl;rcases Nat.lt_or_ge k i with h1 | h1
   · exact h.gb k l h1 hl
   · obtain rfl : k = i := by omega
     rw [List.getElem?_eq_getElem hi] at hl;cases hl;have := hr.gb
     rwa [e] at this
theorem N3 {w : List (List aB)} (h9 : w.length = 9) (dq : (bf w).length ≤ 10) (hp : vD (bf w) (bf w).length) (hs : vE w w.length) : bz w = true := by
 have h1 := hp.ok;have h2 := hp.ne;rw [List.take_length] at h1 h2
 have : kF w := ⟨h9, dq, h1, h2, fun k l hl => hs.at_ k l (bK hl) hl, fun l hl => by
  obtain ⟨k, hk⟩ := List.mem_iff_getElem?.1 hl;exact hs.gb k l (bK hk) hk⟩
 simp [bz, this]
theorem kF.row {w : List (List aB)} (h : kF w) {k : Nat} (hk : k < w.length) {j : Nat} (hj : j < w[k].length) : w[k][j].tm.tmod 9 = (k : Int) ∧ (0 < j → bm (w[k][j - 1]'(by omega)) w[k][j] = true) := by
 refine ⟨h.at_ k w[k] (List.getElem?_eq_getElem hk) _ (List.getElem_mem hj), fun h0 => ?_⟩;exact (List.pairwise_iff_getElem.1 (h.gb w[k] (List.getElem_mem hk))) (j - 1) j (by omega) hj (by omega)
set_option maxHeartbeats 1000000 in
theorem vF (w : List (List aB)) (hw : fa w) (b : Bool) (hb : b = bz w) : Spec Tryz.prog 173 [iU w] (aE (bR fun _ => b)) := by
 refine ay au Tryz.func173 rfl rfl (fr := true) (fun _ => by kernel_rfl) fun P hP hA => ?_;have hl : w.length ≤ 1048576 := hw.1;have oq : (bf w).length ≤ 1099511627776 := hw.2;obtain ⟨⟨⟨ha, fy⟩, _⟩, _⟩ := hA;have fy : ∀ x ∈ w, x.length ≤ 9223372036854775807 := fy;have no : ¬ kF w → b = false := fun h => hb.trans (GG h);cbv
 repeat (refine Pz.mk ?_; cbv)
 refine ag.by hP (GF w hw) ?_;cbv
 repeat (refine Pz.mk ?_; cbv)
 refine Br.split (fun h9 => ?_) (fun h9 => ?_) <;> (cbv; repeat (refine Pz.mk ?_; cbv))
 · refine ⟨?_, trivial⟩;exact (no (fun h => by have := h.len; simp [this] at h9)).symm
 have h9 : ((w.length : Int) != 9) = false := h9;have h9 : w.length = 9 := by simp at h9; omega
 refine Br.dec (fun bM => ?_) (fun bM => ?_) <;> (cbv; repeat (refine Pz.mk ?_; cbv))
 · have bM : ((bf w).length : Int) > 10 := bM;refine ⟨?_, trivial⟩;exact (no (fun h => by have := h.dq; omega)).symm
 have bM : ¬ ((bf w).length : Int) > 10 := bM;have bM : (bf w).length ≤ 10 := by omega
 refine aU.by (X := Nat) (fun i => [(1, pN 0), (3, oN 1), (4, nT fun _ => i)]) (fun i => [(0, .box [.lf (.list .bZ fun _ => w)]), (1, aN .aI fun _ => bf w)]) (fun i => i ≤ (bf w).length ∧ vD (bf w) i) (fun i _ => (bf w).length - i) 0 ⟨Nat.zero_le _, ⟨fun p hp => by simp at hp, by simp⟩⟩ ?_ ?_
 · cbv
   repeat (refine Pz.mk ?_; cbv)
   repeat' first | exact trivial | refine ⟨rfl, ?_⟩ | fail
 · intro i ⟨hi, hp⟩;cbv
   repeat (refine Pz.mk ?_; cbv)
   refine Br.dec (fun h2 => ?_) (fun h2 => ?_) <;> (cbv; repeat (refine Pz.mk ?_; cbv))
   · have h2 : i < (bf w).length := by simpa using h2
     have gi : (bf w).getD ((i : Int)).toNat default = (bf w)[i] := by rw [Int.toNat_natCast, List.getD_eq_getElem?_getD, List.getElem?_eq_getElem h2]; rfl
     have oi : 0 ≤ (i : Int) ∧ (i : Int) < ((bf w).length : Int) := by omega
     refine ⟨oi, ?_⟩;cbv
     repeat (refine Pz.mk ?_; cbv)
     refine ag.by hP (da ((bf w).getD ((i : Int)).toNat default).tm 1 1000008) ?_;cbv
     repeat (refine Pz.mk ?_; cbv)
     refine Br.split (fun k0 => ?_) (fun k0 => ?_) <;> (cbv; repeat (refine Pz.mk ?_; cbv))
     · refine ⟨?_, trivial⟩;have k0 : (!aq ((bf w).getD ((i : Int)).toNat default).tm 1 1000008) = true := k0;rw [gi] at k0;exact (no (fun h => by have := h.ok _ (List.getElem_mem h2); simp_all [eC])).symm
     refine ⟨oi, ?_⟩;cbv
     repeat (refine Pz.mk ?_; cbv)
     refine ag.by hP (da ((bf w).getD ((i : Int)).toNat default).pid 1 999) ?_;cbv
     repeat (refine Pz.mk ?_; cbv)
     refine Br.split (fun k1 => ?_) (fun k1 => ?_) <;> (cbv; repeat (refine Pz.mk ?_; cbv))
     · refine ⟨?_, trivial⟩;have k1 : (!aq ((bf w).getD ((i : Int)).toNat default).pid 1 999) = true := k1;rw [gi] at k1;exact (no (fun h => by have := h.ok _ (List.getElem_mem h2); simp_all [eC])).symm
     have ok : eC (bf w)[i] = true := by
       have k0 : (!aq ((bf w).getD ((i : Int)).toNat default).tm 1 1000008) = false := k0;have k1 : (!aq ((bf w).getD ((i : Int)).toNat default).pid 1 999) = false := k1;rw [gi] at k0 k1;simp_all [eC]
     clear k0 k1;refine aU.by (X := Nat) (fun j => [(1, pN 0), (3, oN 1), (4, nT fun _ => i), (5, nT fun _ => j)]) (fun j => [(0, .box [.lf (.list .bZ fun _ => w)]), (1, aN .aI fun _ => bf w)]) (fun j => j ≤ i ∧ ∀ (m : Nat) x, m < j → (bf w)[m]? = some x → (x.pid == (bf w)[i].pid) = false) (fun j _ => i - j) 0 ⟨Nat.zero_le _, fun m x hm => by omega⟩ ?_ ?_
     · cbv
       repeat (refine Pz.mk ?_; cbv)
       repeat' first | exact trivial | refine ⟨rfl, ?_⟩ | fail
     · intro j ⟨hj, hn⟩;cbv
       repeat (refine Pz.mk ?_; cbv)
       refine Br.dec (fun h3 => ?_) (fun h3 => ?_) <;> (cbv; repeat (refine Pz.mk ?_; cbv))
       · have h3 : j < i := by simpa using h3
         have gZ : j < (bf w).length := by omega
         have gj : (bf w).getD ((j : Int)).toNat default = (bf w)[j] := by rw [Int.toNat_natCast, List.getD_eq_getElem?_getD, List.getElem?_eq_getElem gZ]; rfl
         have oj : 0 ≤ (j : Int) ∧ (j : Int) < ((bf w).length : Int) := by omega
         repeat' first
           | (refine Ob.mk (by first | exact oi | exact oj) ?_; cbv; repeat (refine Pz.mk ?_; cbv))
           | refine And.intro ?_ ?_
           | fail
         all_goals
           refine Br.split (fun k2 => ?_) (fun k2 => ?_) <;> (cbv; repeat (refine Pz.mk ?_; cbv))
           · refine ⟨?_, trivial⟩;have k2 : (((bf w).getD ((j : Int)).toNat default).pid == ((bf w).getD ((i : Int)).toNat default).pid) = true := k2;rw [gi, gj] at k2;exact (no (fun h => by have := N1 h.ne h2 h3 (List.getElem?_eq_getElem gZ); rw [this] at k2; cases k2)).symm
           have k2 : (((bf w).getD ((j : Int)).toNat default).pid == ((bf w).getD ((i : Int)).toNat default).pid) = false := k2;rw [gi, gj] at k2;refine Ar.exact (by (try simp only [nc] at *); omega) (by (try simp only [nc] at *); omega) ?_;cbv
           repeat (refine Pz.mk ?_; cbv)
           refine aP.by (j + 1) ?_ ?_ ?_
           · show i - (j + 1) < i - j;omega
           · exact ⟨h3, f_ gZ hn k2⟩
           · cbv
             repeat (refine Pz.mk ?_; cbv)
             repeat' first | exact trivial | refine ⟨rfl, ?_⟩ | fail
       · have h3 : i ≤ j := by simp at h3; omega
         refine Ar.exact (by (try simp only [nc] at *); omega) (by (try simp only [nc] at *); omega) ?_;cbv
         repeat (refine Pz.mk ?_; cbv)
         refine aP.by (i + 1) ?_ ?_ ?_
         · show (bf w).length - (i + 1) < (bf w).length - i;omega
         · exact ⟨h2, hp.snoc h2 ok fun m x hm => hn m x (by omega)⟩
         · cbv
           repeat (refine Pz.mk ?_; cbv)
           repeat' first | exact trivial | refine ⟨rfl, ?_⟩ | fail
   · have h2 : (bf w).length ≤ i := by simp at h2; omega
     have nO : i ≤ (bf w).length := hi;obtain rfl : i = (bf w).length := by omega
     clear h2;refine aU.by (X := Nat) (fun i => [(1, pN 0), (6, nT fun _ => i)]) (fun i => [(0, .box [.lf (.list .bZ fun _ => w)])]) (fun i => i ≤ w.length ∧ vE w i) (fun i _ => w.length - i) 0 ⟨Nat.zero_le _, ⟨fun k l hk => by omega, fun k l hk => by omega⟩⟩ ?_ ?_
     · cbv
       repeat (refine Pz.mk ?_; cbv)
       repeat' first | exact trivial | refine ⟨rfl, ?_⟩ | fail
     · intro i ⟨hi, hs⟩;cbv
       repeat (refine Pz.mk ?_; cbv)
       refine Br.dec (fun h2 => ?_) (fun h2 => ?_) <;> (cbv; repeat (refine Pz.mk ?_; cbv))
       rotate_left
       · have h2 : w.length ≤ i := by simp at h2; omega
         have nO : i ≤ w.length := hi;obtain rfl : i = w.length := by omega
         refine ⟨?_, trivial⟩;exact (hb.trans (N3 h9 bM hp hs)).symm
       have h2 : i < w.length := by simpa using h2
       have Rv : (w[i]).length ≤ 9223372036854775807 := fy _ (List.getElem_mem h2);refine aU.by (X := Nat) (fun j => [(1, pN 0), (6, nT fun _ => i), (7, nT fun _ => j)]) (fun j => [(0, .box [.lf (.list .bZ fun _ => w)])]) (fun j => j ≤ w[i].length ∧ qt w[i] i j) (fun j _ => w[i].length - j) 0 ⟨Nat.zero_le _, qt.zero _ _⟩ ?_ ?_
       · cbv
         repeat (refine Pz.mk ?_; cbv)
         repeat' first | exact trivial | refine ⟨rfl, ?_⟩ | fail
       · intro j ⟨hj, hr⟩;cbv
         repeat (refine Pz.mk ?_; cbv)
         refine ⟨w[i], by simp, get_cast w h2, ?_⟩;cbv
         repeat (refine Pz.mk ?_; cbv)
         refine Br.dec (fun h3 => ?_) (fun h3 => ?_) <;> (cbv; repeat (refine Pz.mk ?_; cbv))
         rotate_left
         · have h3 : w[i].length ≤ j := by simp at h3; omega
           have cO : j ≤ w[i].length := hj;obtain rfl : j = w[i].length := by omega
           refine Ar.exact (by (try simp only [nc] at *); omega) (by (try simp only [nc] at *); omega) ?_;cbv
           repeat (refine Pz.mk ?_; cbv)
           refine aP.by (i + 1) ?_ ?_ ?_
           · show w.length - (i + 1) < w.length - i;omega
           · exact ⟨h2, hs.snoc h2 hr⟩
           · cbv
             repeat (refine Pz.mk ?_; cbv)
             repeat' first | exact trivial | refine ⟨rfl, ?_⟩ | fail
         have h3 : j < w[i].length := by simpa using h3
         refine ⟨w[i], by simp, get_cast w h2, ?_⟩;cbv
         repeat (refine Pz.mk ?_; cbv)
         refine ⟨w[i][j], by simp, get_cast w[i] h3, ?_⟩;cbv
         repeat (refine Pz.mk ?_; cbv)
         refine ⟨by decide, ?_⟩;cbv
         repeat (refine Pz.mk ?_; cbv)
         refine Br.split (fun k0 => ?_) (fun k0 => ?_) <;> (cbv; repeat (refine Pz.mk ?_; cbv))
         · refine ⟨?_, trivial⟩;have k0 : (w[i][j].tm.tmod 9 != (i : Int)) = true := k0;exact (no (fun h => by have := (h.row h2 h3).1; rw [this] at k0; simp at k0)).symm
         have k0 : (w[i][j].tm.tmod 9 != (i : Int)) = false := k0;have k0 : w[i][j].tm.tmod 9 = (i : Int) := by simpa using k0
         refine Br.dec (fun k1 => ?_) (fun k1 => ?_) <;> (cbv; repeat (refine Pz.mk ?_; cbv))
         · have k1 : 0 < j := by simpa using k1
           have h4 : j - 1 < w[i].length := by omega
           have oj : 0 ≤ (j : Int) - 1 := by omega
           have gj : w[i][((j : Int) - 1).toNat]? = some w[i][j - 1] := by rw [show ((j : Int) - 1).toNat = j - 1 by omega]; exact List.getElem?_eq_getElem h4
           repeat' first
             | (refine Ix.mk w[i] (by simp) (get_cast w h2) ?_; cbv; repeat (refine Pz.mk ?_; cbv))
             | (refine Ix.mk w[i][j] (by simp) (get_cast w[i] h3) ?_; cbv; repeat (refine Pz.mk ?_; cbv))
             | (refine Ix.mk w[i][j - 1] oj gj ?_; cbv; repeat (refine Pz.mk ?_; cbv))
             | (refine Ar.exact (by (try simp only [nc] at *); omega) (by (try simp only [nc] at *); omega) ?_; cbv; repeat (refine Pz.mk ?_; cbv))
             | refine And.intro ?_ ?_
             | fail
           all_goals
             refine ag.by hP (Gk w[i][j - 1] w[i][j]) ?_;cbv
             repeat (refine Pz.mk ?_; cbv)
             refine Br.split (fun k2 => ?_) (fun k2 => ?_) <;> (cbv; repeat (refine Pz.mk ?_; cbv))
             · refine ⟨?_, trivial⟩;exact (no (fun h => by have := (h.row h2 h3).2 k1; rw [this] at k2; simp at k2)).symm
             have k2 : bm w[i][j - 1] w[i][j] = true := by simpa using k2
             refine Ar.exact (by (try simp only [nc] at *); omega) (by (try simp only [nc] at *); omega) ?_;cbv
             repeat (refine Pz.mk ?_; cbv)
             refine aP.by (j + 1) ?_ ?_ ?_
             · show w[i].length - (j + 1) < w[i].length - j;omega
             · exact ⟨h3, hr.snoc h3 k0 fun _ => k2⟩
             · cbv
               repeat (refine Pz.mk ?_; cbv)
               repeat' first | exact trivial | refine ⟨rfl, ?_⟩ | fail
         · have k1 : ¬ 0 < j := by simpa using k1
           refine Ar.exact (by (try simp only [nc] at *); omega) (by (try simp only [nc] at *); omega) ?_;cbv
           repeat (refine Pz.mk ?_; cbv)
           refine aP.by (j + 1) ?_ ?_ ?_
           · show w[i].length - (j + 1) < w[i].length - j;omega
           · exact ⟨h3, hr.snoc h3 k0 fun h => absurd h k1⟩
           · cbv
             repeat (refine Pz.mk ?_; cbv)
             repeat' first | exact trivial | refine ⟨rfl, ?_⟩ | fail
def eh (P : List aB) : List (Int × Int) := P.foldl (fun m p => iJ m p.pid (eo m p.pid + 1)) []
theorem tH (P : List aB) (p : aB) : eh (P ++ [p]) = iJ (eh P) p.pid (eo (eh P) p.pid + 1) := by simp [eh]
theorem GH : ∀ {m : List (Int × Int)} {k : Int}, ib m k = none ↔ ∀ q ∈ m, q.1 ≠ k
 | [], k => by simp [ib]
 | p :: m, k => by
   have ih := GH (m := m) (k := k);simp only [ib]
   split
   · rename_i h;simp [h]
   · rename_i h;simp only [Option.map_eq_none_iff, ih, List.forall_mem_cons];exact ⟨fun h1 => ⟨fun h2 => h h2.symm, h1⟩, fun h1 => h1.2⟩
theorem GI : ∀ {m : List (Int × Int)} {k v j : Int}, (∃ q ∈ iJ m k v, q.1 = j) ↔ j = k ∨ ∃ q ∈ m, q.1 = j
 | [], k, v, j => by simp [iJ, eq_comm]
 | p :: m, k, v, j => by
   have ih := GI (m := m) (k := k) (v := v) (j := j);simp only [iJ]
   split
   · rename_i h;subst h;simp only [List.mem_cons, exists_eq_or_imp]
     constructor
     · rintro (h | h)
       · exact .inl h.symm
       · exact .inr (.inr h)
     · rintro (h | h | h)
       · exact .inl h.symm
       · exact .inl h
       · exact .inr h
   · simp only [List.mem_cons, exists_eq_or_imp, ih]
     constructor
     · rintro (h | h | h)
       · exact .inr (.inl h)
       · exact .inl h
       · exact .inr (.inr h)
     · rintro (h | h | h)
       · exact .inr (.inl h)
       · exact .inl h
       · exact .inr (.inr h)
theorem BA : ∀ {m : List (Int × Int)} {k v j : Int}, eo (iJ m k v) j = if j = k then v else eo m j
 | [], k, v, j => by simp [iJ, eo]
 | p :: m, k, v, j => by
   have ih := BA (m := m) (k := k) (v := v) (j := j);simp only [iJ]
   split
   · rename_i h;subst h;simp only [eo]
     split <;> rfl
   · rename_i h;simp only [eo, ih]
     split
     · rename_i h1;rw [if_neg (by rw [h1]; exact fun h2 => h h2.symm)]
     · rfl
structure N4 (P : List aB) : Prop where
 mem : ∀ j, (∃ q ∈ eh P, q.1 = j) ↔ ∃ p ∈ P, p.pid = j
 len : (eh P).length ≤ P.length
 eq : (eh P).length = P.length ↔ P.Pairwise fun a b => a.pid ≠ b.pid
 lo : ∀ j, 0 ≤ eo (eh P) j
 hi : ∀ j, eo (eh P) j ≤ P.length
theorem yk (P : List aB) : N4 P := by
 obtain ⟨n, hn⟩ : ∃ n, P.length = n := ⟨_, rfl⟩
 induction n generalizing P with
 | zero =>
   have : P = [] := List.length_eq_zero_iff.1 hn;subst this;exact ⟨by simp [eh], by simp [eh], by simp [eh], by simp [eh, eo], by simp [eh, eo]⟩
 | succ n ih =>
   rcases List.eq_nil_or_concat P with rfl | ⟨P, p, rfl⟩
   · cases hn
   rw [List.concat_eq_append] at *;have h := ih P (by simpa using hn)
   have de : ∀ j, (∃ q ∈ eh (P ++ [p]), q.1 = j) ↔ ∃ q ∈ P ++ [p], q.pid = j := fun j => by
     rw [tH, GI, h.mem]
     constructor
     · rintro (rfl | ⟨q, hq, rfl⟩)
       · exact ⟨p, by simp, rfl⟩
       · exact ⟨q, by simp [hq], rfl⟩
     · rintro ⟨q, hq, rfl⟩
       rcases List.mem_append.1 hq with hq | hq
       · exact .inr ⟨q, hq, rfl⟩
       · cases List.mem_singleton.1 hq; exact .inl rfl
   have GJ : ∀ j, 0 ≤ eo (eh (P ++ [p])) j := fun j => by
     rw [tH, BA]
     split
     · have := h.lo p.pid; omega
     · exact h.lo j
   have pD : ∀ j, eo (eh (P ++ [p])) j ≤ (P ++ [p]).length := fun j => by
     rw [tH, BA, List.length_append, List.length_singleton]
     split
     · have := h.hi p.pid; omega
     · have := h.hi j; omega
   have GK : ((P ++ [p]).Pairwise fun a b => a.pid ≠ b.pid) ↔ (P.Pairwise fun a b => a.pid ≠ b.pid) ∧ ∀ a ∈ P, a.pid ≠ p.pid := by
     rw [List.pairwise_append];exact ⟨fun h => ⟨h.1, fun a ha => h.2.2 a ha p (by simp)⟩, fun h => ⟨h.1, List.pairwise_singleton _ _, fun a ha b hb => by cases List.mem_singleton.1 hb; exact h.2 a ha⟩⟩
   have hle := h.len;cases hi : ib (eh P) p.pid with
   | none =>
     have hl : (eh (P ++ [p])).length = (eh P).length + 1 := by rw [tH, (ud hi).1]; simp
     have om : ∀ a ∈ P, a.pid ≠ p.pid := fun a ha he => by
       obtain ⟨q, hq, h1⟩ := (h.mem p.pid).2 ⟨a, ha, he⟩;exact GH.1 hi q hq h1
     refine ⟨de, by rw [hl, List.length_append, List.length_singleton]; omega, ?_, GJ, pD⟩;rw [hl, List.length_append, List.length_singleton, GK, ← h.eq];exact ⟨fun h1 => ⟨by omega, om⟩, fun h1 => by omega⟩
   | some j =>
     have hl : (eh (P ++ [p])).length = (eh P).length := by rw [tH, (uf hi).2]; simp
     refine ⟨de, by rw [hl, List.length_append, List.length_singleton]; omega, ?_, GJ, pD⟩;rw [hl, List.length_append, List.length_singleton, GK]
     constructor
     · intro h1; omega
     · intro ⟨_, h1⟩;exfalso;have h2 := (uf (v := 0) hi).1;obtain ⟨a, ha, h3⟩ := (h.mem p.pid).1 ⟨_, List.mem_of_getElem? h2, rfl⟩;exact h1 a ha h3
theorem GL {x y : aB} : ((if bm x y = true then (-1 : Int) else if bm y x = true then 1 else 0) > 0) ↔ bm y x = true := by
 cases h1 : bm x y <;> cases h2 : bm y x <;> simp
 have := jM.as _ _ h1;rw [h2] at this; cases this
def dQ (w : List (List aB)) (k i : Nat) : List aB := (w.take k).flatten ++ (w.getD k []).take i
theorem GM (w : List (List aB)) (k : Nat) : dQ w k 0 = (w.take k).flatten := by simp [dQ]
theorem N5 {w : List (List aB)} {k i : Nat} (hk : k < w.length) (hi : i < w[k].length) : dQ w k (i + 1) = dQ w k i ++ [w[k][i]] := by
 have e : w.getD k [] = w[k] := by rw [List.getD_eq_getElem?_getD, List.getElem?_eq_getElem hk]; rfl
 rw [dQ, dQ, e, List.take_add_one, List.getElem?_eq_getElem hi, List.append_assoc]; rfl
theorem N6 {w : List (List aB)} {k i : Nat} (hk : k < w.length) (hi : w[k].length ≤ i) : dQ w k i = (w.take (k + 1)).flatten := by
 have e : w.getD k [] = w[k] := by rw [List.getD_eq_getElem?_getD, List.getElem?_eq_getElem hk]; rfl
 rw [dQ, e, List.take_of_length_le hi, tG hk]
theorem N7 {w : List (List aB)} {k i : Nat} (hk : k < w.length) : (dQ w k i).length ≤ (bf w).length := by
 have e : w.getD k [] = w[k] := by rw [List.getD_eq_getElem?_getD, List.getElem?_eq_getElem hk]; rfl
 have h := Bz (w := w) (k + 1);rw [tG hk, List.length_append] at h;rw [dQ, e, List.length_append, List.length_take];show _ ≤ w.flatten.length;omega
structure nP (l : List aB) (k j : Nat) : Prop where
 ok : ∀ p ∈ l.take j, eC p = true
 at_ : ∀ p ∈ l.take j, p.tm.tmod 9 = (k : Int)
 gb : (l.take j).Pairwise fun a b => bm b a = false
theorem nP.zero (l : List aB) (k : Nat) : nP l k 0 := ⟨fun p hp => by simp at hp, fun p hp => by simp at hp, by simp⟩
theorem nP.snoc {l : List aB} {k j : Nat} (hj : j < l.length) (h : nP l k j) (ok : eC l[j] = true) (N8 : l[j].tm.tmod 9 = (k : Int)) (lt : 0 < j → bm l[j] (l[j - 1]'(by omega)) = false) : nP l k (j + 1) := by
 have e : l.take (j + 1) = l.take j ++ [l[j]] := by rw [List.take_add_one, List.getElem?_eq_getElem hj]; rfl
 refine ⟨?_, ?_, ?_⟩
 · intro p hp;rw [e, List.mem_append] at hp;rcases hp with hp | hp
   · exact h.ok p hp
   · cases List.mem_singleton.1 hp; exact ok
 · intro p hp;rw [e, List.mem_append] at hp;rcases hp with hp | hp
   · exact h.at_ p hp
   · cases List.mem_singleton.1 hp; exact N8
 · rw [e, List.pairwise_append];refine ⟨h.gb, List.pairwise_singleton _ _, fun a ha b hb => ?_⟩;cases List.mem_singleton.1 hb;obtain ⟨m, hm⟩ := List.mem_iff_getElem?.1 ha;rw [List.getElem?_take] at hm
   split at hm
   · rename_i N2;have hl := lt (by omega);rcases Nat.lt_or_ge m (j - 1) with h1 | h1
     · have h2 := (List.pairwise_iff_getElem.1 h.gb) m (j - 1) (by rw [List.length_take]; omega) (by rw [List.length_take]; omega) h1;simp only [List.getElem_take] at h2;rw [List.getElem?_eq_getElem (by omega)] at hm;cases hm;exact jM.ng _ _ _ hl h2
     · obtain rfl : m = j - 1 := by omega
       rw [List.getElem?_eq_getElem (by omega)] at hm;cases hm; exact hl
   · cases hm
def vG (w : List (List aB)) (k : Nat) : Prop := ∀ (m : Nat) l, m < k → w[m]? = some l → nP l m l.length
theorem vG.snoc {w : List (List aB)} {k : Nat} (hk : k < w.length) (h : vG w k) (hr : nP w[k] k w[k].length) : vG w (k + 1) := by
 intro m l hm hl;rcases Nat.lt_or_ge m k with h1 | h1
 · exact h m l h1 hl
 · obtain rfl : m = k := by omega
   rw [List.getElem?_eq_getElem hk] at hl;cases hl;exact hr
theorem kF.ek {w : List (List aB)} (h : kF w) {k : Nat} (hk : k < w.length) {j : Nat} (hj : j < w[k].length) : eC w[k][j] = true ∧ w[k][j].tm.tmod 9 = (k : Int) ∧ (0 < j → bm w[k][j] (w[k][j - 1]'(by omega)) = false) := by
 obtain ⟨h1, h2⟩ := h.row hk hj;refine ⟨h.ok _ ?_, h1, fun h0 => jM.as _ _ (h2 h0)⟩;exact List.mem_flatten.2 ⟨w[k], List.getElem_mem hk, List.getElem_mem hj⟩
theorem N9 {w : List (List aB)} (h9 : w.length = 9) (hs : vG w w.length) : bz w = (decide ((bf w).length ≤ 10) && (((eh (bf w)).length : Int) == ((bf w).length : Int))) := by
 have hc := (yk (bf w)).eq
 have key : kF w ↔ (bf w).length ≤ 10 ∧ (eh (bf w)).length = (bf w).length := by
  constructor
  · exact fun h => ⟨h.dq, hc.2 h.ne⟩
  · intro ⟨h1, h2⟩;have aX := hc.1 h2
    have get : ∀ l ∈ w, ∃ m, w[m]? = some l ∧ nP l m l.length := fun l hl => by
      obtain ⟨m, hm⟩ := List.mem_iff_getElem?.1 hl;exact ⟨m, hm, hs m l (bK hm) hm⟩
    refine ⟨h9, h1, fun p hp => ?_, aX, fun k l hl p hp => ?_, fun l hl => ?_⟩
    · obtain ⟨l, hl, hp⟩ := List.mem_flatten.1 hp;obtain ⟨m, hm, hr⟩ := get l hl;exact hr.ok p (by rw [List.take_length]; exact hp)
    · exact (hs k l (bK hl) hl).at_ p (by rw [List.take_length]; exact hp)
    · obtain ⟨m, hm, hr⟩ := get l hl;have h3 := hr.gb;rw [List.take_length] at h3;have h4 := (List.pairwise_flatten.1 aX).1 l hl;refine (h3.and h4).imp fun {a b} h => ?_;cases h5 : bm a b with
      | true => rfl
      | false => exact absurd (congrArg aB.pid (uF a b h5 h.1)) h.2
 rw [Bool.eq_iff_iff];simp only [bz, decide_eq_true_eq, Bool.and_eq_true, beq_iff_eq];rw [key]
 constructor
 · intro ⟨h1, h2⟩; exact ⟨h1, by rw [h2]⟩
 · intro ⟨h1, h2⟩; exact ⟨h1, by omega⟩
set_option maxHeartbeats 1000000 in
theorem tI (w : List (List aB)) (hw : fa w) (b : Bool) (hb : b = bz w) : Spec Tryz.prog 114 [iU w] (aE (bR fun _ => b)) := by
 refine ay au Tryz.func114 rfl rfl (fr := true) (fun _ => by kernel_rfl) fun P hP hA => ?_;have hl : w.length ≤ 1048576 := hw.1;have oq : (bf w).length ≤ 1099511627776 := hw.2;obtain ⟨⟨⟨ha, fy⟩, _⟩, _⟩ := hA;have fy : ∀ x ∈ w, x.length ≤ 9223372036854775807 := fy;have no : ¬ kF w → b = false := fun h => hb.trans (GG h);cbv;refine Br.split (fun h9 => ?_) (fun h9 => ?_) <;> cbv
 · refine ⟨?_, trivial⟩;exact (no (fun h => by have := h.len; simp [this] at h9)).symm
 have h9 : ((w.length : Int) != 9) = false := h9;have h9 : w.length = 9 := by simp at h9; omega
 refine aU.by (X := Nat) (fun k => [(3, oN 0), (4, nT fun _ => (dQ w k 0).length), (15, lA .bZ w), (16, nT fun _ => w.length), (17, nT fun _ => k)]) (fun k => [(0, .mp fun _ => eh (dQ w k 0))]) (fun k => k ≤ w.length ∧ vG w k) (fun k _ => w.length - k) 0 ⟨Nat.zero_le _, fun m l hm => by omega⟩ ?_ ?_
 · cbv
   repeat' first | exact trivial | refine ⟨rfl, ?_⟩ | fail
 · intro k ⟨hk, hs⟩;cbv;refine Br.dec (fun h2 => ?_) (fun h2 => ?_) <;> cbv
   rotate_left
   · have h2 : w.length ≤ k := by simp at h2; omega
     have bC : k ≤ w.length := hk;obtain rfl : k = w.length := by omega
     have ea : dQ w w.length 0 = bf w := by rw [GM, List.take_length]; rfl
     have hq := N9 h9 hs;refine Br.dec (fun h3 => ?_) (fun h3 => ?_) <;> cbv
     · refine ⟨?_, trivial⟩;have h3 : ((dQ w w.length 0).length : Int) ≤ 10 := h3;show (((eh (dQ w w.length 0)).length : Int) == ((dQ w w.length 0).length : Int)) = b;rw [ea] at h3 ⊢;rw [hb, hq, decide_eq_true (by omega), Bool.true_and]
     · refine ⟨?_, trivial⟩;have h3 : ¬ ((dQ w w.length 0).length : Int) ≤ 10 := h3;rw [ea] at h3;rw [hb, hq, decide_eq_false (by omega), Bool.false_and]
   have h2 : k < w.length := by simpa using h2
   have Rw : (w[k]).length ≤ 9223372036854775807 := fy _ (List.getElem_mem h2);refine ⟨w[k], by simp, get_cast w h2, ?_⟩;cbv;refine aU.by (X := Nat) (fun i => [(3, oN 0), (4, nT fun _ => (dQ w k i).length), (5, nT fun _ => k), (6, lT .aI fun _ => w[k]), (15, lA .bZ w), (16, nT fun _ => w.length), (17, nT fun _ => k), (22, lT .aI fun _ => w[k]), (23, nT fun _ => w[k].length), (24, nT fun _ => i)]) (fun i => [(0, .mp fun _ => eh (dQ w k i))]) (fun i => i ≤ w[k].length ∧ nP w[k] k i) (fun i _ => w[k].length - i) 0 ⟨Nat.zero_le _, nP.zero _ _⟩ ?_ ?_
   · cbv
     repeat' first | exact trivial | refine ⟨rfl, ?_⟩ | fail
   · intro i ⟨hi, hr⟩;have zA := N7 (i := i) h2;have fc := (yk (dQ w k i)).len;cbv;refine Br.dec (fun h3 => ?_) (fun h3 => ?_) <;> cbv
     rotate_left
     · have h3 : w[k].length ≤ i := by simp at h3; omega
       have nO : i ≤ w[k].length := hi;obtain rfl : i = w[k].length := by omega
       have e : dQ w k w[k].length = dQ w (k + 1) 0 := by rw [N6 h2 (Nat.le_refl _), GM]
       refine Ar.exact (by (try simp only [nc] at *); omega) (by (try simp only [nc] at *); omega) ?_;cbv;refine aP.by (k + 1) ?_ ?_ ?_
       · show w.length - (k + 1) < w.length - k;omega
       · exact ⟨h2, hs.snoc h2 hr⟩
       · cbv;rw [e]
         repeat' first | exact trivial | refine ⟨rfl, ?_⟩ | fail
     have h3 : i < w[k].length := by simpa using h3
     have Rx := (yk (dQ w k i)).lo w[k][i].pid;have Ry := (yk (dQ w k i)).hi w[k][i].pid;have GN := N5 h2 h3;have N_ : (dQ w k (i + 1)).length = (dQ w k i).length + 1 := by rw [GN]; simp
     have GO : eh (dQ w k (i + 1)) = iJ (eh (dQ w k i)) w[k][i].pid (eo (eh (dQ w k i)) w[k][i].pid + 1) := by rw [GN, tH]
     have GP : -9223372036854775808 ≤ eo (eh (dQ w k i)) w[k][i].pid + 1 := by omega
     have GQ : eo (eh (dQ w k i)) w[k][i].pid + 1 ≤ 9223372036854775807 := by omega
     have GR : (eh (dQ w k i)).length < 9223372036854775807 := by omega
     have GS : -9223372036854775808 ≤ ((dQ w k i).length : Int) + 1 := by omega
     have GU : ((dQ w k i).length : Int) + 1 ≤ 9223372036854775807 := by omega
     have GV : ((dQ w k i).length : Int) + 1 = ((dQ w k (i + 1)).length : Int) := by rw [N_]; omega
     have GW : -9223372036854775808 ≤ (i : Int) + 1 := by omega
     have GX : (i : Int) + 1 ≤ 9223372036854775807 := by omega
     refine ⟨w[k][i], by simp, get_cast w[k] h3, ?_⟩;cbv;refine ag.by hP (Bo w[k][i]) ?_;cbv;refine Br.split (fun k0 => ?_) (fun k0 => ?_) <;> cbv
     · refine ⟨?_, trivial⟩;have k0 : (!eC w[k][i]) = true := k0;exact (no (fun h => by have := (h.ek h2 h3).1; rw [this] at k0; cases k0)).symm
     have k0 : (!eC w[k][i]) = false := k0;have k0 : eC w[k][i] = true := by simpa using k0
     refine ⟨by decide, ?_⟩;cbv;refine Br.split (fun k1 => ?_) (fun k1 => ?_) <;> cbv
     · refine ⟨?_, trivial⟩;have k1 : (w[k][i].tm.tmod 9 != (k : Int)) = true := k1;exact (no (fun h => by have := (h.ek h2 h3).2.1; rw [this] at k1; simp at k1)).symm
     have k1 : (w[k][i].tm.tmod 9 != (k : Int)) = false := k1;have k1 : w[k][i].tm.tmod 9 = (k : Int) := by simpa using k1
     refine Br.dec (fun k2 => ?_) (fun k2 => ?_) <;> cbv
     · have k2 : 0 < i := by simpa using k2
       have h4 : i - 1 < w[k].length := by omega
       have oj : 0 ≤ (i : Int) - 1 := by omega
       have gj : w[k][((i : Int) - 1).toNat]? = some w[k][i - 1] := by rw [show ((i : Int) - 1).toNat = i - 1 by omega]; exact List.getElem?_eq_getElem h4
       refine Ar.exact (by (try simp only [nc] at *); omega) (by (try simp only [nc] at *); omega) ?_;cbv;refine ⟨w[k][i - 1], oj, gj, ?_⟩;cbv;refine ag.by hP (Bn w[k][i - 1] w[k][i]) ?_;cbv;refine Br.dec (fun k3 => ?_) (fun k3 => ?_) <;> cbv
       · refine ⟨?_, trivial⟩;have k3 := GL.1 k3;exact (no (fun h => by have := (h.ek h2 h3).2.2 k2; rw [this] at k3; cases k3)).symm
       have k3 : bm w[k][i] w[k][i - 1] = false := by
         cases h5 : bm w[k][i] w[k][i - 1] with
         | false => rfl
         | true => exact absurd (GL.2 h5) k3
       refine Ar.exact GP GQ ?_;cbv;refine ⟨GR, ?_⟩;cbv;refine Ar.exact GS GU ?_;cbv;refine Ar.exact GW GX ?_;cbv;refine aP.by (i + 1) ?_ ?_ ?_
       · show w[k].length - (i + 1) < w[k].length - i;omega
       · exact ⟨h3, hr.snoc h3 k0 k1 fun _ => k3⟩
       · cbv;refine ⟨GV, ?_⟩
         repeat' first | exact trivial | refine ⟨rfl, ?_⟩ | fail
         refine ⟨GO.symm, ?_⟩
         repeat' first | exact trivial | refine ⟨rfl, ?_⟩ | fail
     · have k2 : ¬ 0 < i := by simpa using k2
       refine Ar.exact GP GQ ?_;cbv;refine ⟨GR, ?_⟩;cbv;refine Ar.exact GS GU ?_;cbv;refine Ar.exact GW GX ?_;cbv;refine aP.by (i + 1) ?_ ?_ ?_
       · show w[k].length - (i + 1) < w[k].length - i;omega
       · exact ⟨h3, hr.snoc h3 k0 k1 fun h => absurd h k2⟩
       · cbv;refine ⟨GV, ?_⟩
         repeat' first | exact trivial | refine ⟨rfl, ?_⟩ | fail
         refine ⟨GO.symm, ?_⟩
         repeat' first | exact trivial | refine ⟨rfl, ?_⟩ | fail
theorem BB {w : List (List aB)} (h : bz w = true) : bL w = dk bm (bf w) := if_pos h
theorem BC {w : List (List aB)} (h : bz w = false) : bL w = [] := if_neg (by rw [h]; simp)
theorem yl {w : List (List aB)} (h : bz w = true) : kF w := by simpa [bz] using h
theorem GY (w : List (List aB)) (hw : fa w) (x : List aB) (hx : x = bL w) : Spec Tryz.prog 229 [iU w] (aE (lR .aI fun _ => x)) := by
 refine ay au Tryz.func229 rfl rfl (fr := true) (fun _ => by kernel_rfl) fun P hP hA => ?_;cbv;refine ag.by hP (vF w hw (bz w) rfl) ?_;cbv;refine Br.split (fun k0 => ?_) (fun k0 => ?_) <;> cbv
 · have k0 : bz w = false := by simpa using k0
   obtain rfl : x = [] := hx.trans (BC k0)
   repeat' first | exact trivial | refine ⟨rfl, ?_⟩ | fail
 have k0 : bz w = true := by simpa using k0
 have hx := hx.trans (BB k0);have dq := (yl k0).dq;refine ag.by hP (GF w hw) ?_;cbv;refine aU.by (X := Nat) (fun i => [(3, oN 0), (4, oN 1), (5, nT fun _ => i)]) (fun i => [(0, aN .aI fun _ => ig bm ((bf w).take i)), (1, aN .aI fun _ => bf w)]) (fun i => i ≤ (bf w).length) (fun i _ => (bf w).length - i) 0 (Nat.zero_le _) ?_ ?_
 · cbv
   repeat' first | exact trivial | refine ⟨rfl, ?_⟩ | fail
 · intro i hi;cbv;refine Br.dec (fun h2 => ?_) (fun h2 => ?_) <;> cbv
   rotate_left
   · have h2 : (bf w).length ≤ i := by simp at h2; omega
     refine ⟨?_, trivial⟩;show ig bm ((bf w).take i) = x;rw [List.take_of_length_le h2, w_ jM uF, hx]
   have h2 : i < (bf w).length := by simpa using h2
   have gi : (bf w).getD ((i : Int)).toNat default = (bf w)[i] := by rw [Int.toNat_natCast, List.getD_eq_getElem?_getD, List.getElem?_eq_getElem h2]; rfl
   have oi : 0 ≤ (i : Int) ∧ (i : Int) < ((bf w).length : Int) := by omega
   have st : bS bm ((bf w).getD ((i : Int)).toNat default) (ig bm ((bf w).take i)) = ig bm ((bf w).take (i + 1)) := by
     rw [gi, ← zE, List.take_add_one, List.getElem?_eq_getElem h2]; rfl
   refine ⟨oi, ?_⟩;cbv;refine ag.by hP (Bx (ig bm ((bf w).take i)) ((bf w).getD ((i : Int)).toNat default) (by rw [w_ jM uF, mz, List.length_take]; show _ ≤ 1048576; omega)) ?_;cbv;refine Ar.exact (by (try simp only [nc] at *); omega) (by (try simp only [nc] at *); omega) ?_;cbv;refine aP.by (i + 1) ?_ ?_ ?_
   · show (bf w).length - (i + 1) < (bf w).length - i;omega
   · exact h2
   · cbv
     repeat' first | exact trivial | refine ⟨rfl, ?_⟩ | fail
     refine ⟨st, ?_⟩
     repeat' first | exact trivial | refine ⟨rfl, ?_⟩ | fail
theorem GZ (w : List (List aB)) (hw : fa w) (x : List aB) (hx : x = bL w) : Spec Tryz.prog 196 [iU w] (aE (lR .aI fun _ => x)) := by
 refine ay au Tryz.func196 rfl rfl (fr := true) (fun _ => by kernel_rfl) fun P hP hA => ?_;cbv;refine ag.by hP (tI w hw (bz w) rfl) ?_;cbv;refine Br.split (fun k0 => ?_) (fun k0 => ?_) <;> cbv
 · have k0 : bz w = false := by simpa using k0
   obtain rfl : x = [] := hx.trans (BC k0)
   repeat' first | exact trivial | refine ⟨rfl, ?_⟩ | fail
 have k0 : bz w = true := by simpa using k0
 have hx := hx.trans (BB k0);have dq := (yl k0).dq;have h9 := (yl k0).len;refine aU.by (X := Nat) (fun i => [(3, oN 0), (10, lA .bZ w), (11, nT fun _ => w.length), (12, nT fun _ => i)]) (fun i => [(0, aN .aI fun _ => (w.take i).flatten)]) (fun i => i ≤ w.length) (fun i _ => w.length - i) 0 (Nat.zero_le _) ?_ ?_
 · cbv
   repeat' first | exact trivial | refine ⟨rfl, ?_⟩ | fail
 · intro i hi;cbv;refine Br.dec (fun h2 => ?_) (fun h2 => ?_) <;> cbv
   rotate_left
   · have h2 : w.length ≤ i := by simp at h2; omega
     have e : (w.take i).flatten = bf w := by rw [List.take_of_length_le h2]; rfl
     refine bB.by hP (NP ((w.take i).flatten) (by rw [e]; exact dq)) ?_;cbv;refine ⟨?_, trivial⟩;show dk bm (w.take i).flatten = x;rw [e, hx]
   have h2 : i < w.length := by simpa using h2
   have ob : (List.length (w.take i).flatten + List.length w[i]) * 16 ≤ 140737488355328 := by
     have h3 := Bz (w := w) (i + 1);rw [tG h2, List.length_append] at h3;have h4 : w.flatten.length ≤ 10 := dq;omega
   refine ⟨w[i], by simp, get_cast w h2, ?_⟩;cbv;refine ⟨ob, ?_⟩;cbv;refine Ar.exact (by (try simp only [nc] at *); omega) (by (try simp only [nc] at *); omega) ?_;cbv;refine aP.by (i + 1) ?_ ?_ ?_
   · show w.length - (i + 1) < w.length - i;omega
   · exact h2
   · cbv
     repeat' first | exact trivial | refine ⟨rfl, ?_⟩ | fail
     refine ⟨(tG h2).symm, trivial⟩
def kG (c : bd) : Bool := a_ c.aj && (dI c.row && bz c.spoke)
def fI (R : bI) (c : bd) (l : List aw) (k now : Int) : Bool :=
 kG c && (decide (c.row = fH R l k now) && (decide (bL c.spoke = gO l k) && ((c.aj.held == ((af (cz k) l : Nat) : Int)) && (c.aj.tied == ((af (cF k) l : Nat) : Int)))))
theorem Oa (c : bd) (hw : fa c.spoke) (b : Bool) (hb : b = kG c) : Spec Tryz.prog 226 [eA .ah c] (aE (bR fun _ => b)) := by
 refine ay au Tryz.func226 rfl rfl (fr := true) (fun _ => by kernel_rfl) fun P hP hA => ?_;cbv
 repeat' first
  | (refine ag.by hP (Bg c.aj (a_ c.aj) rfl) ?_; cbv)
  | (refine ag.by hP (ND c.row (dI c.row) rfl) ?_; cbv)
  | (refine ag.by hP (vF c.spoke hw (bz c.spoke) rfl) ?_; cbv)
  | (refine Br.split (fun h => ?_) (fun h => ?_) <;> cbv)
  | fail
 all_goals refine ⟨?_, trivial⟩
 all_goals simp_all [kG]
theorem Oc (c : bd) (hw : fa c.spoke) (b : Bool) (hb : b = kG c) : Spec Tryz.prog 248 [eA .ah c] (aE (bR fun _ => b)) := by
 refine ay au Tryz.func248 rfl rfl (fr := true) (fun _ => by kernel_rfl) fun P hP hA => ?_;cbv
 repeat' first
  | (refine ag.by hP (k9 c.aj (a_ c.aj) rfl) ?_; cbv)
  | (refine ag.by hP (vA c.row (dI c.row) rfl) ?_; cbv)
  | (refine ag.by hP (tI c.spoke hw (bz c.spoke) rfl) ?_; cbv)
  | (refine Br.split (fun h => ?_) (fun h => ?_) <;> cbv)
  | fail
 all_goals refine ⟨?_, trivial⟩
 all_goals simp_all [kG]
set_option maxHeartbeats 1000000 in
theorem Od (R : bI) (c : bd) (l : List aw) (k now : Int) (hs : R.aj.length ≤ bc) (hl : l.length ≤ bc) (hw : fa c.spoke) (b : Bool) (hb : b = fI R c l k now) :
   Spec Tryz.prog 167 [gM R, eA .ah c, lA .aG l, iA k, iA now] (aE (bR fun _ => b)) := by
 refine ay au Tryz.func167 rfl rfl (fr := true) (fun _ => by kernel_rfl) fun P hP hA => ?_;cbv
 repeat (refine Pz.mk ?_; cbv)
 repeat (refine Pz.mk ?_; cbv)
 refine ag.by hP (Oa c hw (kG c) rfl) ?_;cbv
 repeat (refine Pz.mk ?_; cbv)
 refine Br.split (fun k0 => ?_) (fun k0 => ?_) <;> (cbv; repeat (refine Pz.mk ?_; cbv))
 rotate_left
 · refine ⟨?_, trivial⟩;have k0 : kG c = false := k0;simp [hb, fI, k0]
 have k0 : kG c = true := k0;refine ag.by hP (GA R l k now hs hl) ?_;cbv
 repeat (refine Pz.mk ?_; cbv)
 refine ag.by hP (NG c.row (fH R l k now)) ?_;cbv
 repeat (refine Pz.mk ?_; cbv)
 refine Br.split (fun k1 => ?_) (fun k1 => ?_) <;> (cbv; repeat (refine Pz.mk ?_; cbv))
 rotate_left
 · refine ⟨?_, trivial⟩;have k1 : decide (c.row = fH R l k now) = false := k1;rw [hb, fI, k0, k1]; rfl
 have k1 : decide (c.row = fH R l k now) = true := k1
 repeat' first
   | (refine ag.by hP (GY c.spoke hw (bL c.spoke) rfl) ?_; cbv; repeat (refine Pz.mk ?_; cbv))
   | (refine ag.by hP (NZ l k hl) ?_; cbv; repeat (refine Pz.mk ?_; cbv))
   | refine And.intro ?_ ?_
   | fail
 all_goals
   refine ag.by hP (NH (bL c.spoke) (gO l k)) ?_;cbv
   repeat (refine Pz.mk ?_; cbv)
   refine Br.split (fun k2 => ?_) (fun k2 => ?_) <;> (cbv; repeat (refine Pz.mk ?_; cbv))
   rotate_left
   · refine ⟨?_, trivial⟩;have k2 : decide (bL c.spoke = gO l k) = false := k2;rw [hb, fI, k0, k1, k2]; rfl
   have k2 : decide (bL c.spoke = gO l k) = true := k2;refine ag.by hP (M7 l k hl) ?_;cbv
   repeat (refine Pz.mk ?_; cbv)
   refine Br.split (fun k3 => ?_) (fun k3 => ?_) <;> (cbv; repeat (refine Pz.mk ?_; cbv))
   rotate_left
   · refine ⟨?_, trivial⟩;have k3 : (c.aj.held == ((af (cz k) l : Nat) : Int)) = false := k3;rw [hb, fI, k0, k1, k2, k3]; rfl
   have k3 : (c.aj.held == ((af (cz k) l : Nat) : Int)) = true := k3;refine ag.by hP (M8 l k hl) ?_;cbv
   repeat (refine Pz.mk ?_; cbv)
   refine ⟨?_, trivial⟩;rw [hb, fI, k0, k1, k2, k3]; rfl
set_option maxHeartbeats 1000000 in
theorem Oe (R : bI) (c : bd) (l : List aw) (k now : Int) (hs : R.aj.length ≤ bc) (hl : l.length ≤ bc) (hw : fa c.spoke) (he : (fe R k now l).length ≤ 10) (hp : (fA k l).length ≤ 10)
   (b : Bool) (hb : b = fI R c l k now) : Spec Tryz.prog 210 [gM R, eA .ah c, lA .aG l, iA k, iA now] (aE (bR fun _ => b)) := by
 refine ay au Tryz.func210 rfl rfl (fr := true) (fun _ => by kernel_rfl) fun P hP hA => ?_;cbv
 repeat (refine Pz.mk ?_; cbv)
 repeat (refine Pz.mk ?_; cbv)
 refine ag.by hP (Oc c hw (kG c) rfl) ?_;cbv
 repeat (refine Pz.mk ?_; cbv)
 refine Br.split (fun k0 => ?_) (fun k0 => ?_) <;> (cbv; repeat (refine Pz.mk ?_; cbv))
 rotate_left
 · refine ⟨?_, trivial⟩;have k0 : kG c = false := k0;simp [hb, fI, k0]
 have k0 : kG c = true := k0;refine ag.by hP (GC R l k now hs hl he) ?_;cbv
 repeat (refine Pz.mk ?_; cbv)
 refine ag.by hP (NI c.row (fH R l k now)) ?_;cbv
 repeat (refine Pz.mk ?_; cbv)
 refine Br.split (fun k1 => ?_) (fun k1 => ?_) <;> (cbv; repeat (refine Pz.mk ?_; cbv))
 rotate_left
 · refine ⟨?_, trivial⟩;have k1 : decide (c.row = fH R l k now) = false := k1;rw [hb, fI, k0, k1]; rfl
 have k1 : decide (c.row = fH R l k now) = true := k1
 repeat' first
   | (refine ag.by hP (GZ c.spoke hw (bL c.spoke) rfl) ?_; cbv; repeat (refine Pz.mk ?_; cbv))
   | (refine ag.by hP (NY l k hl hp) ?_; cbv; repeat (refine Pz.mk ?_; cbv))
   | refine And.intro ?_ ?_
   | fail
 all_goals
   refine ag.by hP (NJ (bL c.spoke) (gO l k)) ?_;cbv
   repeat (refine Pz.mk ?_; cbv)
   refine Br.split (fun k2 => ?_) (fun k2 => ?_) <;> (cbv; repeat (refine Pz.mk ?_; cbv))
   rotate_left
   · refine ⟨?_, trivial⟩;have k2 : decide (bL c.spoke = gO l k) = false := k2;rw [hb, fI, k0, k1, k2]; rfl
   have k2 : decide (bL c.spoke = gO l k) = true := k2;refine ag.by hP (M9 l k hl) ?_;cbv
   repeat (refine Pz.mk ?_; cbv)
   refine Br.split (fun k3 => ?_) (fun k3 => ?_) <;> (cbv; repeat (refine Pz.mk ?_; cbv))
   rotate_left
   · refine ⟨?_, trivial⟩;have k3 : (c.aj.held == ((af (cz k) l : Nat) : Int)) = false := k3;rw [hb, fI, k0, k1, k2, k3]; rfl
   have k3 : (c.aj.held == ((af (cz k) l : Nat) : Int)) = true := k3;refine ag.by hP (M_ l k hl) ?_;cbv
   repeat (refine Pz.mk ?_; cbv)
   refine ⟨?_, trivial⟩;rw [hb, fI, k0, k1, k2, k3]; rfl
end Go.Proofs.YticeaiiffeccmaaGreat

