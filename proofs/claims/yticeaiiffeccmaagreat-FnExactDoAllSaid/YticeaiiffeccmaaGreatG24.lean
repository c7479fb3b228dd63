/- Parts of a proof. No conditions. -/

import Derived.Test.YticeaiiffeccmaaGreatG19
import Derived.Test.YticeaiiffeccmaaGreatG18
import Derived.Test.YticeaiiffeccmaaGreatG23
set_option linter.unusedSimpArgs false
set_option linter.unusedVariables false
namespace Go.Proofs.YticeaiiffeccmaaGreat
open Go
set_option maxRecDepth 100000
def jA (l : List aB) (p : aB) : Int := iD (fun q => decide (q = p)) l
def fh (p : aB) : Nat := (p.tm.tmod 9).toNat
def bJ (w : List (List aB)) (p : aB) : List aB := w.getD (fh p) []
def gQ (w : List (List aB)) (p : aB) : Bool := bz w && (decide (1 ≤ p.tm) && decide (0 ≤ jA (bJ w p) p))
def h_ (w : List (List aB)) (p : aB) : List (List aB) := if gQ w p = true then w.set (fh p) (cutAt (bJ w p) (jA (bJ w p) p)) else w
def dR (w : List (List aB)) (p : aB) : List (List aB) := w.set (fh p) (bS bm p (bJ w p))
def gf (w : List (List aB)) (p : aB) : Bool := bz w && (decide (1 ≤ p.tm) && bz (dR w p))
def lp (w : List (List aB)) (p : aB) : List (List aB) := if gf w p = true then dR w p else w
theorem HM {a b : aB} : a = b ↔ a.tm = b.tm ∧ a.pid = b.pid := by
 constructor
 · rintro rfl; exact ⟨rfl, rfl⟩
 · intro ⟨h1, h2⟩;cases a; cases b;simp only at h1 h2;subst h1 h2;rfl
theorem wG {w : List (List aB)} (h : bz w = true) : kF w := of_decide_eq_true h
theorem HN {w : List (List aB)} : bz w = true ↔ kF w := ⟨wG, fun h => decide_eq_true h⟩
theorem rQ {w : List (List aB)} (h : bz w = true) {p : aB} (hp : 1 ≤ p.tm) : (0 ≤ p.tm.tmod 9 ∧ p.tm.tmod 9 < (w.length : Int)) ∧ fh p < w.length := by
 have h9 := (wG h).len;have h1 : 0 ≤ p.tm.tmod 9 := Int.tmod_nonneg _ (by omega);have h2 : p.tm.tmod 9 < 9 := Int.tmod_lt_of_pos _ (by omega);have e : fh p = (p.tm.tmod 9).toNat := rfl;omega
theorem HO {w : List (List aB)} {k : Nat} {l : List aB} (hk : w[k]? = some l) {q : aB} (hq : q ∈ l) : q ∈ bf w := List.mem_flatten.2 ⟨l, List.mem_of_getElem? hk, hq⟩
theorem BX {α : Type} {l : List α} {d : α} {k : Nat} (h : k < l.length) : l[k]? = some (l.getD k d) := by
 rw [List.getD_eq_getElem?_getD, List.getElem?_eq_getElem h]; rfl
theorem Pd {w : List (List aB)} (h : bz w = true) {p : aB} (hp : eC p = false) {k : Nat} (hk : k < w.length) : jA (w.getD k []) p < 0 := by
 rcases im (fun q : aB => decide (q = p)) (w.getD k []) with ⟨e, _⟩ | ⟨i, hi, _, e, _⟩
 · have e : jA (w.getD k []) p = -1 := e;omega
 · have e : (w.getD k [])[i] = p := of_decide_eq_true e;have h1 := (wG h).ok p (HO (BX hk) (e ▸ List.getElem_mem hi));rw [hp] at h1; cases h1
theorem tR {w : List (List aB)} (h : bz w = true) {k : Nat} (hk : k < w.length) : (w.getD k []).length ≤ 10 := by
 have h1 := (wG h).dq
 have h2 : ∀ {w : List (List aB)} {l : List aB}, l ∈ w → l.length ≤ w.flatten.length := by
  intro w l hl
  induction w with
  | nil => cases hl
  | cons a w ih =>
    simp only [List.flatten_cons, List.length_append];rcases List.mem_cons.1 hl with rfl | hl
    · omega
    · have := ih hl; omega
 exact Nat.le_trans (h2 (List.mem_of_getElem? (BX hk))) h1
theorem HP {w : List (List aB)} (h : bz w = true) {p : aB} {k : Nat} (hk : k < w.length) : iW (w.set k (bS bm p (w.getD k []))) := by
 have h9 := (wG h).len;refine ⟨by rw [List.length_set]; show _ ≤ 1048576; omega, fun x hx => ?_⟩;rcases List.mem_or_eq_of_mem_set hx with q | rfl
 · obtain ⟨j, hj⟩ := List.mem_iff_getElem?.1 q;have := tR h (bK hj);rw [List.getD_eq_getElem?_getD, hj] at this;have this : x.length ≤ 10 := this;show _ ≤ 1048576; omega
 · rw [w7];have := tR h hk;show _ ≤ 1048576; omega
theorem Pe {w : List (List aB)} {p : aB} (hp : eC p = false) {k : Nat} (hk : k < w.length) : bz (w.set k (bS bm p (w.getD k []))) = false := by
 cases hb : bz (w.set k (bS bm p (w.getD k []))) with
 | false => rfl
 | true =>
   have h1 := (wG hb).ok p (HO (k := k) (l := bS bm p (w.getD k [])) (by rw [List.getElem?_set]; simp [hk]) (qW.2 (.inl rfl)));rw [hp] at h1; cases h1
theorem fa.small {w : List (List aB)} (h : iW w) : fa w := fa.of h.1 h.2
theorem Pf (a : List aB) (v : aB) (x : Int) (hx : x = jA a v) : Spec Tryz.prog 198 [lA .aI a, eA .aI v] (aE (iR fun _ => x)) := by
 refine ay au Tryz.func198 rfl rfl (fr := true) (fun _ => by kernel_rfl) fun P hP hA => ?_;obtain ⟨⟨ha, _⟩, _⟩ := hA;have ha : a.length ≤ 9223372036854775807 := ha;cbv;refine aU.by (X := Nat) (fun i => [(0, lA .aI a), (3, pN 0), (7, nT fun _ => a.length), (8, nT fun _ => i)]) (fun _ => [(0, .box ((bQ .aI fun _ => v).map .lf))]) (fun i => i ≤ a.length ∧ ∀ (j : Nat) y, j < i → a[j]? = some y → decide (y = v) = false) (fun i _ => a.length - i) 0 ⟨Nat.zero_le _, fun j y hj => by omega⟩ ?_ ?_
 · cbv
   repeat' first | exact trivial | refine ⟨rfl, ?_⟩ | fail
 · intro i ⟨hi, hn⟩;cbv;refine Br.dec (fun h2 => ?_) (fun h2 => ?_) <;> cbv
   · have h2 : i < a.length := by simpa using h2
     refine ⟨a[i], by simp, get_cast a h2, ?_⟩;cbv;refine Br.split (fun h3 => ?_) (fun h3 => ?_) <;> cbv
     · have h3 : a[i] = v := HM.2 (by simp at h3; exact ⟨h3.1.symm, h3.2.symm⟩);refine ⟨?_, trivial⟩;exact (hx.trans (mb (p := fun y : aB => decide (y = v)) h2 (decide_eq_true h3) hn)).symm
     · have h3 : ¬ a[i] = v := fun h => by rw [h] at h3; simp at h3
       refine Ar.exact (by (try simp only [nc] at *); omega) (by (try simp only [nc] at *); omega) ?_;cbv;refine aP.by (i + 1) ?_ ?_ ?_
       · show a.length - (i + 1) < a.length - i;omega
       · exact ⟨h2, f_ h2 hn (decide_eq_false h3)⟩
       · cbv
         repeat' first | exact trivial | refine ⟨rfl, ?_⟩ | fail
   · have h2 : a.length ≤ i := by simp at h2; omega
     refine ⟨?_, trivial⟩;exact (hx.trans (mc (lh h2 hn))).symm
theorem Pg {w : List (List aB)} {p : aB} (hk : fh p < w.length) : w[(p.tm.tmod 9).toNat]? = some (bJ w p) := BX hk
theorem Ph {w : List (List aB)} {p : aB} (hk : fh p < w.length) : w.set (fh p) (bJ w p) = w := by
 have e : bJ w p = w[fh p] := by
  show w.getD (fh p) [] = _;rw [List.getD_eq_getElem?_getD, List.getElem?_eq_getElem hk]; rfl
 rw [e]; exact List.set_getElem_self hk
theorem yx {p : aB} (k1 : eC p = true) : 1 ≤ p.tm := by
 simp only [eC, Bool.and_eq_true] at k1;exact (bO k1.1).1
theorem tS {w : List (List aB)} {p : aB} {x : List (List aB)} {b : Bool} (hx : x = h_ w p) (hb : b = gQ w p) (e : gQ w p = false) : x = w ∧ b = false := ⟨hx.trans (if_neg (by rw [e]; simp)), hb.trans e⟩
theorem BY {w : List (List aB)} {p : aB} {i : Nat} (e : jA (bJ w p) p = (i : Int)) (eb : gQ w p = true) : w.set (fh p) ((bJ w p).take i ++ (bJ w p).drop (i + 1)) = h_ w p := by
 rw [h_, if_pos eb, cutAt, e, if_neg (by omega), Int.toNat_natCast]
theorem tT {w : List (List aB)} {p : aB} (k0 : bz w = true) (h1 : 1 ≤ p.tm) : gQ w p = decide (0 ≤ jA (bJ w p) p) := by
 rw [gQ, k0, decide_eq_true h1]; rfl
theorem Pj {w : List (List aB)} {p : aB} (k0 : bz w = true) (k1 : eC p = false) : gQ w p = false := by
 by_cases h1 : 1 ≤ p.tm
 · obtain ⟨_, hk⟩ := rQ k0 h1;rw [tT k0 h1];have := Pd k0 k1 hk;exact decide_eq_false (by show ¬ 0 ≤ jA (w.getD (fh p) []) p; omega)
 · rw [gQ, k0, decide_eq_false h1]; rfl
set_option maxHeartbeats 1000000 in
theorem yy (w : List (List aB)) (p : aB) (hw : iW w) (x : List (List aB)) (hx : x = h_ w p) (b : Bool) (hb : b = gQ w p) : Spec Tryz.prog 128 [iU w, eA .aI p] (aE (.aT [(true, [.own .bZ fun _ => x]), (false, [.bool fun _ => b])])) := by
 refine ay au Tryz.func128 rfl rfl (fr := true) (fun _ => by kernel_rfl) fun P hP hA => ?_;cbv;refine ag.by hP (vL w hw) ?_;cbv;refine ag.by hP (tI w (fa.small hw) (bz w) rfl) ?_;cbv;refine Br.split (fun k0 => ?_) (fun k0 => ?_) <;> cbv
 · have k0 : (!bz w) = true := k0;have k0 : bz w = false := by simpa using k0
   have e := tS hx hb (by rw [gQ, k0]; rfl);obtain rfl : x = w := e.1;obtain rfl : b = false := e.2
   repeat' first | exact trivial | refine ⟨rfl, ?_⟩ | fail
 have k0 : (!bz w) = false := k0;have k0 : bz w = true := by simpa using k0
 refine ag.by hP (Bo p) ?_;cbv;refine Br.split (fun k1 => ?_) (fun k1 => ?_) <;> cbv
 · have k1 : (!eC p) = true := k1;have k1 : eC p = false := by simpa using k1
   have e := tS hx hb (Pj k0 k1);obtain rfl : x = w := e.1;obtain rfl : b = false := e.2
   repeat' first | exact trivial | refine ⟨rfl, ?_⟩ | fail
 have k1 : (!eC p) = false := k1;have k1 : eC p = true := by simpa using k1
 have h1 := yx k1;have hh := rQ k0 h1
 repeat' first
   | exact trivial
   | (refine Ob.mk (by decide) ?_; cbv)
   | (refine Ob.mk (hh.1) ?_; cbv)
   | (refine ag.by hP (Pf (bJ w p) p (jA (bJ w p) p) rfl) ?_; cbv)
   | (refine Pz.mk ?_; cbv) | (refine bx.mk ?_ (by kernel_rfl) ?_; rotate_left; cbv; rotate_right) | refine ⟨rfl, ?_⟩ | refine And.intro ?_ ?_ | exact rfl | fail
 refine Br.dec (fun h2 => ?_) (fun h2 => ?_) <;> cbv
 · have h2 : jA (bJ w p) p < 0 := h2;have e := tS hx hb (by rw [tT k0 h1]; exact decide_eq_false (by omega));have ex : x = w := e.1;obtain rfl : b = false := e.2;have Pk : w.set (fh p) (bJ w p) = x := by rw [ex]; exact Ph hh.2
   repeat' first
    | exact trivial
    | (refine ⟨Pk, ?_⟩)
    | (refine Pz.mk ?_; cbv) | (refine bx.mk ?_ (by kernel_rfl) ?_; rotate_left; cbv; rotate_right) | refine ⟨rfl, ?_⟩ | refine And.intro ?_ ?_ | exact rfl | fail
 have h2 : ¬ jA (bJ w p) p < 0 := h2;rcases im (fun q : aB => decide (q = p)) (bJ w p) with ⟨e, _⟩ | ⟨i, hi, e, _, _⟩
 · have : jA (bJ w p) p = -1 := e;omega
 have e : jA (bJ w p) p = (i : Int) := e;have eb : gQ w p = true := by rw [tT k0 h1]; exact decide_eq_true (by omega)
 obtain rfl : b = true := hb.trans eb;have ex : w.set (fh p) ((bJ w p).take i ++ (bJ w p).drop (i + 1)) = x := (BY e eb).trans hx.symm;have hf : (bJ w p).length ≤ 10 := tR k0 hh.2;rw [e];cbv
 repeat' first
   | exact trivial
   | (refine Ob.mk (by decide) ?_; cbv)
   | (refine Ar.exact (by (try simp only [nc] at *); omega) (by (try simp only [nc] at *); omega) ?_; cbv)
   | (refine Ob.mk (hh.1) ?_; cbv)
   | (refine bB.by hP (OW (bJ w p) i hi) ?_; cbv)
   | (refine Sv.mk (fun _ => x) (ex) ?_; cbv)
   | (refine Pz.mk ?_; cbv) | (refine bx.mk ?_ (by kernel_rfl) ?_; rotate_left; cbv; rotate_right) | refine ⟨rfl, ?_⟩ | refine And.intro ?_ ?_ | exact rfl | fail
set_option maxHeartbeats 1000000 in
theorem HQ (w : List (List aB)) (p : aB) (hw : iW w) (x : List (List aB)) (hx : x = h_ w p) (b : Bool) (hb : b = gQ w p) : Spec Tryz.prog 152 [iU w, eA .aI p] (aE (.aT [(true, [.own .bZ fun _ => x]), (false, [.bool fun _ => b])])) := by
 refine ay au Tryz.func152 rfl rfl (fr := true) (fun _ => by kernel_rfl) fun P hP hA => ?_;cbv;refine ag.by hP (yp w hw) ?_;cbv;refine ag.by hP (vF w (fa.small hw) (bz w) rfl) ?_;cbv;refine Br.split (fun k0 => ?_) (fun k0 => ?_) <;> cbv
 · have k0 : (!bz w) = true := k0;have k0 : bz w = false := by simpa using k0
   have e := tS hx hb (by rw [gQ, k0]; rfl);obtain rfl : x = w := e.1;obtain rfl : b = false := e.2
   repeat' first | exact trivial | refine ⟨rfl, ?_⟩ | fail
 have k0 : (!bz w) = false := k0;have k0 : bz w = true := by simpa using k0
 refine Br.dec (fun h1 => ?_) (fun h1 => ?_) <;> cbv
 · have h1 : p.tm < 1 := h1;have e := tS hx hb (by rw [gQ, k0, decide_eq_false (by omega : ¬ 1 ≤ p.tm)]; rfl);obtain rfl : x = w := e.1;obtain rfl : b = false := e.2
   repeat' first | exact trivial | refine ⟨rfl, ?_⟩ | fail
 have h1 : ¬ p.tm < 1 := h1;have h1 : 1 ≤ p.tm := by omega
 have hh := rQ k0 h1;have hg := Pg hh.2;have hf : (bJ w p).length ≤ 10 := tR k0 hh.2;generalize hl : bJ w p = l at hg hf
 repeat' first
   | exact trivial
   | (refine Ob.mk (by decide) ?_; cbv)
   | (refine Pz.mk ?_; cbv) | (refine bx.mk ?_ (by kernel_rfl) ?_; rotate_left; cbv; rotate_right) | refine ⟨rfl, ?_⟩ | refine And.intro ?_ ?_ | exact rfl | fail
 refine aU.by (X := Nat) (fun i => [(2, pN 0), (3, pN 1), (4, pN 2), (6, pN 3), (7, iT fun _ => p.tm.tmod 9), (8, nT fun _ => i)]) (fun _ => [(0, .box [.lf (.list .bZ fun _ => w)]), (1, .box ((bQ .aI fun _ => p).map .lf)), (2, .box [.nil]), (3, .box [.own 4]), (4, aN .bZ fun _ => w)]) (fun i => i ≤ l.length ∧ ∀ (j : Nat) y, j < i → l[j]? = some y → decide (y = p) = false) (fun i _ => l.length - i) 0 ⟨Nat.zero_le _, fun j y hj => by omega⟩ ?_ ?_
 · cbv
   repeat' first | exact trivial | refine ⟨rfl, ?_⟩ | fail
 · intro i ⟨hi, hn⟩;cbv
   repeat' first
     | exact trivial
     | (refine Ix.mk (l) (hh.1.1) (hg) ?_; cbv)
     | (refine Pz.mk ?_; cbv) | (refine bx.mk ?_ (by kernel_rfl) ?_; rotate_left; cbv; rotate_right) | refine ⟨rfl, ?_⟩ | refine And.intro ?_ ?_ | exact rfl | fail
   refine Br.dec (fun h2 => ?_) (fun h2 => ?_) <;> cbv
   rotate_left
   · have h2 : l.length ≤ i := by simp at h2; omega
     have e4 : jA (bJ w p) p = -1 := by rw [hl]; exact mc (lh h2 hn)
     have e := tS hx hb (by rw [tT k0 h1, e4]; rfl);obtain rfl : x = w := e.1;obtain rfl : b = false := e.2
     repeat' first | exact trivial | refine ⟨rfl, ?_⟩ | fail
   have h2 : i < l.length := by simpa using h2
   repeat' first
     | exact trivial
     | (refine Ix.mk (l) (hh.1.1) (hg) ?_; cbv)
     | (refine Ix.mk l[i] (by simp) (get_cast l h2) ?_; cbv)
     | (refine Pz.mk ?_; cbv) | (refine bx.mk ?_ (by kernel_rfl) ?_; rotate_left; cbv; rotate_right) | refine ⟨rfl, ?_⟩ | refine And.intro ?_ ?_ | exact rfl | fail
   refine Br.split (fun h3 => ?_) (fun h3 => ?_) <;> cbv
   · have h3 : l[i] = p := HM.2 (by simp at h3; exact h3);have e : jA (bJ w p) p = (i : Int) := by rw [hl]; exact mb (p := fun y : aB => decide (y = p)) h2 (decide_eq_true h3) hn
     have eb : gQ w p = true := by rw [tT k0 h1]; exact decide_eq_true (by omega)
     obtain rfl : b = true := hb.trans eb;have ex := (BY e eb).trans hx.symm;rw [hl] at ex;have o1 : 0 ≤ (0 : Int) ∧ (0 : Int) ≤ (i : Int) ∧ (i : Int) ≤ (l.length : Int) := ⟨by omega, by omega, by omega⟩
     have o2 : (([] : List aB).length + ((l.take ((i : Int)).toNat).drop ((0 : Int)).toNat).length) * 16 ≤ 140737488355328 := by
       rw [List.length_drop, List.length_take]; simp only [List.length_nil]; omega
     have o3 : 0 ≤ (i : Int) + 1 ∧ (i : Int) + 1 ≤ (l.length : Int) ∧ (l.length : Int) ≤ (l.length : Int) := ⟨by omega, by omega, by omega⟩
     have o4 : (([] ++ (l.take ((i : Int)).toNat).drop ((0 : Int)).toNat : List aB).length + ((l.take ((l.length : Int)).toNat).drop ((i : Int) + 1).toNat).length) * 16 ≤ 140737488355328 := by
       rw [List.length_append, List.length_drop, List.length_take, List.length_drop, List.length_take]; simp only [List.length_nil]; omega
     have fin : w.set (p.tm.tmod 9).toNat ([] ++ (l.take ((i : Int)).toNat).drop ((0 : Int)).toNat ++ (l.take ((l.length : Int)).toNat).drop ((i : Int) + 1).toNat) = x := by
       rw [← ex, show ((i : Int) + 1).toNat = i + 1 by omega]; simp [fh]
     repeat' first
       | exact trivial
       | (refine Ob.mk (o1) ?_; cbv)
       | (refine Ob.mk (o3) ?_; cbv)
       | (refine Ob.mk (o2) ?_; cbv)
       | (refine Ob.mk (o4) ?_; cbv)
       | (refine Ob.mk (hh.1) ?_; cbv)
       | (refine Ix.mk (l) (hh.1.1) (hg) ?_; cbv)
       | (refine Ar.exact (by (try simp only [nc] at *); omega) (by (try simp only [nc] at *); omega) ?_; cbv)
       | (refine Sv.mk (fun _ => x) (fin) ?_; cbv)
       | (refine Pz.mk ?_; cbv) | (refine bx.mk ?_ (by kernel_rfl) ?_; rotate_left; cbv; rotate_right) | refine ⟨rfl, ?_⟩ | refine And.intro ?_ ?_ | exact rfl | fail
   · have h3 : ¬ l[i] = p := fun h => by rw [h] at h3; simp at h3
     refine Ar.exact (by (try simp only [nc] at *); omega) (by (try simp only [nc] at *); omega) ?_;cbv;refine aP.by (i + 1) ?_ ?_ ?_
     · show l.length - (i + 1) < l.length - i;omega
     · exact ⟨h2, f_ h2 hn (decide_eq_false h3)⟩
     · cbv
       repeat' first | exact trivial | refine ⟨rfl, ?_⟩ | fail
theorem rR {w : List (List aB)} {p : aB} {x : List (List aB)} {b : Bool} (hx : x = lp w p) (hb : b = gf w p) (e : gf w p = false) : x = w ∧ b = false := ⟨hx.trans (if_neg (by rw [e]; simp)), hb.trans e⟩
theorem Pl {w : List (List aB)} {p : aB} (k0 : bz w = true) (k1 : eC p = false) : gf w p = false := by
 by_cases h1 : 1 ≤ p.tm
 · obtain ⟨_, hk⟩ := rQ k0 h1;rw [gf, show bz (dR w p) = false from Pe k1 hk]; simp
 · rw [gf, k0, decide_eq_false h1]; rfl
set_option maxHeartbeats 1000000 in
theorem Pm (w : List (List aB)) (p : aB) (hw : iW w) (x : List (List aB)) (hx : x = lp w p) (b : Bool) (hb : b = gf w p) : Spec Tryz.prog 95 [iU w, eA .aI p] (aE (.aT [(true, [.own .bZ fun _ => x]), (false, [.bool fun _ => b])])) := by
 refine ay au Tryz.func95 rfl rfl (fr := true) (fun _ => by kernel_rfl) fun P hP hA => ?_;cbv;refine ag.by hP (yp w hw) ?_;cbv;refine ag.by hP (vF w (fa.small hw) (bz w) rfl) ?_;cbv;refine Br.split (fun k0 => ?_) (fun k0 => ?_) <;> cbv
 · have k0 : (!bz w) = true := k0;have k0 : bz w = false := by simpa using k0
   have e := rR hx hb (by rw [gf, k0]; rfl);obtain rfl : x = w := e.1;obtain rfl : b = false := e.2
   repeat' first | exact trivial | refine ⟨rfl, ?_⟩ | fail
 have k0 : (!bz w) = false := k0;have k0 : bz w = true := by simpa using k0
 refine Br.dec (fun h1 => ?_) (fun h1 => ?_) <;> cbv
 · have h1 : p.tm < 1 := h1;have e := rR hx hb (by rw [gf, k0, decide_eq_false (by omega : ¬ 1 ≤ p.tm)]; rfl);obtain rfl : x = w := e.1;obtain rfl : b = false := e.2
   repeat' first | exact trivial | refine ⟨rfl, ?_⟩ | fail
 have h1 : ¬ p.tm < 1 := h1;have h1 : 1 ≤ p.tm := by omega
 have hh := rQ k0 h1;have hf : (bJ w p).length ≤ 10 := tR k0 hh.2;have si : iW (dR w p) := HP k0 hh.2
 repeat' first
   | exact trivial
   | (refine Ob.mk (by decide) ?_; cbv)
   | (refine Ob.mk (hh.1) ?_; cbv)
   | (refine ag.by hP (Bx (bJ w p) p (by show _ ≤ 1048576; omega)) ?_; cbv)
   | (refine Sv.mk (fun _ => dR w p) (rfl) ?_; cbv)
   | (refine ag.by hP (vF (dR w p) (fa.small si) (bz (dR w p)) rfl) ?_; cbv)
   | (refine Pz.mk ?_; cbv) | (refine bx.mk ?_ (by kernel_rfl) ?_; rotate_left; cbv; rotate_right) | refine ⟨rfl, ?_⟩ | refine And.intro ?_ ?_ | exact rfl | fail
 all_goals
   refine Br.split (fun k2 => ?_) (fun k2 => ?_) <;> cbv
   · have k2 : (!bz (dR w p)) = true := k2;have k2 : bz (dR w p) = false := by simpa using k2
     have e := rR hx hb (by rw [gf, k2]; simp);obtain rfl : x = w := e.1;obtain rfl : b = false := e.2;refine ag.by hP (yp x hw) ?_;cbv
     repeat' first | exact trivial | refine ⟨rfl, ?_⟩ | fail
   have k2 : (!bz (dR w p)) = false := k2;have k2 : bz (dR w p) = true := by simpa using k2
   have eb : gf w p = true := by rw [gf, k0, k2, decide_eq_true h1]; rfl
   obtain rfl : b = true := hb.trans eb;obtain rfl : x = dR w p := hx.trans (if_pos eb)
   repeat' first | exact trivial | refine ⟨rfl, ?_⟩ | fail
set_option maxHeartbeats 2000000 in
theorem Pn (w : List (List aB)) (p : aB) (hw : iW w) (x : List (List aB)) (hx : x = lp w p) (b : Bool) (hb : b = gf w p) : Spec Tryz.prog 57 [iU w, eA .aI p] (aE (.aT [(true, [.own .bZ fun _ => x]), (false, [.bool fun _ => b])])) := by
 refine ay au Tryz.func57 rfl rfl (fr := true) (fun _ => by kernel_rfl) fun P hP hA => ?_;cbv;refine ag.by hP (vL w hw) ?_;cbv;refine ag.by hP (tI w (fa.small hw) (bz w) rfl) ?_;cbv;refine Br.split (fun k0 => ?_) (fun k0 => ?_) <;> cbv
 · have k0 : (!bz w) = true := k0;have k0 : bz w = false := by simpa using k0
   have e := rR hx hb (by rw [gf, k0]; rfl);obtain rfl : x = w := e.1;obtain rfl : b = false := e.2
   repeat' first | exact trivial | refine ⟨rfl, ?_⟩ | fail
 have k0 : (!bz w) = false := k0;have k0 : bz w = true := by simpa using k0
 refine ag.by hP (Bo p) ?_;cbv;refine Br.split (fun k1 => ?_) (fun k1 => ?_) <;> cbv
 · have k1 : (!eC p) = true := k1;have k1 : eC p = false := by simpa using k1
   have e := rR hx hb (Pl k0 k1);obtain rfl : x = w := e.1;obtain rfl : b = false := e.2
   repeat' first | exact trivial | refine ⟨rfl, ?_⟩ | fail
 have k1 : (!eC p) = false := k1;have k1 : eC p = true := by simpa using k1
 have h1 := yx k1;have hh := rQ k0 h1;have hf : (bJ w p).length ≤ 10 := tR k0 hh.2;have si : iW (dR w p) := HP k0 hh.2
 have ins : ∀ i, i ≤ (bJ w p).length → (∀ (j : Nat) y, j < i → (bJ w p)[j]? = some y → bm y p = true) → (∀ y, (bJ w p)[i]? = some y → bm y p = false) → w.set (p.tm.tmod 9).toNat ((bJ w p).take i ++ p :: (bJ w p).drop i) = dR w p := fun i _ h1 h2 => by
   rw [dR, zD h1 h2]; rfl
 repeat' first
   | exact trivial
   | (refine Ob.mk (by decide) ?_; cbv)
   | (refine Ob.mk (hh.1) ?_; cbv)
   | (refine Pz.mk ?_; cbv) | (refine bx.mk ?_ (by kernel_rfl) ?_; rotate_left; cbv; rotate_right) | refine ⟨rfl, ?_⟩ | refine And.intro ?_ ?_ | exact rfl | fail
 refine aU.by (X := Nat) (fun i => [(2, pN 0), (3, pN 1), (4, pN 2), (6, pN 3), (7, oN 5), (8, nT fun _ => i)]) (fun _ => [(0, .box [.lf (.list .bZ fun _ => w)]), (1, .box ((bQ .aI fun _ => p).map .lf)), (2, .box [.nil]), (3, .box [.own 4]), (4, .ca .bZ (fun _ => w) (fun _ => (p.tm.tmod 9).toNat) [some 5]), (5, aN .aI fun _ => bJ w p)]) (fun i => i ≤ (bJ w p).length ∧ ∀ (j : Nat) y, j < i → (bJ w p)[j]? = some y → bm y p = true) (fun i _ => (bJ w p).length - i) 0 ⟨Nat.zero_le _, fun j y hj => by omega⟩ ?_ ?_
 · cbv
   repeat' first | exact trivial | refine ⟨rfl, ?_⟩ | fail
 · intro i ⟨hi, hp⟩;cbv;refine Br.dec (fun h2 => ?_) (fun h2 => ?_) <;> cbv
   · have h2 : i < (bJ w p).length := by simpa using h2
     have oi : 0 ≤ (i : Int) ∧ (i : Int) < ((bJ w p).length : Int) := by omega
     have gi : (bJ w p).getD ((i : Int)).toNat default = (bJ w p)[i] := by rw [Int.toNat_natCast, List.getD_eq_getElem?_getD, List.getElem?_eq_getElem h2]; rfl
     repeat' first
       | exact trivial
       | (refine Ob.mk (oi) ?_; cbv)
       | (refine ag.by hP (Bn ((bJ w p).getD ((i : Int)).toNat default) p) ?_; cbv)
       | (refine Pz.mk ?_; cbv) | (refine bx.mk ?_ (by kernel_rfl) ?_; rotate_left; cbv; rotate_right) | refine ⟨rfl, ?_⟩ | refine And.intro ?_ ?_ | exact rfl | fail
     refine Br.dec (fun h3 => ?_) (fun h3 => ?_) <;> cbv
     · have h3 : (if bm ((bJ w p).getD ((i : Int)).toNat default) p = true then (-1 : Int) else if bm p ((bJ w p).getD ((i : Int)).toNat default) = true then 1 else 0) < 0 := h3;rw [gi] at h3
       have h3 : bm (bJ w p)[i] p = true := by
         cases q : bm (bJ w p)[i] p with
         | true => rfl
         | false =>
           rw [q] at h3;simp only [Bool.false_eq_true, if_false] at h3
           split at h3 <;> omega
       refine Ar.exact (by (try simp only [nc] at *); omega) (by (try simp only [nc] at *); omega) ?_;cbv;refine aP.by (i + 1) ?_ ?_ ?_
       · show (bJ w p).length - (i + 1) < (bJ w p).length - i;omega
       · exact ⟨h2, f_ h2 hp h3⟩
       · cbv
         repeat' first | exact trivial | refine ⟨rfl, ?_⟩ | fail
     · have h3 : ¬ (if bm ((bJ w p).getD ((i : Int)).toNat default) p = true then (-1 : Int) else if bm p ((bJ w p).getD ((i : Int)).toNat default) = true then 1 else 0) < 0 := h3;rw [gi] at h3
       have h3 : bm (bJ w p)[i] p = false := by
         cases q : bm (bJ w p)[i] p with
         | false => rfl
         | true =>
           rw [q] at h3;simp only [if_true] at h3;omega
       have ei := ins i hi hp fun y hy => by
         rw [List.getElem?_eq_getElem h2] at hy; cases hy; exact h3
       repeat' first
         | exact trivial
         | (refine Ob.mk (by decide) ?_; cbv)
         | (refine Ob.mk (hh.1) ?_; cbv)
         | (refine bB.by hP (HH (bJ w p) p i hi (by show _ ≤ 1048576; omega)) ?_; cbv)
         | (refine Sv.mk (fun _ => dR w p) (ei) ?_; cbv)
         | (refine ag.by hP (tI (dR w p) (fa.small si) (bz (dR w p)) rfl) ?_; cbv)
         | (refine Pz.mk ?_; cbv) | (refine bx.mk ?_ (by kernel_rfl) ?_; rotate_left; cbv; rotate_right) | refine ⟨rfl, ?_⟩ | refine And.intro ?_ ?_ | exact rfl | fail
       all_goals
         refine Br.split (fun k2 => ?_) (fun k2 => ?_) <;> cbv
         · have k2 : (!bz (dR w p)) = true := k2;have k2 : bz (dR w p) = false := by simpa using k2
           have e := rR hx hb (by rw [gf, k2]; simp);obtain rfl : x = w := e.1;obtain rfl : b = false := e.2;refine ag.by hP (vL x hw) ?_;cbv
           repeat' first | exact trivial | refine ⟨rfl, ?_⟩ | fail
         have k2 : (!bz (dR w p)) = false := k2;have k2 : bz (dR w p) = true := by simpa using k2
         have eb : gf w p = true := by rw [gf, k0, k2, decide_eq_true h1]; rfl
         obtain rfl : b = true := hb.trans eb;obtain rfl : x = dR w p := hx.trans (if_pos eb)
         repeat' first | exact trivial | refine ⟨rfl, ?_⟩ | fail
   · have h2 : (bJ w p).length ≤ i := by simp at h2; omega
     have ei := ins i hi hp fun y hy => by
       rw [List.getElem?_eq_none h2] at hy; cases hy
     repeat' first
       | exact trivial
       | (refine Ob.mk (by decide) ?_; cbv)
       | (refine Ob.mk (hh.1) ?_; cbv)
       | (refine bB.by hP (HH (bJ w p) p i hi (by show _ ≤ 1048576; omega)) ?_; cbv)
       | (refine Sv.mk (fun _ => dR w p) (ei) ?_; cbv)
       | (refine ag.by hP (tI (dR w p) (fa.small si) (bz (dR w p)) rfl) ?_; cbv)
       | (refine Pz.mk ?_; cbv) | (refine bx.mk ?_ (by kernel_rfl) ?_; rotate_left; cbv; rotate_right) | refine ⟨rfl, ?_⟩ | refine And.intro ?_ ?_ | exact rfl | fail
     all_goals
       refine Br.split (fun k2 => ?_) (fun k2 => ?_) <;> cbv
       · have k2 : (!bz (dR w p)) = true := k2;have k2 : bz (dR w p) = false := by simpa using k2
         have e := rR hx hb (by rw [gf, k2]; simp);obtain rfl : x = w := e.1;obtain rfl : b = false := e.2;refine ag.by hP (vL x hw) ?_;cbv
         repeat' first | exact trivial | refine ⟨rfl, ?_⟩ | fail
       have k2 : (!bz (dR w p)) = false := k2;have k2 : bz (dR w p) = true := by simpa using k2
       have eb : gf w p = true := by rw [gf, k0, k2, decide_eq_true h1]; rfl
       obtain rfl : b = true := hb.trans eb;obtain rfl : x = dR w p := hx.trans (if_pos eb)
       repeat' first | exact trivial | refine ⟨rfl, ?_⟩ | fail
end Go.Proofs.YticeaiiffeccmaaGreat

