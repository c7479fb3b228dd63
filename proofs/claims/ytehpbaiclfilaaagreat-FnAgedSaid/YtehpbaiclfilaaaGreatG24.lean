/- Parts of a proof. No conditions. -/

import Derived.Test.YtehpbaiclfilaaaGreatG19
import Derived.Test.YtehpbaiclfilaaaGreatG18
import Derived.Test.YtehpbaiclfilaaaGreatG23
set_option linter.unusedSimpArgs false
set_option linter.unusedVariables false
namespace Go.Proofs.YtehpbaiclfilaaaGreat
open Go
set_option maxRecDepth 100000
def lr (l : List aA) (p : aA) : Int := hM (fun q => decide (q = p)) l
def fU (p : aA) : Nat := (p.tm.tmod 9).toNat
def bL (w : List (List aA)) (p : aA) : List aA := w.getD (fU p) []
def kb (w : List (List aA)) (p : aA) : Bool := br w && (decide (1 ≤ p.tm) && decide (0 ≤ lr (bL w p) p))
def i_ (w : List (List aA)) (p : aA) : List (List aA) := if kb w p = true then w.set (fU p) (cutAt (bL w p) (lr (bL w p) p)) else w
def eh (w : List (List aA)) (p : aA) : List (List aA) := w.set (fU p) (bG bm p (bL w p))
def gv (w : List (List aA)) (p : aA) : Bool := br w && (decide (1 ≤ p.tm) && br (eh w p))
def kJ (w : List (List aA)) (p : aA) : List (List aA) := if gv w p = true then eh w p else w
theorem Rr {a b : aA} : a = b ↔ a.tm = b.tm ∧ a.pid = b.pid := by
 constructor
 · rintro rfl; exact ⟨rfl, rfl⟩
 · intro ⟨h1, h2⟩;cases a; cases b;simp only at h1 h2;subst h1 h2;rfl
theorem wG {w : List (List aA)} (h : br w = true) : ln w := of_decide_eq_true h
theorem J4 {w : List (List aA)} : br w = true ↔ ln w := ⟨wG, fun h => decide_eq_true h⟩
theorem vH {w : List (List aA)} (h : br w = true) {p : aA} (hp : 1 ≤ p.tm) : (0 ≤ p.tm.tmod 9 ∧ p.tm.tmod 9 < (w.length : Int)) ∧ fU p < w.length := by
 have h9 := (wG h).len;have h1 : 0 ≤ p.tm.tmod 9 := Int.tmod_nonneg _ (by omega);have h2 : p.tm.tmod 9 < 9 := Int.tmod_lt_of_pos _ (by omega);have e : fU p = (p.tm.tmod 9).toNat := rfl;omega
theorem J5 {w : List (List aA)} {k : Nat} {l : List aA} (hk : w[k]? = some l) {q : aA} (hq : q ∈ l) : q ∈ bd w := List.mem_flatten.2 ⟨l, List.mem_of_getElem? hk, hq⟩
theorem J6 {α : Type} {l : List α} {d : α} {k : Nat} (h : k < l.length) : l[k]? = some (l.getD k d) := by
 rw [List.getD_eq_getElem?_getD, List.getElem?_eq_getElem h]; rfl
theorem Rs {w : List (List aA)} (h : br w = true) {p : aA} (hp : eZ p = false) {k : Nat} (hk : k < w.length) : lr (w.getD k []) p < 0 := by
 rcases hO (fun q : aA => decide (q = p)) (w.getD k []) with ⟨e, _⟩ | ⟨i, hi, _, e, _⟩
 · have e : lr (w.getD k []) p = -1 := e;omega
 · have e : (w.getD k [])[i] = p := of_decide_eq_true e;have h1 := (wG h).ok p (J5 (J6 hk) (e ▸ List.getElem_mem hi));rw [hp] at h1; cases h1
theorem xT {w : List (List aA)} (h : br w = true) {k : Nat} (hk : k < w.length) : (w.getD k []).length ≤ 10 := by
 have h1 := (wG h).dn
 have h2 : ∀ {w : List (List aA)} {l : List aA}, l ∈ w → l.length ≤ w.flatten.length := by
  intro w l hl
  induction w with
  | nil => cases hl
  | cons a w ih =>
    simp only [List.flatten_cons, List.length_append];rcases List.mem_cons.1 hl with rfl | hl
    · omega
    · have := ih hl; omega
 exact Nat.le_trans (h2 (List.mem_of_getElem? (J6 hk))) h1
theorem J7 {w : List (List aA)} (h : br w = true) {p : aA} {k : Nat} (hk : k < w.length) : k9 (w.set k (bG bm p (w.getD k []))) := by
 have h9 := (wG h).len;refine ⟨by rw [List.length_set]; show _ ≤ 1048576; omega, fun x hx => ?_⟩;rcases List.mem_or_eq_of_mem_set hx with q | rfl
 · obtain ⟨j, hj⟩ := List.mem_iff_getElem?.1 q;have := xT h (bq hj);rw [List.getD_eq_getElem?_getD, hj] at this;have this : x.length ≤ 10 := this;show _ ≤ 1048576; omega
 · rw [wA];have := xT h hk;show _ ≤ 1048576; omega
theorem AZ {w : List (List aA)} {p : aA} (hp : eZ p = false) {k : Nat} (hk : k < w.length) : br (w.set k (bG bm p (w.getD k []))) = false := by
 cases hb : br (w.set k (bG bm p (w.getD k []))) with
 | false => rfl
 | true =>
   have h1 := (wG hb).ok p (J5 (k := k) (l := bG bm p (w.getD k [])) (by rw [List.getElem?_set]; simp [hk]) (pL.2 (.inl rfl)));rw [hp] at h1; cases h1
theorem eC.small {w : List (List aA)} (h : k9 w) : eC w := eC.of h.1 h.2
theorem Ru (a : List aA) (v : aA) (x : Int) (hx : x = lr a v) : Spec Tryz.prog 163 [lA .aF a, eA .aF v] (aE (iR fun _ => x)) := by
 refine aH ay Tryz.func163 rfl rfl (fr := true) (fun _ => by kernel_rfl) fun P hP hA => ?_;obtain ⟨⟨ha, _⟩, _⟩ := hA;have ha : a.length ≤ 9223372036854775807 := ha;cbv;refine aT.by (X := Nat) (fun i => [(0, lA .aF a), (3, pN 0), (7, nT fun _ => a.length), (8, nT fun _ => i)]) (fun _ => [(0, .box ((bQ .aF fun _ => v).map .lf))]) (fun i => i ≤ a.length ∧ ∀ (j : Nat) y, j < i → a[j]? = some y → decide (y = v) = false) (fun i _ => a.length - i) 0 ⟨Nat.zero_le _, fun j y hj => by omega⟩ ?_ ?_
 · cbv
   repeat' first | exact trivial | refine ⟨rfl, ?_⟩ | fail
 · intro i ⟨hi, hn⟩;cbv;refine Br.dec (fun h2 => ?_) (fun h2 => ?_) <;> cbv
   · have h2 : i < a.length := by simpa using h2
     refine ⟨a[i], by simp, get_cast a h2, ?_⟩;cbv;refine Br.split (fun h3 => ?_) (fun h3 => ?_) <;> cbv
     · have h3 : a[i] = v := Rr.2 (by simp at h3; exact ⟨h3.1.symm, h3.2.symm⟩);refine ⟨?_, trivial⟩;exact (hx.trans (oM (p := fun y : aA => decide (y = v)) h2 (decide_eq_true h3) hn)).symm
     · have h3 : ¬ a[i] = v := fun h => by rw [h] at h3; simp at h3
       refine Ar.exact (by (try simp only [nc] at *); omega) (by (try simp only [nc] at *); omega) ?_;cbv;refine aJ.by (i + 1) ?_ ?_ ?_
       · show a.length - (i + 1) < a.length - i;omega
       · exact ⟨h2, il h2 hn (decide_eq_false h3)⟩
       · cbv
         repeat' first | exact trivial | refine ⟨rfl, ?_⟩ | fail
   · have h2 : a.length ≤ i := by simp at h2; omega
     refine ⟨?_, trivial⟩;exact (hx.trans (oO (np h2 hn))).symm
theorem Rv {w : List (List aA)} {p : aA} (hk : fU p < w.length) : w.set (fU p) (bL w p) = w := by
 have e : bL w p = w[fU p] := by
  show w.getD (fU p) [] = _;rw [List.getD_eq_getElem?_getD, List.getElem?_eq_getElem hk]; rfl
 rw [e]; exact List.set_getElem_self hk
theorem Al {p : aA} (k1 : eZ p = true) : 1 ≤ p.tm := by
 simp only [eZ, Bool.and_eq_true] at k1;exact (bB k1.1).1
theorem Ep {w : List (List aA)} {p : aA} {x : List (List aA)} {b : Bool} (hx : x = i_ w p) (hb : b = kb w p) (e : kb w p = false) : x = w ∧ b = false := ⟨hx.trans (if_neg (by rw [e]; simp)), hb.trans e⟩
theorem J8 {w : List (List aA)} {p : aA} {i : Nat} (e : lr (bL w p) p = (i : Int)) (eb : kb w p = true) : w.set (fU p) ((bL w p).take i ++ (bL w p).drop (i + 1)) = i_ w p := by
 rw [i_, if_pos eb, cutAt, e, if_neg (by omega), Int.toNat_natCast]
theorem Am {w : List (List aA)} {p : aA} (k0 : br w = true) (h1 : 1 ≤ p.tm) : kb w p = decide (0 ≤ lr (bL w p) p) := by
 rw [kb, k0, decide_eq_true h1]; rfl
theorem Rw {w : List (List aA)} {p : aA} (k0 : br w = true) (k1 : eZ p = false) : kb w p = false := by
 by_cases h1 : 1 ≤ p.tm
 · obtain ⟨_, hk⟩ := vH k0 h1;rw [Am k0 h1];have := Rs k0 k1 hk;exact decide_eq_false (by show ¬ 0 ≤ lr (w.getD (fU p) []) p; omega)
 · rw [kb, k0, decide_eq_false h1]; rfl
set_option maxHeartbeats 1000000 in
theorem An (w : List (List aA)) (p : aA) (hw : k9 w) (x : List (List aA)) (hx : x = i_ w p) (b : Bool) (hb : b = kb w p) : Spec Tryz.prog 107 [kG w, eA .aF p] (aE (.bc [(true, [.own .cF fun _ => x]), (false, [.bool fun _ => b])])) := by
 refine aH ay Tryz.func107 rfl rfl (fr := true) (fun _ => by kernel_rfl) fun P hP hA => ?_;cbv;refine ag.by hP (xI w hw) ?_;cbv;refine ag.by hP (vt w (eC.small hw) (br w) rfl) ?_;cbv;refine Br.split (fun k0 => ?_) (fun k0 => ?_) <;> cbv
 · have k0 : (!br w) = true := k0;have k0 : br w = false := by simpa using k0
   have e := Ep hx hb (by rw [kb, k0]; rfl);obtain rfl : x = w := e.1;obtain rfl : b = false := e.2
   repeat' first | exact trivial | refine ⟨rfl, ?_⟩ | fail
 have k0 : (!br w) = false := k0;have k0 : br w = true := by simpa using k0
 refine ag.by hP (DF p) ?_;cbv;refine Br.split (fun k1 => ?_) (fun k1 => ?_) <;> cbv
 · have k1 : (!eZ p) = true := k1;have k1 : eZ p = false := by simpa using k1
   have e := Ep hx hb (Rw k0 k1);obtain rfl : x = w := e.1;obtain rfl : b = false := e.2
   repeat' first | exact trivial | refine ⟨rfl, ?_⟩ | fail
 have k1 : (!eZ p) = false := k1;have k1 : eZ p = true := by simpa using k1
 have h1 := Al k1;have hh := vH k0 h1
 repeat' first
   | exact trivial
   | (refine Ob.mk (by decide) ?_; cbv)
   | (refine Ob.mk (hh.1) ?_; cbv)
   | (refine ag.by hP (Ru (bL w p) p (lr (bL w p) p) rfl) ?_; cbv)
   | (refine Pz.mk ?_; cbv) | (refine bu.mk ?_ (by kernel_rfl) ?_; rotate_left; cbv; rotate_right) | refine ⟨rfl, ?_⟩ | refine And.intro ?_ ?_ | exact rfl | fail
 refine Br.dec (fun h2 => ?_) (fun h2 => ?_) <;> cbv
 · have h2 : lr (bL w p) p < 0 := h2;have e := Ep hx hb (by rw [Am k0 h1]; exact decide_eq_false (by omega));have ex : x = w := e.1;obtain rfl : b = false := e.2;have Rx : w.set (fU p) (bL w p) = x := by rw [ex]; exact Rv hh.2
   repeat' first
    | exact trivial
    | (refine ⟨Rx, ?_⟩)
    | (refine Pz.mk ?_; cbv) | (refine bu.mk ?_ (by kernel_rfl) ?_; rotate_left; cbv; rotate_right) | refine ⟨rfl, ?_⟩ | refine And.intro ?_ ?_ | exact rfl | fail
 have h2 : ¬ lr (bL w p) p < 0 := h2;rcases hO (fun q : aA => decide (q = p)) (bL w p) with ⟨e, _⟩ | ⟨i, hi, e, _, _⟩
 · have : lr (bL w p) p = -1 := e;omega
 have e : lr (bL w p) p = (i : Int) := e;have eb : kb w p = true := by rw [Am k0 h1]; exact decide_eq_true (by omega)
 obtain rfl : b = true := hb.trans eb;have ex : w.set (fU p) ((bL w p).take i ++ (bL w p).drop (i + 1)) = x := (J8 e eb).trans hx.symm;have hf : (bL w p).length ≤ 10 := xT k0 hh.2;rw [e];cbv
 repeat' first
   | exact trivial
   | (refine Ob.mk (by decide) ?_; cbv)
   | (refine Ar.exact (by (try simp only [nc] at *); omega) (by (try simp only [nc] at *); omega) ?_; cbv)
   | (refine Ob.mk (hh.1) ?_; cbv)
   | (refine aB.by hP (Ra (bL w p) i hi) ?_; cbv)
   | (refine Sv.mk (fun _ => x) (ex) ?_; cbv)
   | (refine Pz.mk ?_; cbv) | (refine bu.mk ?_ (by kernel_rfl) ?_; rotate_left; cbv; rotate_right) | refine ⟨rfl, ?_⟩ | refine And.intro ?_ ?_ | exact rfl | fail
theorem tN {w : List (List aA)} {p : aA} {x : List (List aA)} {b : Bool} (hx : x = kJ w p) (hb : b = gv w p) (e : gv w p = false) : x = w ∧ b = false := ⟨hx.trans (if_neg (by rw [e]; simp)), hb.trans e⟩
theorem A0 {w : List (List aA)} {p : aA} (k0 : br w = true) (k1 : eZ p = false) : gv w p = false := by
 by_cases h1 : 1 ≤ p.tm
 · obtain ⟨_, hk⟩ := vH k0 h1;rw [gv, show br (eh w p) = false from AZ k1 hk]; simp
 · rw [gv, k0, decide_eq_false h1]; rfl
set_option maxHeartbeats 1000000 in
theorem Rz (w : List (List aA)) (p : aA) (hw : k9 w) (x : List (List aA)) (hx : x = kJ w p) (b : Bool) (hb : b = gv w p) : Spec Tryz.prog 219 [kG w, eA .aF p] (aE (.bc [(true, [.own .cF fun _ => x]), (false, [.bool fun _ => b])])) := by
 refine aH ay Tryz.func219 rfl rfl (fr := true) (fun _ => by kernel_rfl) fun P hP hA => ?_;cbv;refine ag.by hP (JH w hw) ?_;cbv;refine ag.by hP (vq w (eC.small hw) (br w) rfl) ?_;cbv;refine Br.split (fun k0 => ?_) (fun k0 => ?_) <;> cbv
 · have k0 : (!br w) = true := k0;have k0 : br w = false := by simpa using k0
   have e := tN hx hb (by rw [gv, k0]; rfl);obtain rfl : x = w := e.1;obtain rfl : b = false := e.2
   repeat' first | exact trivial | refine ⟨rfl, ?_⟩ | fail
 have k0 : (!br w) = false := k0;have k0 : br w = true := by simpa using k0
 refine Br.dec (fun h1 => ?_) (fun h1 => ?_) <;> cbv
 · have h1 : p.tm < 1 := h1;have e := tN hx hb (by rw [gv, k0, decide_eq_false (by omega : ¬ 1 ≤ p.tm)]; rfl);obtain rfl : x = w := e.1;obtain rfl : b = false := e.2
   repeat' first | exact trivial | refine ⟨rfl, ?_⟩ | fail
 have h1 : ¬ p.tm < 1 := h1;have h1 : 1 ≤ p.tm := by omega
 have hh := vH k0 h1;have hf : (bL w p).length ≤ 10 := xT k0 hh.2;have si : k9 (eh w p) := J7 k0 hh.2
 repeat' first
   | exact trivial
   | (refine Ob.mk (by decide) ?_; cbv)
   | (refine Ob.mk (hh.1) ?_; cbv)
   | (refine ag.by hP (DP (bL w p) p (by show _ ≤ 1048576; omega)) ?_; cbv)
   | (refine Sv.mk (fun _ => eh w p) (rfl) ?_; cbv)
   | (refine ag.by hP (vq (eh w p) (eC.small si) (br (eh w p)) rfl) ?_; cbv)
   | (refine Pz.mk ?_; cbv) | (refine bu.mk ?_ (by kernel_rfl) ?_; rotate_left; cbv; rotate_right) | refine ⟨rfl, ?_⟩ | refine And.intro ?_ ?_ | exact rfl | fail
 all_goals
   refine Br.split (fun k2 => ?_) (fun k2 => ?_) <;> cbv
   · have k2 : (!br (eh w p)) = true := k2;have k2 : br (eh w p) = false := by simpa using k2
     have e := tN hx hb (by rw [gv, k2]; simp);obtain rfl : x = w := e.1;obtain rfl : b = false := e.2;refine ag.by hP (JH x hw) ?_;cbv
     repeat' first | exact trivial | refine ⟨rfl, ?_⟩ | fail
   have k2 : (!br (eh w p)) = false := k2;have k2 : br (eh w p) = true := by simpa using k2
   have eb : gv w p = true := by rw [gv, k0, k2, decide_eq_true h1]; rfl
   obtain rfl : b = true := hb.trans eb;obtain rfl : x = eh w p := hx.trans (if_pos eb)
   repeat' first | exact trivial | refine ⟨rfl, ?_⟩ | fail
set_option maxHeartbeats 2000000 in
theorem A1 (w : List (List aA)) (p : aA) (hw : k9 w) (x : List (List aA)) (hx : x = kJ w p) (b : Bool) (hb : b = gv w p) : Spec Tryz.prog 176 [kG w, eA .aF p] (aE (.bc [(true, [.own .cF fun _ => x]), (false, [.bool fun _ => b])])) := by
 refine aH ay Tryz.func176 rfl rfl (fr := true) (fun _ => by kernel_rfl) fun P hP hA => ?_;cbv;refine ag.by hP (xI w hw) ?_;cbv;refine ag.by hP (vt w (eC.small hw) (br w) rfl) ?_;cbv;refine Br.split (fun k0 => ?_) (fun k0 => ?_) <;> cbv
 · have k0 : (!br w) = true := k0;have k0 : br w = false := by simpa using k0
   have e := tN hx hb (by rw [gv, k0]; rfl);obtain rfl : x = w := e.1;obtain rfl : b = false := e.2
   repeat' first | exact trivial | refine ⟨rfl, ?_⟩ | fail
 have k0 : (!br w) = false := k0;have k0 : br w = true := by simpa using k0
 refine ag.by hP (DF p) ?_;cbv;refine Br.split (fun k1 => ?_) (fun k1 => ?_) <;> cbv
 · have k1 : (!eZ p) = true := k1;have k1 : eZ p = false := by simpa using k1
   have e := tN hx hb (A0 k0 k1);obtain rfl : x = w := e.1;obtain rfl : b = false := e.2
   repeat' first | exact trivial | refine ⟨rfl, ?_⟩ | fail
 have k1 : (!eZ p) = false := k1;have k1 : eZ p = true := by simpa using k1
 have h1 := Al k1;have hh := vH k0 h1;have hf : (bL w p).length ≤ 10 := xT k0 hh.2;have si : k9 (eh w p) := J7 k0 hh.2
 have ins : ∀ i, i ≤ (bL w p).length → (∀ (j : Nat) y, j < i → (bL w p)[j]? = some y → bm y p = true) → (∀ y, (bL w p)[i]? = some y → bm y p = false) → w.set (p.tm.tmod 9).toNat ((bL w p).take i ++ p :: (bL w p).drop i) = eh w p := fun i _ h1 h2 => by
   rw [eh, BN h1 h2]; rfl
 repeat' first
   | exact trivial
   | (refine Ob.mk (by decide) ?_; cbv)
   | (refine Ob.mk (hh.1) ?_; cbv)
   | (refine Pz.mk ?_; cbv) | (refine bu.mk ?_ (by kernel_rfl) ?_; rotate_left; cbv; rotate_right) | refine ⟨rfl, ?_⟩ | refine And.intro ?_ ?_ | exact rfl | fail
 refine aT.by (X := Nat) (fun i => [(2, pN 0), (3, pN 1), (4, pN 2), (6, pN 3), (7, oN 5), (8, nT fun _ => i)]) (fun _ => [(0, .box [.lf (.list .cF fun _ => w)]), (1, .box ((bQ .aF fun _ => p).map .lf)), (2, .box [.nil]), (3, .box [.own 4]), (4, .b0 .cF (fun _ => w) (fun _ => (p.tm.tmod 9).toNat) [some 5]), (5, aQ .aF fun _ => bL w p)]) (fun i => i ≤ (bL w p).length ∧ ∀ (j : Nat) y, j < i → (bL w p)[j]? = some y → bm y p = true) (fun i _ => (bL w p).length - i) 0 ⟨Nat.zero_le _, fun j y hj => by omega⟩ ?_ ?_
 · cbv
   repeat' first | exact trivial | refine ⟨rfl, ?_⟩ | fail
 · intro i ⟨hi, hp⟩;cbv;refine Br.dec (fun h2 => ?_) (fun h2 => ?_) <;> cbv
   · have h2 : i < (bL w p).length := by simpa using h2
     have oi : 0 ≤ (i : Int) ∧ (i : Int) < ((bL w p).length : Int) := by omega
     have gi : (bL w p).getD ((i : Int)).toNat default = (bL w p)[i] := by rw [Int.toNat_natCast, List.getD_eq_getElem?_getD, List.getElem?_eq_getElem h2]; rfl
     repeat' first
       | exact trivial
       | (refine Ob.mk (oi) ?_; cbv)
       | (refine ag.by hP (DE ((bL w p).getD ((i : Int)).toNat default) p) ?_; cbv)
       | (refine Pz.mk ?_; cbv) | (refine bu.mk ?_ (by kernel_rfl) ?_; rotate_left; cbv; rotate_right) | refine ⟨rfl, ?_⟩ | refine And.intro ?_ ?_ | exact rfl | fail
     refine Br.dec (fun h3 => ?_) (fun h3 => ?_) <;> cbv
     · have h3 : (if bm ((bL w p).getD ((i : Int)).toNat default) p = true then (-1 : Int) else if bm p ((bL w p).getD ((i : Int)).toNat default) = true then 1 else 0) < 0 := h3;rw [gi] at h3
       have h3 : bm (bL w p)[i] p = true := by
         cases q : bm (bL w p)[i] p with
         | true => rfl
         | false =>
           rw [q] at h3;simp only [Bool.false_eq_true, if_false] at h3
           split at h3 <;> omega
       refine Ar.exact (by (try simp only [nc] at *); omega) (by (try simp only [nc] at *); omega) ?_;cbv;refine aJ.by (i + 1) ?_ ?_ ?_
       · show (bL w p).length - (i + 1) < (bL w p).length - i;omega
       · exact ⟨h2, il h2 hp h3⟩
       · cbv
         repeat' first | exact trivial | refine ⟨rfl, ?_⟩ | fail
     · have h3 : ¬ (if bm ((bL w p).getD ((i : Int)).toNat default) p = true then (-1 : Int) else if bm p ((bL w p).getD ((i : Int)).toNat default) = true then 1 else 0) < 0 := h3;rw [gi] at h3
       have h3 : bm (bL w p)[i] p = false := by
         cases q : bm (bL w p)[i] p with
         | false => rfl
         | true =>
           rw [q] at h3;simp only [if_true] at h3;omega
       have ei := ins i hi hp fun y hy => by
         rw [List.getElem?_eq_getElem h2] at hy; cases hy; exact h3
       repeat' first
         | exact trivial
         | (refine Ob.mk (by decide) ?_; cbv)
         | (refine Ob.mk (hh.1) ?_; cbv)
         | (refine aB.by hP (qc (bL w p) p i hi (by show _ ≤ 1048576; omega)) ?_; cbv)
         | (refine Sv.mk (fun _ => eh w p) (ei) ?_; cbv)
         | (refine ag.by hP (vt (eh w p) (eC.small si) (br (eh w p)) rfl) ?_; cbv)
         | (refine Pz.mk ?_; cbv) | (refine bu.mk ?_ (by kernel_rfl) ?_; rotate_left; cbv; rotate_right) | refine ⟨rfl, ?_⟩ | refine And.intro ?_ ?_ | exact rfl | fail
       all_goals
         refine Br.split (fun k2 => ?_) (fun k2 => ?_) <;> cbv
         · have k2 : (!br (eh w p)) = true := k2;have k2 : br (eh w p) = false := by simpa using k2
           have e := tN hx hb (by rw [gv, k2]; simp);obtain rfl : x = w := e.1;obtain rfl : b = false := e.2;refine ag.by hP (xI x hw) ?_;cbv
           repeat' first | exact trivial | refine ⟨rfl, ?_⟩ | fail
         have k2 : (!br (eh w p)) = false := k2;have k2 : br (eh w p) = true := by simpa using k2
         have eb : gv w p = true := by rw [gv, k0, k2, decide_eq_true h1]; rfl
         obtain rfl : b = true := hb.trans eb;obtain rfl : x = eh w p := hx.trans (if_pos eb)
         repeat' first | exact trivial | refine ⟨rfl, ?_⟩ | fail
   · have h2 : (bL w p).length ≤ i := by simp at h2; omega
     have ei := ins i hi hp fun y hy => by
       rw [List.getElem?_eq_none h2] at hy; cases hy
     repeat' first
       | exact trivial
       | (refine Ob.mk (by decide) ?_; cbv)
       | (refine Ob.mk (hh.1) ?_; cbv)
       | (refine aB.by hP (qc (bL w p) p i hi (by show _ ≤ 1048576; omega)) ?_; cbv)
       | (refine Sv.mk (fun _ => eh w p) (ei) ?_; cbv)
       | (refine ag.by hP (vt (eh w p) (eC.small si) (br (eh w p)) rfl) ?_; cbv)
       | (refine Pz.mk ?_; cbv) | (refine bu.mk ?_ (by kernel_rfl) ?_; rotate_left; cbv; rotate_right) | refine ⟨rfl, ?_⟩ | refine And.intro ?_ ?_ | exact rfl | fail
     all_goals
       refine Br.split (fun k2 => ?_) (fun k2 => ?_) <;> cbv
       · have k2 : (!br (eh w p)) = true := k2;have k2 : br (eh w p) = false := by simpa using k2
         have e := tN hx hb (by rw [gv, k2]; simp);obtain rfl : x = w := e.1;obtain rfl : b = false := e.2;refine ag.by hP (xI x hw) ?_;cbv
         repeat' first | exact trivial | refine ⟨rfl, ?_⟩ | fail
       have k2 : (!br (eh w p)) = false := k2;have k2 : br (eh w p) = true := by simpa using k2
       have eb : gv w p = true := by rw [gv, k0, k2, decide_eq_true h1]; rfl
       obtain rfl : b = true := hb.trans eb;obtain rfl : x = eh w p := hx.trans (if_pos eb)
       repeat' first | exact trivial | refine ⟨rfl, ?_⟩ | fail
end Go.Proofs.YtehpbaiclfilaaaGreat

