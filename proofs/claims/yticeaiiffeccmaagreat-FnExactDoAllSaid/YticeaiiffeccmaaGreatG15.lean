/- Parts of a proof. No conditions. -/

import Derived.Test.YticeaiiffeccmaaGreatG14
set_option linter.unusedSimpArgs false
set_option linter.unusedVariables false
namespace Go.Proofs.YticeaiiffeccmaaGreat
open Go
set_option maxRecDepth 100000
theorem rM (h : an) (k : Int) (hs : bh h) (b : Bool) (hb : b = cL h k) : Spec Tryz.prog 45 [cw h, iA k] (aE (bR fun _ => b)) := by
 refine ay au Tryz.func45 rfl rfl (fr := true) (fun _ => by kernel_rfl) fun P hP hA => ?_;have hc : h.cabins.length ≤ 1048576 := hs.2.2.1.1;cbv;refine ag.by hP (G7 h hs (dG h) rfl) ?_;cbv;refine Br.split (fun k0 => ?_) (fun k0 => ?_) <;> cbv
 rotate_left
 · refine ⟨?_, trivial⟩;have k0 : dG h = false := k0;exact (hb.trans (by rw [cL, k0]; rfl)).symm
 have k0 : dG h = true := k0;refine Ar.exact (by (try simp only [nc] at *); omega) (by (try simp only [nc] at *); omega) ?_;cbv;refine ag.by hP (da k 0 ((h.cabins.length : Int) - 1)) ?_;cbv;refine ⟨?_, trivial⟩;exact (hb.trans (by rw [cL, k0]; rfl)).symm
theorem Hd (h : an) (k : Int) (hs : bh h) (b : Bool) (hb : b = cL h k) : Spec Tryz.prog 101 [cw h, iA k] (aE (bR fun _ => b)) := by
 refine ay au Tryz.func101 rfl rfl (fr := true) (fun _ => by kernel_rfl) fun P hP hA => ?_;have hc : h.cabins.length ≤ 1048576 := hs.2.2.1.1;cbv;refine ag.by hP (G9 h hs (dG h) rfl) ?_;cbv;refine Br.split (fun k0 => ?_) (fun k0 => ?_) <;> cbv
 rotate_left
 · refine ⟨?_, trivial⟩;have k0 : dG h = false := k0;exact (hb.trans (by rw [cL, k0]; rfl)).symm
 have k0 : dG h = true := k0;refine ag.by hP (nM k (h.cabins.length : Int) (by omega) (by omega)) ?_;cbv;refine ⟨?_, trivial⟩;exact (hb.trans (by rw [cL, k0]; rfl)).symm
def lj (free : Int) (skip : List Int) (e : Entry) : Bool := decide (e.al ≤ free) && !hasB skip e.aV
def gV (l : List Entry) (free : Int) (skip : List Int) : Int := iD (lj free skip) l
theorem Oq (a : List Entry) (free : Int) (skip : List Int) (x : Int) (hx : x = gV a free skip) : Spec Tryz.prog 169 [lA .aH a, iA free, lA .int skip] (aE (iR fun _ => x)) := by
 refine ay au Tryz.func169 rfl rfl (fr := true) (fun _ => by kernel_rfl) fun P hP hA => ?_;obtain ⟨⟨ha, _⟩, _⟩ := hA;have ha : a.length ≤ 9223372036854775807 := ha;cbv;refine aU.by (X := Nat) (fun i => [(0, lA .aH a), (1, iA free), (2, lA .int skip), (7, nT fun _ => i)]) (fun _ => []) (fun i => i ≤ a.length ∧ ∀ (j : Nat) y, j < i → a[j]? = some y → lj free skip y = false) (fun i _ => a.length - i) 0 ⟨Nat.zero_le _, fun j y hj => by omega⟩ ?_ ?_
 · cbv
   repeat' first | exact trivial | refine ⟨rfl, ?_⟩ | fail
 · intro i ⟨hi, hn⟩;cbv;refine Br.dec (fun h2 => ?_) (fun h2 => ?_) <;> cbv
   rotate_left
   · have h2 : a.length ≤ i := by simp at h2; omega
     refine ⟨?_, trivial⟩;exact (hx.trans (mc (lh h2 hn))).symm
   have h2 : i < a.length := by simpa using h2
   refine ⟨a[i], by simp, get_cast a h2, ?_⟩;cbv;refine Br.dec (fun h3 => ?_) (fun h3 => ?_) <;> cbv
   rotate_left
   · have h3 : ¬ a[i].al ≤ free := h3;refine Ar.exact (by (try simp only [nc] at *); omega) (by (try simp only [nc] at *); omega) ?_;cbv;refine aP.by (i + 1) ?_ ?_ ?_
     · show a.length - (i + 1) < a.length - i;omega
     · exact ⟨h2, f_ h2 hn (by rw [lj, decide_eq_false h3]; rfl)⟩
     · cbv
       repeat' first | exact trivial | refine ⟨rfl, ?_⟩ | fail
   have h3 : a[i].al ≤ free := h3;refine ⟨a[i], by simp, get_cast a h2, ?_⟩;cbv;refine ag.by hP (BE skip a[i].aV (hasB skip a[i].aV) rfl) ?_;cbv;refine Br.split (fun h4 => ?_) (fun h4 => ?_) <;> cbv
   · refine ⟨?_, trivial⟩;have h4 : (!hasB skip a[i].aV) = true := h4;exact (hx.trans (mb h2 (by rw [lj, decide_eq_true h3, h4]; rfl) hn)).symm
   · have h4 : (!hasB skip a[i].aV) = false := h4;refine Ar.exact (by (try simp only [nc] at *); omega) (by (try simp only [nc] at *); omega) ?_;cbv;refine aP.by (i + 1) ?_ ?_ ?_
     · show a.length - (i + 1) < a.length - i;omega
     · exact ⟨h2, f_ h2 hn (by rw [lj, h4]; simp)⟩
     · cbv
       repeat' first | exact trivial | refine ⟨rfl, ?_⟩ | fail
theorem Ot (e : Entry) (free : Int) (skip : List Int) (b : Bool) (hb : b = lj free skip e) : Spec Tryz.prog 179 [eA .aH e, .c (.b0 [.int .i64 fun _ => free] 0), .c (.b0 [.list .int fun _ => skip] 0)] (aE (bR fun _ => b)) := by
 refine ay au Tryz.func179 rfl rfl (fr := true) (fun _ => by kernel_rfl) fun P hP hA => ?_;cbv
 repeat' first
  | (refine ag.by hP (BF skip e.aV (hasB skip e.aV) rfl) ?_; cbv)
  | (refine Br.split (fun h => ?_) (fun h => ?_) <;> cbv)
  | fail
 all_goals refine ⟨?_, trivial⟩
 all_goals simp_all [lj]
theorem Ou (a : List Entry) (free : Int) (skip : List Int) (x : Int) (hx : x = gV a free skip) : Spec Tryz.prog 178 [lA .aH a, .c (.fn 179 [.b0 [.int .i64 fun _ => free] 0, .b0 [.list .int fun _ => skip] 0])] (aE (iR fun _ => x)) := by
 refine ay au Tryz.func178 rfl rfl (fr := true) (fun _ => by kernel_rfl) fun P hP hA => ?_;obtain ⟨⟨ha, _⟩, _⟩ := hA;have ha : a.length ≤ 9223372036854775807 := ha;cbv;refine aU.by (X := Nat) (fun i => [(0, lA .aH a), (1, .c (.fn 179 [.b0 [.int .i64 fun _ => free] 0, .b0 [.list .int fun _ => skip] 0])), (7, nT fun _ => a.length), (8, nT fun _ => i)]) (fun _ => []) (fun i => i ≤ a.length ∧ ∀ (j : Nat) y, j < i → a[j]? = some y → lj free skip y = false) (fun i _ => a.length - i) 0 ⟨Nat.zero_le _, fun j y hj => by omega⟩ ?_ ?_
 · cbv
   repeat' first | exact trivial | refine ⟨rfl, ?_⟩ | fail
 · intro i ⟨hi, hn⟩;cbv;refine Br.dec (fun h2 => ?_) (fun h2 => ?_) <;> cbv
   · have h2 : i < a.length := by simpa using h2
     refine ⟨a[i], by simp, get_cast a h2, ?_⟩;cbv;refine ag.by hP (Ot a[i] free skip (lj free skip a[i]) rfl) ?_;cbv;refine Br.split (fun h3 => ?_) (fun h3 => ?_) <;> cbv
     · refine ⟨?_, trivial⟩;exact (hx.trans (mb h2 h3 hn)).symm
     · refine Ar.exact (by (try simp only [nc] at *); omega) (by (try simp only [nc] at *); omega) ?_;cbv;refine aP.by (i + 1) ?_ ?_ ?_
       · show a.length - (i + 1) < a.length - i;omega
       · exact ⟨h2, f_ h2 hn h3⟩
       · cbv
         repeat' first | exact trivial | refine ⟨rfl, ?_⟩ | fail
   · have h2 : a.length ≤ i := by simp at h2; omega
     refine ⟨?_, trivial⟩;exact (hx.trans (mc (lh h2 hn))).symm
theorem Ov (a : List Entry) (free : Int) (skip : List Int) (x : Int) (hx : x = gV a free skip) : Spec Tryz.prog 103 [lA .aH a, iA free, lA .int skip] (aE (iR fun _ => x)) := by
 refine ay au Tryz.func103 rfl rfl (fr := true) (fun _ => by kernel_rfl) fun P hP hA => ?_;cbv;refine ag.by hP (Ou a free skip x hx) ?_;cbv
 repeat' first | exact trivial | refine ⟨rfl, ?_⟩ | fail
def ln (q : aw → Bool) (l : List aw) : List Int := (l.filter q).map fun p => p.id
theorem He (q : aw → Bool) (l : List aw) : (ln q l).length ≤ l.length := by rw [ln, List.length_map]; exact List.length_filter_le _ _
def gW (h : an) : List Int := ln (fun p => gv p h.now) h.ae
def jz (h : an) (c : bd) : Int := if gV c.row c.aj.free (gW h) < 0 then 0 else ((c.row[(gV c.row c.aj.free (gW h)).toNat]?).getD default).aV
def cM (h : an) (k : Int) : Int := if cL h k = true then jz h (aA h k) else 0
set_option maxHeartbeats 1000000 in
theorem BL (h : an) (n : Nat) (hn : n < h.cabins.length) (gq : dG h = true) (x : Int) (hx : x = jz h h.cabins[n]) : Spec Tryz.prog 90 [cw h, nT fun _ => n] (aE (iR fun _ => x)) := by
 refine ay au Tryz.func90 rfl rfl (fr := true) (fun _ => by kernel_rfl) fun P hP hA => ?_;cbv;have hl : h.ae.length ≤ 40 := (gP.1 gq).dq;refine aU.by (X := Nat) (fun i => [(1, nT fun _ => n), (2, pN 0), (5, oN 1), (6, nT fun _ => i)]) (fun i => [(0, .box (kH h)), (1, aN .int fun _ => ln (fun p => gv p h.now) (h.ae.take i))]) (fun i => i ≤ h.ae.length) (fun i _ => h.ae.length - i) 0 (Nat.zero_le _) ?_ ?_
 · cbv
   repeat' first | exact trivial | refine ⟨rfl, ?_⟩ | fail
 · intro i hi;cbv;refine Br.dec (fun h2 => ?_) (fun h2 => ?_) <;> cbv
   rotate_left
   · have h2 : h.ae.length ≤ i := by simp at h2; omega
     have e : ln (fun p => gv p h.now) (h.ae.take i) = ln (fun p => gv p h.now) h.ae := by rw [List.take_of_length_le h2]
     refine ⟨h.cabins[n], by simp, get_cast h.cabins hn, ?_⟩;cbv;refine ⟨h.cabins[n], by simp, get_cast h.cabins hn, ?_⟩;cbv;refine ag.by hP (Oq h.cabins[n].row h.cabins[n].aj.free (ln (fun p => gv p h.now) (h.ae.take i)) (gV h.cabins[n].row h.cabins[n].aj.free (gW h)) (by rw [e]; rfl)) ?_;cbv;refine Br.dec (fun k7 => ?_) (fun k7 => ?_) <;> cbv
     · refine ⟨?_, trivial⟩;have k7 : gV h.cabins[n].row h.cabins[n].aj.free (gW h) < 0 := k7;exact (hx.trans (if_pos k7)).symm
     have k7 : ¬ gV h.cabins[n].row h.cabins[n].aj.free (gW h) < 0 := k7;rcases im (lj h.cabins[n].aj.free (gW h)) h.cabins[n].row with ⟨q, _⟩ | ⟨m, hm, q, _, _⟩
     · have q : gV h.cabins[n].row h.cabins[n].aj.free (gW h) = -1 := q;omega
     have q : gV h.cabins[n].row h.cabins[n].aj.free (gW h) = (m : Int) := q;have o0 : 0 ≤ gV h.cabins[n].row h.cabins[n].aj.free (gW h) := by omega
     have g0 : h.cabins[n].row[(gV h.cabins[n].row h.cabins[n].aj.free (gW h)).toNat]? = some h.cabins[n].row[m] := by rw [q, Int.toNat_natCast]; exact List.getElem?_eq_getElem hm
     refine ⟨h.cabins[n], by simp, get_cast h.cabins hn, ?_⟩;cbv;refine ⟨h.cabins[n].row[m], o0, g0, ?_⟩;cbv;refine ⟨?_, trivial⟩;exact (hx.trans ((if_neg k7).trans (by rw [g0]; rfl))).symm
   have h2 : i < h.ae.length := by simpa using h2
   have ob : ((ln (fun p => gv p h.now) (h.ae.take i)).length + 1) * 8 ≤ 140737488355328 := by
     have := He (fun p => gv p h.now) (h.ae.take i);rw [List.length_take] at this;omega
   refine ⟨h.ae[i], by simp, get_cast h.ae h2, ?_⟩;cbv;refine ag.by hP (M5 h.ae[i] h.now) ?_;cbv;refine Br.split (fun k0 => ?_) (fun k0 => ?_) <;> cbv
   · refine ⟨h.ae[i], by simp, get_cast h.ae h2, ?_⟩;cbv;refine ⟨ob, ?_⟩;cbv;refine Ar.exact (by (try simp only [nc] at *); omega) (by (try simp only [nc] at *); omega) ?_;cbv;refine aP.by (i + 1) ?_ ?_ ?_
     · show h.ae.length - (i + 1) < h.ae.length - i;omega
     · exact h2
     · cbv
       repeat' first | exact trivial | refine ⟨rfl, ?_⟩ | fail
       refine ⟨vC (fun p => gv p h.now) (fun p : aw => p.id) h2 k0, ?_⟩
       repeat' first | exact trivial | refine ⟨rfl, ?_⟩ | fail
   · refine Ar.exact (by (try simp only [nc] at *); omega) (by (try simp only [nc] at *); omega) ?_;cbv;refine aP.by (i + 1) ?_ ?_ ?_
     · show h.ae.length - (i + 1) < h.ae.length - i;omega
     · exact h2
     · cbv
       repeat' first | exact trivial | refine ⟨rfl, ?_⟩ | fail
       refine ⟨rL (fun p => gv p h.now) (fun p : aw => p.id) h2 k0, ?_⟩
       repeat' first | exact trivial | refine ⟨rfl, ?_⟩ | fail
set_option maxHeartbeats 1000000 in
theorem Hf (h : an) (k : Int) (hs : bh h) (x : Int) (hx : x = cM h k) : Spec Tryz.prog 52 [cw h, iA k] (aE (iR fun _ => x)) := by
 refine ay au Tryz.func52 rfl rfl (fr := true) (fun _ => by kernel_rfl) fun P hP hA => ?_;cbv;refine ag.by hP (Hd h k hs (cL h k) rfl) ?_;cbv;refine Br.split (fun kc => ?_) (fun kc => ?_) <;> cbv
 · refine ⟨?_, trivial⟩;have kc : (!cL h k) = true := kc;exact (hx.trans (if_neg (by intro q; rw [q] at kc; cases kc))).symm
 have kc : (!cL h k) = false := kc;have kc : cL h k = true := by simpa using kc
 have kk := Bool.and_eq_true_iff.1 kc;obtain ⟨n, hn, rfl, ec⟩ := yn kk.2;have gq := kk.1;have hx := hx.trans ((if_pos kc).trans (by rw [ec]));have hl : h.ae.length ≤ 40 := (gP.1 gq).dq;refine aU.by (X := Nat) (fun i => [(1, nT fun _ => n), (2, pN 0), (5, oN 1), (15, lA .aG h.ae), (16, nT fun _ => h.ae.length), (17, nT fun _ => i)]) (fun i => [(0, .box (kH h)), (1, aN .int fun _ => ln (fun p => gv p h.now) (h.ae.take i))]) (fun i => i ≤ h.ae.length) (fun i _ => h.ae.length - i) 0 (Nat.zero_le _) ?_ ?_
 · cbv
   repeat' first | exact trivial | refine ⟨rfl, ?_⟩ | fail
 · intro i hi;cbv;refine Br.dec (fun h2 => ?_) (fun h2 => ?_) <;> cbv
   rotate_left
   · have h2 : h.ae.length ≤ i := by simp at h2; omega
     have e : ln (fun p => gv p h.now) (h.ae.take i) = ln (fun p => gv p h.now) h.ae := by rw [List.take_of_length_le h2]
     refine ⟨h.cabins[n], by simp, get_cast h.cabins hn, ?_⟩;cbv;refine ag.by hP (Ov h.cabins[n].row h.cabins[n].aj.free (ln (fun p => gv p h.now) (h.ae.take i)) (gV h.cabins[n].row h.cabins[n].aj.free (gW h)) (by rw [e]; rfl)) ?_;cbv;refine Br.dec (fun k7 => ?_) (fun k7 => ?_) <;> cbv
     · refine ⟨?_, trivial⟩;have k7 : gV h.cabins[n].row h.cabins[n].aj.free (gW h) < 0 := k7;exact (hx.trans (if_pos k7)).symm
     have k7 : ¬ gV h.cabins[n].row h.cabins[n].aj.free (gW h) < 0 := k7;rcases im (lj h.cabins[n].aj.free (gW h)) h.cabins[n].row with ⟨q, _⟩ | ⟨m, hm, q, _, _⟩
     · have q : gV h.cabins[n].row h.cabins[n].aj.free (gW h) = -1 := q;omega
     have q : gV h.cabins[n].row h.cabins[n].aj.free (gW h) = (m : Int) := q;have o0 : 0 ≤ gV h.cabins[n].row h.cabins[n].aj.free (gW h) := by omega
     have g0 : h.cabins[n].row[(gV h.cabins[n].row h.cabins[n].aj.free (gW h)).toNat]? = some h.cabins[n].row[m] := by rw [q, Int.toNat_natCast]; exact List.getElem?_eq_getElem hm
     refine ⟨h.cabins[n].row[m], o0, g0, ?_⟩;cbv;refine ⟨?_, trivial⟩;exact (hx.trans ((if_neg k7).trans (by rw [g0]; rfl))).symm
   have h2 : i < h.ae.length := by simpa using h2
   have ob : ((ln (fun p => gv p h.now) (h.ae.take i)).length + 1) * 8 ≤ 140737488355328 := by
     have := He (fun p => gv p h.now) (h.ae.take i);rw [List.length_take] at this;omega
   refine ⟨h.ae[i], by simp, get_cast h.ae h2, ?_⟩;cbv;refine ag.by hP (M6 h.ae[i] h.now) ?_;cbv;refine Br.split (fun k0 => ?_) (fun k0 => ?_) <;> cbv
   · refine ⟨ob, ?_⟩;cbv;refine Ar.exact (by (try simp only [nc] at *); omega) (by (try simp only [nc] at *); omega) ?_;cbv;refine aP.by (i + 1) ?_ ?_ ?_
     · show h.ae.length - (i + 1) < h.ae.length - i;omega
     · exact h2
     · cbv
       repeat' first | exact trivial | refine ⟨rfl, ?_⟩ | fail
       refine ⟨vC (fun p => gv p h.now) (fun p : aw => p.id) h2 k0, ?_⟩
       repeat' first | exact trivial | refine ⟨rfl, ?_⟩ | fail
   · refine Ar.exact (by (try simp only [nc] at *); omega) (by (try simp only [nc] at *); omega) ?_;cbv;refine aP.by (i + 1) ?_ ?_ ?_
     · show h.ae.length - (i + 1) < h.ae.length - i;omega
     · exact h2
     · cbv
       repeat' first | exact trivial | refine ⟨rfl, ?_⟩ | fail
       refine ⟨rL (fun p => gv p h.now) (fun p : aw => p.id) h2 k0, ?_⟩
       repeat' first | exact trivial | refine ⟨rfl, ?_⟩ | fail
end Go.Proofs.YticeaiiffeccmaaGreat

