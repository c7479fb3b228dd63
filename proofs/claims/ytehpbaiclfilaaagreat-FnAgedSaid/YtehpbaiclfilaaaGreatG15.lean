/- Parts of a proof. No conditions. -/

import Derived.Test.YtehpbaiclfilaaaGreatG14
set_option linter.unusedSimpArgs false
set_option linter.unusedVariables false
namespace Go.Proofs.YtehpbaiclfilaaaGreat
open Go
set_option maxRecDepth 100000
theorem kM {h : ai} (k0 : (!aW h) = true) : aW h = false := by simpa using k0
theorem lv {h : ai} (k0 : (!aW h) = false) : aW h = true := by simpa using k0
theorem z_ (h : ai) (k : Int) (hs : bh h) (b : Bool) (hb : b = cC h k) : Spec Tryz.prog 119 [dk h, iA k] (aE (bR fun _ => b)) := by
 refine aH ay Tryz.func119 rfl rfl (fr := true) (fun _ => by kernel_rfl) fun P hP hA => ?_;have hc : h.cabins.length ≤ 1048576 := hs.2.2.1.1;cbv;refine ag.by hP (f_ h hs (aW h) rfl) ?_;cbv;refine Br.split (fun k0 => ?_) (fun k0 => ?_) <;> cbv
 rotate_left
 · refine ⟨?_, trivial⟩;have k0 : aW h = false := k0;exact (hb.trans (by rw [cC, k0]; rfl)).symm
 have k0 : aW h = true := k0;refine Ar.exact (by (try simp only [nc] at *); omega) (by (try simp only [nc] at *); omega) ?_;cbv;refine ag.by hP (da k 0 ((h.cabins.length : Int) - 1)) ?_;cbv;refine ⟨?_, trivial⟩;exact (hb.trans (by rw [cC, k0]; rfl)).symm
theorem po (h : ai) (k : Int) (hs : bh h) (b : Bool) (hb : b = cC h k) : Spec Tryz.prog 117 [dk h, iA k] (aE (bR fun _ => b)) := by
 refine aH ay Tryz.func117 rfl rfl (fr := true) (fun _ => by kernel_rfl) fun P hP hA => ?_;have hc : h.cabins.length ≤ 1048576 := hs.2.2.1.1;cbv;refine ag.by hP (r_ h hs (aW h) rfl) ?_;cbv;refine Br.split (fun k0 => ?_) (fun k0 => ?_) <;> cbv
 rotate_left
 · refine ⟨?_, trivial⟩;have k0 : aW h = false := k0;exact (hb.trans (by rw [cC, k0]; rfl)).symm
 have k0 : aW h = true := k0;refine ag.by hP (nk k (h.cabins.length : Int) (by omega) (by omega)) ?_;cbv;refine ⟨?_, trivial⟩;exact (hb.trans (by rw [cC, k0]; rfl)).symm
def sf (free : Int) (skip : List Int) (e : Entry) : Bool := decide (e.siz ≤ free) && !hasB skip e.bg
def lV (l : List Entry) (free : Int) (skip : List Int) : Int := hM (sf free skip) l
theorem Aa (e : Entry) (free : Int) (skip : List Int) (b : Bool) (hb : b = sf free skip e) : Spec Tryz.prog 232 [eA .aD e, .c (.bZ [.int .i64 fun _ => free] 0), .c (.bZ [.list .int fun _ => skip] 0)] (aE (bR fun _ => b)) := by
 refine aH ay Tryz.func232 rfl rfl (fr := true) (fun _ => by kernel_rfl) fun P hP hA => ?_;cbv
 repeat' first
  | (refine ag.by hP (D3 skip e.bg (hasB skip e.bg) rfl) ?_; cbv)
  | (refine Br.split (fun h => ?_) (fun h => ?_) <;> cbv)
  | fail
 all_goals refine ⟨?_, trivial⟩
 all_goals simp_all [sf]
theorem Ab (a : List Entry) (free : Int) (skip : List Int) (x : Int) (hx : x = lV a free skip) : Spec Tryz.prog 143 [lA .aD a, .c (.fn 232 [.bZ [.int .i64 fun _ => free] 0, .bZ [.list .int fun _ => skip] 0])] (aE (iR fun _ => x)) := by
 refine aH ay Tryz.func143 rfl rfl (fr := true) (fun _ => by kernel_rfl) fun P hP hA => ?_;obtain ⟨⟨ha, _⟩, _⟩ := hA;have ha : a.length ≤ 9223372036854775807 := ha;cbv;refine aT.by (X := Nat) (fun i => [(0, lA .aD a), (1, .c (.fn 232 [.bZ [.int .i64 fun _ => free] 0, .bZ [.list .int fun _ => skip] 0])), (7, nT fun _ => a.length), (8, nT fun _ => i)]) (fun _ => []) (fun i => i ≤ a.length ∧ ∀ (j : Nat) y, j < i → a[j]? = some y → sf free skip y = false) (fun i _ => a.length - i) 0 ⟨Nat.zero_le _, fun j y hj => by omega⟩ ?_ ?_
 · cbv
   repeat' first | exact trivial | refine ⟨rfl, ?_⟩ | fail
 · intro i ⟨hi, hn⟩;cbv;refine Br.dec (fun h2 => ?_) (fun h2 => ?_) <;> cbv
   · have h2 : i < a.length := by simpa using h2
     refine ⟨a[i], by simp, get_cast a h2, ?_⟩;cbv;refine ag.by hP (Aa a[i] free skip (sf free skip a[i]) rfl) ?_;cbv;refine Br.split (fun h3 => ?_) (fun h3 => ?_) <;> cbv
     · refine ⟨?_, trivial⟩;exact (hx.trans (oM h2 h3 hn)).symm
     · refine Ar.exact (by (try simp only [nc] at *); omega) (by (try simp only [nc] at *); omega) ?_;cbv;refine aJ.by (i + 1) ?_ ?_ ?_
       · show a.length - (i + 1) < a.length - i;omega
       · exact ⟨h2, il h2 hn h3⟩
       · cbv
         repeat' first | exact trivial | refine ⟨rfl, ?_⟩ | fail
   · have h2 : a.length ≤ i := by simp at h2; omega
     refine ⟨?_, trivial⟩;exact (hx.trans (oO (np h2 hn))).symm
theorem Ac (a : List Entry) (free : Int) (skip : List Int) (x : Int) (hx : x = lV a free skip) : Spec Tryz.prog 211 [lA .aD a, iA free, lA .int skip] (aE (iR fun _ => x)) := by
 refine aH ay Tryz.func211 rfl rfl (fr := true) (fun _ => by kernel_rfl) fun P hP hA => ?_;cbv;refine ag.by hP (Ab a free skip x hx) ?_;cbv
 repeat' first | exact trivial | refine ⟨rfl, ?_⟩ | fail
def iD (q : au → Bool) (l : List au) : List Int := (l.filter q).map fun p => p.id
theorem lU (q : au → Bool) (l : List au) : (iD q l).length ≤ l.length := by rw [iD, List.length_map]; exact List.length_filter_le _ _
def lW (h : ai) : List Int := iD (fun p => mw p h.now) h.ae
def vz (h : ai) (c : a_) : Int := if lV c.row c.ah.free (lW h) < 0 then 0 else ((c.row[(lV c.row c.ah.free (lW h)).toNat]?).getD default).bg
def eE (h : ai) (k : Int) : Int := if cC h k = true then vz h (aC h k) else 0
def jm (h : ai) : List Int := if aW h = true then iD (fun p => eT p h.now) h.ae else []
set_option maxHeartbeats 1000000 in
theorem pw (h : ai) (k : Int) (hs : bh h) (x : Int) (hx : x = eE h k) : Spec Tryz.prog 174 [dk h, iA k] (aE (iR fun _ => x)) := by
 refine aH ay Tryz.func174 rfl rfl (fr := true) (fun _ => by kernel_rfl) fun P hP hA => ?_;cbv;refine ag.by hP (po h k hs (cC h k) rfl) ?_;cbv;refine Br.split (fun kc => ?_) (fun kc => ?_) <;> cbv
 · refine ⟨?_, trivial⟩;have kc : (!cC h k) = true := kc;exact (hx.trans (if_neg (by intro q; rw [q] at kc; cases kc))).symm
 have kc : (!cC h k) = false := kc;have kc : cC h k = true := by simpa using kc
 have kk := Bool.and_eq_true_iff.1 kc;obtain ⟨n, hn, rfl, ec⟩ := xD kk.2;have fN := kk.1;have hx := hx.trans ((if_pos kc).trans (by rw [ec]));have hl : h.ae.length ≤ 40 := (cI.1 fN).dn;refine aT.by (X := Nat) (fun i => [(1, nT fun _ => n), (2, pN 0), (5, oN 1), (15, lA .az h.ae), (16, nT fun _ => h.ae.length), (17, nT fun _ => i)]) (fun i => [(0, .box (iq h)), (1, aQ .int fun _ => iD (fun p => mw p h.now) (h.ae.take i))]) (fun i => i ≤ h.ae.length) (fun i _ => h.ae.length - i) 0 (Nat.zero_le _) ?_ ?_
 · cbv
   repeat' first | exact trivial | refine ⟨rfl, ?_⟩ | fail
 · intro i hi;cbv;refine Br.dec (fun h2 => ?_) (fun h2 => ?_) <;> cbv
   rotate_left
   · have h2 : h.ae.length ≤ i := by simp at h2; omega
     have e : iD (fun p => mw p h.now) (h.ae.take i) = iD (fun p => mw p h.now) h.ae := by rw [List.take_of_length_le h2]
     refine ⟨h.cabins[n], by simp, get_cast h.cabins hn, ?_⟩;cbv;refine ag.by hP (Ac h.cabins[n].row h.cabins[n].ah.free (iD (fun p => mw p h.now) (h.ae.take i)) (lV h.cabins[n].row h.cabins[n].ah.free (lW h)) (by rw [e]; rfl)) ?_;cbv;refine Br.dec (fun k7 => ?_) (fun k7 => ?_) <;> cbv
     · refine ⟨?_, trivial⟩;have k7 : lV h.cabins[n].row h.cabins[n].ah.free (lW h) < 0 := k7;exact (hx.trans (if_pos k7)).symm
     have k7 : ¬ lV h.cabins[n].row h.cabins[n].ah.free (lW h) < 0 := k7;rcases hO (sf h.cabins[n].ah.free (lW h)) h.cabins[n].row with ⟨q, _⟩ | ⟨m, hm, q, _, _⟩
     · have q : lV h.cabins[n].row h.cabins[n].ah.free (lW h) = -1 := q;omega
     have q : lV h.cabins[n].row h.cabins[n].ah.free (lW h) = (m : Int) := q;have o0 : 0 ≤ lV h.cabins[n].row h.cabins[n].ah.free (lW h) := by omega
     have g0 : h.cabins[n].row[(lV h.cabins[n].row h.cabins[n].ah.free (lW h)).toNat]? = some h.cabins[n].row[m] := by rw [q, Int.toNat_natCast]; exact List.getElem?_eq_getElem hm
     refine ⟨h.cabins[n].row[m], o0, g0, ?_⟩;cbv;refine ⟨?_, trivial⟩;exact (hx.trans ((if_neg k7).trans (by rw [g0]; rfl))).symm
   have h2 : i < h.ae.length := by simpa using h2
   have ob : ((iD (fun p => mw p h.now) (h.ae.take i)).length + 1) * 8 ≤ 140737488355328 := by
     have := lU (fun p => mw p h.now) (h.ae.take i);rw [List.length_take] at this;omega
   refine ⟨h.ae[i], by simp, get_cast h.ae h2, ?_⟩;cbv;refine ag.by hP (z8 h.ae[i] h.now) ?_;cbv;refine Br.split (fun k0 => ?_) (fun k0 => ?_) <;> cbv
   · refine ⟨ob, ?_⟩;cbv;refine Ar.exact (by (try simp only [nc] at *); omega) (by (try simp only [nc] at *); omega) ?_;cbv;refine aJ.by (i + 1) ?_ ?_ ?_
     · show h.ae.length - (i + 1) < h.ae.length - i;omega
     · exact h2
     · cbv
       repeat' first | exact trivial | refine ⟨rfl, ?_⟩ | fail
       refine ⟨vo (fun p => mw p h.now) (fun p : au => p.id) h2 k0, ?_⟩
       repeat' first | exact trivial | refine ⟨rfl, ?_⟩ | fail
   · refine Ar.exact (by (try simp only [nc] at *); omega) (by (try simp only [nc] at *); omega) ?_;cbv;refine aJ.by (i + 1) ?_ ?_ ?_
     · show h.ae.length - (i + 1) < h.ae.length - i;omega
     · exact h2
     · cbv
       repeat' first | exact trivial | refine ⟨rfl, ?_⟩ | fail
       refine ⟨rX (fun p => mw p h.now) (fun p : au => p.id) h2 k0, ?_⟩
       repeat' first | exact trivial | refine ⟨rfl, ?_⟩ | fail
set_option maxHeartbeats 1000000 in
theorem Af (h : ai) (hs : bh h) (x : List Int) (hx : x = jm h) : Spec Tryz.prog 56 [dk h] (aE (lR .int fun _ => x)) := by
 refine aH ay Tryz.func56 rfl rfl (fr := true) (fun _ => by kernel_rfl) fun P hP hA => ?_;cbv;refine ag.by hP (f_ h hs (aW h) rfl) ?_;cbv;refine Br.split (fun kc => ?_) (fun kc => ?_) <;> cbv
 · have kc := kM (h := h) kc;obtain rfl : x = [] := hx.trans (if_neg (by rw [kc]; simp))
   repeat' first | exact trivial | refine ⟨rfl, ?_⟩ | fail
 have fN := lv (h := h) kc;obtain rfl : x = iD (fun p => eT p h.now) h.ae := hx.trans (if_pos fN);have hl : h.ae.length ≤ 40 := (cI.1 fN).dn;refine aT.by (X := Nat) (fun i => [(1, pN 0), (3, oN 1), (4, nT fun _ => i)]) (fun i => [(0, .box (iq h)), (1, aQ .int fun _ => iD (fun p => eT p h.now) (h.ae.take i))]) (fun i => i ≤ h.ae.length) (fun i _ => h.ae.length - i) 0 (Nat.zero_le _) ?_ ?_
 · cbv
   repeat' first | exact trivial | refine ⟨rfl, ?_⟩ | fail
 · intro i hi;cbv;refine Br.dec (fun h2 => ?_) (fun h2 => ?_) <;> cbv
   rotate_left
   · have h2 : h.ae.length ≤ i := by simp at h2; omega
     have e : iD (fun p => eT p h.now) (h.ae.take i) = iD (fun p => eT p h.now) h.ae := by rw [List.take_of_length_le h2]
     refine ⟨e, trivial⟩
   have h2 : i < h.ae.length := by simpa using h2
   have ob : ((iD (fun p => eT p h.now) (h.ae.take i)).length + 1) * 8 ≤ 140737488355328 := by
     have := lU (fun p => eT p h.now) (h.ae.take i);rw [List.length_take] at this;omega
   refine ⟨h.ae[i], by simp, get_cast h.ae h2, ?_⟩;cbv;refine ag.by hP (IG h.ae[i] h.now) ?_;cbv;refine Br.split (fun k0 => ?_) (fun k0 => ?_) <;> cbv
   · refine ⟨h.ae[i], by simp, get_cast h.ae h2, ?_⟩;cbv;refine ⟨ob, ?_⟩;cbv;refine Ar.exact (by (try simp only [nc] at *); omega) (by (try simp only [nc] at *); omega) ?_;cbv;refine aJ.by (i + 1) ?_ ?_ ?_
     · show h.ae.length - (i + 1) < h.ae.length - i;omega
     · exact h2
     · cbv
       repeat' first | exact trivial | refine ⟨rfl, ?_⟩ | fail
       refine ⟨vo (fun p => eT p h.now) (fun p : au => p.id) h2 k0, ?_⟩
       repeat' first | exact trivial | refine ⟨rfl, ?_⟩ | fail
   · refine Ar.exact (by (try simp only [nc] at *); omega) (by (try simp only [nc] at *); omega) ?_;cbv;refine aJ.by (i + 1) ?_ ?_ ?_
     · show h.ae.length - (i + 1) < h.ae.length - i;omega
     · exact h2
     · cbv
       repeat' first | exact trivial | refine ⟨rfl, ?_⟩ | fail
       refine ⟨rX (fun p => eT p h.now) (fun p : au => p.id) h2 k0, ?_⟩
       repeat' first | exact trivial | refine ⟨rfl, ?_⟩ | fail
set_option maxHeartbeats 1000000 in
theorem m1 (h : ai) (hs : bh h) (x : List Int) (hx : x = jm h) : Spec Tryz.prog 55 [dk h] (aE (lR .int fun _ => x)) := by
 refine aH ay Tryz.func55 rfl rfl (fr := true) (fun _ => by kernel_rfl) fun P hP hA => ?_;cbv;refine ag.by hP (r_ h hs (aW h) rfl) ?_;cbv;refine Br.split (fun kc => ?_) (fun kc => ?_) <;> cbv
 · have kc := kM (h := h) kc;obtain rfl : x = [] := hx.trans (if_neg (by rw [kc]; simp))
   repeat' first | exact trivial | refine ⟨rfl, ?_⟩ | fail
 have fN := lv (h := h) kc;obtain rfl : x = iD (fun p => eT p h.now) h.ae := hx.trans (if_pos fN);have hl : h.ae.length ≤ 40 := (cI.1 fN).dn;refine aT.by (X := Nat) (fun i => [(1, pN 0), (3, oN 1), (10, lA .az h.ae), (11, nT fun _ => h.ae.length), (12, nT fun _ => i)]) (fun i => [(0, .box (iq h)), (1, aQ .int fun _ => iD (fun p => eT p h.now) (h.ae.take i))]) (fun i => i ≤ h.ae.length) (fun i _ => h.ae.length - i) 0 (Nat.zero_le _) ?_ ?_
 · cbv
   repeat' first | exact trivial | refine ⟨rfl, ?_⟩ | fail
 · intro i hi;cbv;refine Br.dec (fun h2 => ?_) (fun h2 => ?_) <;> cbv
   rotate_left
   · have h2 : h.ae.length ≤ i := by simp at h2; omega
     have e : iD (fun p => eT p h.now) (h.ae.take i) = iD (fun p => eT p h.now) h.ae := by rw [List.take_of_length_le h2]
     refine ⟨e, trivial⟩
   have h2 : i < h.ae.length := by simpa using h2
   have ob : ((iD (fun p => eT p h.now) (h.ae.take i)).length + 1) * 8 ≤ 140737488355328 := by
     have := lU (fun p => eT p h.now) (h.ae.take i);rw [List.length_take] at this;omega
   refine ⟨h.ae[i], by simp, get_cast h.ae h2, ?_⟩;cbv;refine ag.by hP (Du h.ae[i] h.now) ?_;cbv;refine Br.split (fun k0 => ?_) (fun k0 => ?_) <;> cbv
   · refine ⟨ob, ?_⟩;cbv;refine Ar.exact (by (try simp only [nc] at *); omega) (by (try simp only [nc] at *); omega) ?_;cbv;refine aJ.by (i + 1) ?_ ?_ ?_
     · show h.ae.length - (i + 1) < h.ae.length - i;omega
     · exact h2
     · cbv
       repeat' first | exact trivial | refine ⟨rfl, ?_⟩ | fail
       refine ⟨vo (fun p => eT p h.now) (fun p : au => p.id) h2 k0, ?_⟩
       repeat' first | exact trivial | refine ⟨rfl, ?_⟩ | fail
   · refine Ar.exact (by (try simp only [nc] at *); omega) (by (try simp only [nc] at *); omega) ?_;cbv;refine aJ.by (i + 1) ?_ ?_ ?_
     · show h.ae.length - (i + 1) < h.ae.length - i;omega
     · exact h2
     · cbv
       repeat' first | exact trivial | refine ⟨rfl, ?_⟩ | fail
       refine ⟨rX (fun p => eT p h.now) (fun p : au => p.id) h2 k0, ?_⟩
       repeat' first | exact trivial | refine ⟨rfl, ?_⟩ | fail
end Go.Proofs.YtehpbaiclfilaaaGreat

