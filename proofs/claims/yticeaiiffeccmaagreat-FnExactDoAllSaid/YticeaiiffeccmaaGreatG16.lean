/- Parts of a proof. No conditions. -/

import Derived.Test.YticeaiiffeccmaaGreatG14
import Derived.Test.YticeaiiffeccmaaGreatG05
import Derived.Test.YticeaiiffeccmaaGreatG15
import Derived.Test.YticeaiiffeccmaaGreatG07
set_option linter.unusedSimpArgs false
set_option linter.unusedVariables false
namespace Go.Proofs.YticeaiiffeccmaaGreat
open Go
set_option maxRecDepth 100000
def je (h : an) (k : Int) : Int := ((af (bU k) h.ae : Nat) : Int)
def ia (h : an) (k : Int) : Bool := aq k 0 ((h.cabins.length : Int) - 1)
def yA (h : an) (q : bF) : Int :=
 if ia h q.ah = false then 4 else if aq q.ak (-1) ((h.cabins.length : Int) - 1) = false then 4 else if q.ak = q.ah then 4
 else if aq q.al 1 h.rules.size = false then 5
 else if q.aJ ≥ h.rules.cn then 6
 else if aq q.id 1 999 = false then 7
 else if bw h.ae q.id ≥ 0 then 8
 else if je h q.ah ≥ h.rules.room then 9
 else if q.ak ≠ -1 ∧ gd (aA h q.ak) < q.al then 10
 else if h.aC > 1000000 then 11 else 0
def B6 (h : an) (q : bF) : Int :=
 if ia h q.ah = false then 4 else if aq q.al 1 60 = false then 5 else if gd (aA h q.ah) < q.al then 12 else 0
def yB (h : an) (id : Int) : Int :=
 if bw h.ae id < 0 then 7 else if (fp h id).st ≠ 2 then 13 else if k_ (fp h id) h.now = true then 14 else 0
def B7 (h : an) (cD : Int) : Int :=
 if cD ≥ h.rules.cC then 16 else if ((h.aF[cD.toNat]?).getD 0) = -1 ∧ h.todo = [] then 17 else 0
def aY (h : an) (q : bF) : Int :=
 if dG h = false then 1 else if aq q.kind 1 7 = false then 2 else if eZ q = false then 3
 else if q.kind = 1 then yA h q
 else if q.kind = 2 then (if bw h.ae q.id < 0 then 7 else 0)
 else if q.kind = 3 then B6 h q
 else if q.kind = 4 ∨ q.kind = 5 then yB h q.id
 else if q.kind = 6 then (if h.now = 1000000 then 15 else 0)
 else B7 h q.id
theorem rT {n : Int} (h : field n = true) : 0 ≤ n ∧ n ≤ 9999 := by simpa [field] using h
structure HY (q : bF) : Prop where
 id : 0 ≤ q.id ∧ q.id ≤ 9999
 ah : 0 ≤ q.ah ∧ q.ah ≤ 9999
 ak : -1 ≤ q.ak ∧ q.ak ≤ 9999
 al : 0 ≤ q.al ∧ q.al ≤ 9999
 aJ : 0 ≤ q.aJ ∧ q.aJ ≤ 9999
theorem B8 {q : bF} (h : eZ q = true) (hk : q.kind = 1) : HY q := by
 rw [eZ, if_pos hk] at h;simp only [Bool.and_eq_true, decide_eq_true_eq] at h;exact ⟨rT h.1.1.1.1, rT h.1.1.1.2, h.1.1.2, rT h.1.2, rT h.2⟩
theorem HZ {q : bF} (h : eZ q = true) (hk : q.kind = 3) : (0 ≤ q.ah ∧ q.ah ≤ 9999) ∧ 0 ≤ q.al ∧ q.al ≤ 9999 := by
 rw [eZ, if_neg (by omega), if_neg (by omega), if_pos hk] at h;simp only [Bool.and_eq_true] at h;exact ⟨rT h.1.1, rT h.1.2⟩
theorem B9 {q : bF} (h : eZ q = true) (hk : q.kind = 7) : 0 ≤ q.id ∧ q.id ≤ 9999 := by
 rw [eZ, if_neg (by omega), if_pos (by omega)] at h;simp only [Bool.and_eq_true] at h;exact rT h.1
theorem B_ {h : an} {q : bF} (h0 : dG h = false) : aY h q = 1 := if_pos h0
theorem Ca {h : an} {q : bF} (h0 : dG h = true) (h1 : aq q.kind 1 7 = false) : aY h q = 2 := by simp [aY, h0, h1]
theorem Cb {h : an} {q : bF} (h0 : dG h = true) (h1 : aq q.kind 1 7 = true) (h2 : eZ q = false) : aY h q = 3 := by simp [aY, h0, h1, h2]
theorem Cc {h : an} {q : bF} (h0 : dG h = true) (h2 : eZ q = true) (k : q.kind = 1) : aY h q = yA h q := by simp [aY, h0, h2, k, aq]
theorem Cd {h : an} {q : bF} (h0 : dG h = true) (h2 : eZ q = true) (k : q.kind = 2) : aY h q = if bw h.ae q.id < 0 then 7 else 0 := by simp [aY, h0, h2, k, aq]
theorem Ce {h : an} {q : bF} (h0 : dG h = true) (h2 : eZ q = true) (k : q.kind = 3) : aY h q = B6 h q := by simp [aY, h0, h2, k, aq]
theorem v_ {h : an} {q : bF} (h0 : dG h = true) (h2 : eZ q = true) (k : q.kind = 4 ∨ q.kind = 5) : aY h q = yB h q.id := by
 rcases k with k | k <;> simp [aY, h0, h2, k, aq]
theorem H2 {h : an} {q : bF} (h0 : dG h = true) (h2 : eZ q = true) (k : q.kind = 6) : aY h q = if h.now = 1000000 then 15 else 0 := by simp [aY, h0, h2, k, aq]
theorem Cf {h : an} {q : bF} (h0 : dG h = true) (h2 : eZ q = true) (k : q.kind = 7) : aY h q = B7 h q.id := by simp [aY, h0, h2, k, aq]
theorem H3 {h : an} {k : Int} (q : (h.cabins.length : Int) ≤ k) : ia h k = false := by simp [ia, aq]; omega
theorem H4 {h : an} {k : Int} (q0 : 0 ≤ k) (q : k < (h.cabins.length : Int)) : ia h k = true := by simp [ia, aq]; omega
theorem Pr {h : an} {k : Int} (q : (h.cabins.length : Int) ≤ k) : aq k (-1) ((h.cabins.length : Int) - 1) = false := by simp [aq]; omega
theorem Ps {h : an} {k : Int} (q0 : -1 ≤ k) (q : k < (h.cabins.length : Int)) : aq k (-1) ((h.cabins.length : Int) - 1) = true := by simp [aq]; omega
theorem H5 {h : an} {k : Int} (k0 : dG h = true) (q : aq k (-1) ((h.cabins.length : Int) - 1) = true) (n : k ≠ -1) : cL h k = true := by
 have q := bO q;rw [cL, k0]; simp [aq]; omega
theorem H6 {h : an} {k : Int} (k0 : dG h = true) (q : ia h k = true) : cL h k = true := by rw [cL, k0]; exact q
theorem H7 {l : List Int} (h : (((l.length : Nat) : Int) == 0) = true) : l = [] := by
 cases l with
 | nil => rfl
 | cons a l => simp at h; omega
theorem H8 {l : List Int} (h : (((l.length : Nat) : Int) == 0) = false) : ¬ l = [] := by
 intro e; subst e; simp at h
set_option maxHeartbeats 4000000 in
theorem Pt (h : an) (q : bF) (hs : bh h) (k0 : dG h = true) (jr : HY q) (x : Int) (hx : x = yA h q) : Spec Tryz.prog 135 [cw h, eA .cT q] (aE (iR fun _ => x)) := by
 have s2 := hs.2.1;have hc : h.cabins.length ≤ 1048576 := hs.2.2.1.1;refine ay au Tryz.func135 rfl rfl (fr := true) (fun _ => by kernel_rfl) fun P hP hA => ?_;cbv;refine Br.dec (fun j0 => ?_) (fun j0 => ?_) <;> cbv
 · have j0 : q.ah ≥ (h.cabins.length : Int) := j0;refine ⟨?_, trivial⟩;exact (hx.trans (if_pos (H3 j0))).symm
 have j0 : ¬ q.ah ≥ (h.cabins.length : Int) := j0;have j0 : ia h q.ah = true := H4 jr.ah.1 (by omega);have lq := hx.trans (if_neg (by rw [j0]; simp));refine Br.dec (fun j1 => ?_) (fun j1 => ?_) <;> cbv
 · have j1 : q.ak ≥ (h.cabins.length : Int) := j1;refine ⟨?_, trivial⟩;exact (lq.trans (if_pos (Pr j1))).symm
 have j1 : ¬ q.ak ≥ (h.cabins.length : Int) := j1;have j1 : aq q.ak (-1) ((h.cabins.length : Int) - 1) = true := Ps jr.ak.1 (by omega);have lq := lq.trans (if_neg (by rw [j1]; simp));refine Br.split (fun j2 => ?_) (fun j2 => ?_) <;> cbv
 · have j2 : (q.ak == q.ah) = true := j2;refine ⟨?_, trivial⟩;exact (lq.trans (if_pos (by simpa using j2))).symm
 have j2 : (q.ak == q.ah) = false := j2;have j2 : ¬ q.ak = q.ah := by simpa using j2
 refine ag.by hP (da q.al 1 h.rules.size) ?_;cbv;refine Br.split (fun j3 => ?_) (fun j3 => ?_) <;> cbv
 · have j3 : (!aq q.al 1 h.rules.size) = true := j3;have j3 : aq q.al 1 h.rules.size = false := by simpa using j3
   refine ⟨?_, trivial⟩;exact (lq.trans ((if_neg j2).trans (if_pos j3))).symm
 have j3 : (!aq q.al 1 h.rules.size) = false := j3;have j3 : aq q.al 1 h.rules.size = true := by simpa using j3
 have hx := lq.trans ((if_neg j2).trans (if_neg (by rw [j3]; simp)));refine Br.dec (fun j4 => ?_) (fun j4 => ?_) <;> cbv
 · have j4 : q.aJ ≥ h.rules.cn := j4;refine ⟨?_, trivial⟩;exact (hx.trans (if_pos j4)).symm
 have j4 : ¬ q.aJ ≥ h.rules.cn := j4;have hx := hx.trans (if_neg j4);refine ag.by hP (da q.id 1 999) ?_;cbv;refine Br.split (fun j5 => ?_) (fun j5 => ?_) <;> cbv
 · have j5 : (!aq q.id 1 999) = true := j5;have j5 : aq q.id 1 999 = false := by simpa using j5
   refine ⟨?_, trivial⟩;exact (hx.trans (if_pos j5)).symm
 have j5 : (!aq q.id 1 999) = false := j5;have j5 : aq q.id 1 999 = true := by simpa using j5
 have hx := hx.trans (if_neg (by rw [j5]; simp));refine ag.by hP (qq h q.id (bw h.ae q.id) rfl) ?_;cbv;refine Br.dec (fun j6 => ?_) (fun j6 => ?_) <;> cbv
 · have j6 : bw h.ae q.id ≥ 0 := j6;refine ⟨?_, trivial⟩;exact (hx.trans (if_pos j6)).symm
 have j6 : ¬ bw h.ae q.id ≥ 0 := j6;have hx := hx.trans (if_neg j6);refine ag.by hP (Bj h.ae q.ah s2) ?_;cbv;refine Br.dec (fun j7 => ?_) (fun j7 => ?_) <;> cbv
 · have j7 : je h q.ah ≥ h.rules.room := j7;refine ⟨?_, trivial⟩;exact (hx.trans (if_pos j7)).symm
 have j7 : ¬ je h q.ah ≥ h.rules.room := j7;have jv : (if je h q.ah ≥ h.rules.room then (9 : Int) else if q.ak ≠ -1 ∧ gd (aA h q.ak) < q.al then 10 else if h.aC > 1000000 then 11 else 0) = if q.ak ≠ -1 ∧ gd (aA h q.ak) < q.al then 10 else if h.aC > 1000000 then 11 else 0 := if_neg j7
 refine Br.dec (fun j8 => ?_) (fun j8 => ?_) <;> cbv
 · have j8 : q.ak ≠ -1 := by have j8 : q.ak ≥ 0 := j8; omega
   refine ag.by hP (Ha h q.ak (H5 k0 j1 j8) (gd (aA h q.ak)) rfl) ?_;cbv;refine Br.dec (fun j9 => ?_) (fun j9 => ?_) <;> cbv
   · have j9 : gd (aA h q.ak) < q.al := j9;refine ⟨?_, trivial⟩;exact (hx.trans (jv.trans (if_pos ⟨j8, j9⟩))).symm
   have j9 : ¬ gd (aA h q.ak) < q.al := j9;refine Br.dec (fun eS => ?_) (fun eS => ?_) <;> cbv
   · have eS : h.aC > 1000000 := eS;refine ⟨?_, trivial⟩;exact (hx.trans (by rw [jv, if_neg fun z => j9 z.2, if_pos eS])).symm
   · have eS : ¬ h.aC > 1000000 := eS;refine ⟨?_, trivial⟩;exact (hx.trans (by rw [jv, if_neg fun z => j9 z.2, if_neg eS])).symm
 · have j8 : q.ak = -1 := by have j8 : ¬ q.ak ≥ 0 := j8; have := jr.ak; omega
   refine Br.dec (fun eS => ?_) (fun eS => ?_) <;> cbv
   · have eS : h.aC > 1000000 := eS;refine ⟨?_, trivial⟩;exact (hx.trans (by rw [jv, if_neg fun z => z.1 j8, if_pos eS])).symm
   · have eS : ¬ h.aC > 1000000 := eS;refine ⟨?_, trivial⟩;exact (hx.trans (by rw [jv, if_neg fun z => z.1 j8, if_neg eS])).symm
set_option maxHeartbeats 4000000 in
theorem H9 (h : an) (id : Int) (hs : bh h) (k0 : dG h = true) (x : Int) (hx : x = yB h id) : Spec Tryz.prog 137 [cw h, iA id] (aE (iR fun _ => x)) := by
 have s2 := hs.2.1;have hc : h.cabins.length ≤ 1048576 := hs.2.2.1.1;have hg := gP.1 k0;refine ay au Tryz.func137 rfl rfl (fr := true) (fun _ => by kernel_rfl) fun P hP hA => ?_;cbv;refine ag.by hP (qq h id (bw h.ae id) rfl) ?_;cbv;refine Br.dec (fun a0 => ?_) (fun a0 => ?_) <;> cbv
 · have a0 : bw h.ae id < 0 := a0;refine ⟨?_, trivial⟩;exact (hx.trans (if_pos a0)).symm
 have a0 : ¬ bw h.ae id < 0 := a0;have hx := hx.trans (if_neg a0);obtain ⟨i, c, g⟩ := known hg (by omega : 0 ≤ bw h.ae id);have hi := g.lt;have og : 0 ≤ bw h.ae id := by omega
 have gg : h.ae[(bw h.ae id).toNat]? = some h.ae[i] := by rw [g.at_, Int.toNat_natCast]; exact List.getElem?_eq_getElem hi
 rw [g.aG] at hx;refine ⟨h.ae[i], og, gg, ?_⟩;cbv;refine Br.split (fun a1 => ?_) (fun a1 => ?_) <;> cbv
 · have a1 : (h.ae[i].st != 2) = true := a1;refine ⟨?_, trivial⟩;exact (hx.trans (if_pos (by simpa using a1))).symm
 have a1 : (h.ae[i].st != 2) = false := a1;have hx := hx.trans (if_neg (by simpa using a1));refine ⟨h.ae[i], og, gg, ?_⟩;cbv;refine ag.by hP (M4 h.ae[i] h.now) ?_;cbv;refine Br.split (fun a2 => ?_) (fun a2 => ?_) <;> cbv
 · have a2 : k_ h.ae[i] h.now = true := a2;refine ⟨?_, trivial⟩;exact (hx.trans (if_pos a2)).symm
 · have a2 : k_ h.ae[i] h.now = false := a2;refine ⟨?_, trivial⟩;exact (hx.trans (if_neg (by rw [a2]; simp))).symm
set_option maxHeartbeats 4000000 in
theorem jS (h : an) (q : bF) (hs : bh h) (x : Int) (hx : x = aY h q) : Spec Tryz.prog 70 [cw h, eA .cT q] (aE (iR fun _ => x)) := by
 have s2 := hs.2.1;have hc : h.cabins.length ≤ 1048576 := hs.2.2.1.1;refine ay au Tryz.func70 rfl rfl (fr := true) (fun _ => by kernel_rfl) fun P hP hA => ?_;cbv;refine ag.by hP (G7 h hs (dG h) rfl) ?_;cbv;refine Br.split (fun k0 => ?_) (fun k0 => ?_) <;> cbv
 · have k0 : (!dG h) = true := k0;refine ⟨?_, trivial⟩;exact (hx.trans (B_ (by simpa using k0))).symm
 have k0 : (!dG h) = false := k0;have k0 : dG h = true := by simpa using k0
 refine ag.by hP (da q.kind 1 7) ?_;cbv;refine Br.split (fun k1 => ?_) (fun k1 => ?_) <;> cbv
 · have k1 : (!aq q.kind 1 7) = true := k1;refine ⟨?_, trivial⟩;exact (hx.trans (Ca k0 (by simpa using k1))).symm
 have k1 : (!aq q.kind 1 7) = false := k1;have k1 : aq q.kind 1 7 = true := by simpa using k1
 refine ag.by hP (Mq q (eZ q) rfl) ?_;cbv;refine Br.split (fun k2 => ?_) (fun k2 => ?_) <;> cbv
 · have k2 : (!eZ q) = true := k2;refine ⟨?_, trivial⟩;exact (hx.trans (Cb k0 k1 (by simpa using k2))).symm
 have k2 : (!eZ q) = false := k2;have k2 : eZ q = true := by simpa using k2
 have hg := gP.1 k0;have kr := bO k1;refine Br.split (fun c1 => ?_) (fun c1 => ?_) <;> cbv
 · have kk : q.kind = 1 := by have c1 : (q.kind == 1) = true := c1; simpa using c1
   have jr := B8 k2 kk;have hx := hx.trans (Cc k0 k2 kk);refine ag.by hP (Pt h q hs k0 jr x hx) ?_;cbv
   repeat' first | exact trivial | refine ⟨rfl, ?_⟩ | fail
 have c1 : ¬ q.kind = 1 := by have c1 : (q.kind == 1) = false := c1; simpa using c1
 refine Br.split (fun c2 => ?_) (fun c2 => ?_) <;> cbv
 · have kk : q.kind = 2 := by have c2 : (q.kind == 2) = true := c2; simpa using c2
   have hx := hx.trans (Cd k0 k2 kk);refine ag.by hP (qq h q.id (bw h.ae q.id) rfl) ?_;cbv;refine Br.dec (fun a0 => ?_) (fun a0 => ?_) <;> cbv
   · have a0 : bw h.ae q.id < 0 := a0;refine ⟨?_, trivial⟩;exact (hx.trans (if_pos a0)).symm
   · have a0 : ¬ bw h.ae q.id < 0 := a0;refine ⟨?_, trivial⟩;exact (hx.trans (if_neg a0)).symm
 have c2 : ¬ q.kind = 2 := by have c2 : (q.kind == 2) = false := c2; simpa using c2
 refine Br.split (fun c3 => ?_) (fun c3 => ?_) <;> cbv
 · have kk : q.kind = 3 := by have c3 : (q.kind == 3) = true := c3; simpa using c3
   have hx := hx.trans (Ce k0 k2 kk);have fr := HZ k2 kk;refine Br.dec (fun j0 => ?_) (fun j0 => ?_) <;> cbv
   · have j0 : q.ah ≥ (h.cabins.length : Int) := j0;refine ⟨?_, trivial⟩;exact (hx.trans (if_pos (H3 j0))).symm
   have j0 : ¬ q.ah ≥ (h.cabins.length : Int) := j0;have j0 : ia h q.ah = true := H4 fr.1.1 (by omega);have hx := hx.trans (if_neg (by rw [j0]; simp));refine ag.by hP (da q.al 1 60) ?_;cbv;refine Br.split (fun f1 => ?_) (fun f1 => ?_) <;> cbv
   · have f1 : (!aq q.al 1 60) = true := f1;refine ⟨?_, trivial⟩;exact (hx.trans (if_pos (by simpa using f1))).symm
   have f1 : (!aq q.al 1 60) = false := f1;have hx := hx.trans (if_neg (by simpa using f1));refine ag.by hP (Ha h q.ah (H6 k0 j0) (gd (aA h q.ah)) rfl) ?_;cbv;refine Br.dec (fun f2 => ?_) (fun f2 => ?_) <;> cbv
   · have f2 : gd (aA h q.ah) < q.al := f2;refine ⟨?_, trivial⟩;exact (hx.trans (if_pos f2)).symm
   · have f2 : ¬ gd (aA h q.ah) < q.al := f2;refine ⟨?_, trivial⟩;exact (hx.trans (if_neg f2)).symm
 have c3 : ¬ q.kind = 3 := by have c3 : (q.kind == 3) = false := c3; simpa using c3
 refine Br.split (fun c4 => ?_) (fun c4 => ?_) <;> cbv
 · have kk : q.kind = 4 := by have c4 : (q.kind == 4) = true := c4; simpa using c4
   have hx := hx.trans (v_ k0 k2 (Or.inl kk));refine Br.split (fun d4 => ?_) (fun d4 => ?_) <;> cbv
   · refine ag.by hP (H9 h q.id hs k0 x hx) ?_;cbv
     repeat' first | exact trivial | refine ⟨rfl, ?_⟩ | fail
   · exfalso;have d4 : (q.kind == 4) = false := d4;rw [kk] at d4; cases d4
 have c4 : ¬ q.kind = 4 := by have c4 : (q.kind == 4) = false := c4; simpa using c4
 refine Br.split (fun c5 => ?_) (fun c5 => ?_) <;> cbv
 · have kk : q.kind = 5 := by have c5 : (q.kind == 5) = true := c5; simpa using c5
   have hx := hx.trans (v_ k0 k2 (Or.inr kk));refine ag.by hP (H9 h q.id hs k0 x hx) ?_;cbv
   repeat' first | exact trivial | refine ⟨rfl, ?_⟩ | fail
 have c5 : ¬ q.kind = 5 := by have c5 : (q.kind == 5) = false := c5; simpa using c5
 refine Br.split (fun c6 => ?_) (fun c6 => ?_) <;> cbv
 · have kk : q.kind = 6 := by have c6 : (q.kind == 6) = true := c6; simpa using c6
   have hx := hx.trans (H2 k0 k2 kk);have hn := bO hg.now;refine Br.dec (fun t0 => ?_) (fun t0 => ?_) <;> cbv
   · have t0 : h.now ≥ 1000000 := t0;refine ⟨?_, trivial⟩;exact (hx.trans (if_pos (by omega))).symm
   · have t0 : ¬ h.now ≥ 1000000 := t0;refine ⟨?_, trivial⟩;exact (hx.trans (if_neg (by omega))).symm
 have c6 : ¬ q.kind = 6 := by have c6 : (q.kind == 6) = false := c6; simpa using c6
 refine Br.split (fun c7 => ?_) (fun c7 => ?_) <;> cbv
 · have kk : q.kind = 7 := by have c7 : (q.kind == 7) = true := c7; simpa using c7
   have hx := hx.trans (Cf k0 k2 kk);have pr := B9 k2 kk;refine Br.dec (fun p0 => ?_) (fun p0 => ?_) <;> cbv
   · have p0 : q.id ≥ h.rules.cC := p0;refine ⟨?_, trivial⟩;exact (hx.trans (if_pos p0)).symm
   have p0 : ¬ q.id ≥ h.rules.cC := p0;have hx := hx.trans (if_neg p0);have cr := hg.cC;have hj : q.id.toNat < h.aF.length := by omega
   have op : 0 ≤ q.id := pr.1;have gp : h.aF[q.id.toNat]? = some h.aF[q.id.toNat] := List.getElem?_eq_getElem hj;rw [gp] at hx;have hx : x = if h.aF[q.id.toNat] = -1 ∧ h.todo = [] then 17 else 0 := hx
   have jj := bO (hg.aF.aF _ (List.getElem_mem hj));refine ⟨h.aF[q.id.toNat], op, gp, ?_⟩;cbv;refine Br.dec (fun p1 => ?_) (fun p1 => ?_) <;> cbv
   · have p1 : h.aF[q.id.toNat] = -1 := by have p1 : h.aF[q.id.toNat] < 0 := p1; omega
     refine Br.split (fun p2 => ?_) (fun p2 => ?_) <;> cbv
     · have p2 : (((h.todo.length : Nat) : Int) == 0) = true := p2;refine ⟨?_, trivial⟩;exact (hx.trans (if_pos ⟨p1, H7 p2⟩)).symm
     · have p2 : (((h.todo.length : Nat) : Int) == 0) = false := p2;refine ⟨?_, trivial⟩;exact (hx.trans (if_neg fun z => H8 p2 z.2)).symm
   · have p1 : ¬ h.aF[q.id.toNat] = -1 := by have p1 : ¬ h.aF[q.id.toNat] < 0 := p1; omega
     refine ⟨?_, trivial⟩;exact (hx.trans (if_neg fun z => p1 z.1)).symm
 have c7 : ¬ q.kind = 7 := by have c7 : (q.kind == 7) = false := c7; simpa using c7
 exfalso; omega
set_option maxHeartbeats 4000000 in
theorem jT (h : an) (q : bF) (hs : bh h) (x : Int) (hx : x = aY h q) : Spec Tryz.prog 71 [cw h, eA .cT q] (aE (iR fun _ => x)) := by
 have s2 := hs.2.1;have hc : h.cabins.length ≤ 1048576 := hs.2.2.1.1;refine ay au Tryz.func71 rfl rfl (fr := true) (fun _ => by kernel_rfl) fun P hP hA => ?_;cbv;refine ag.by hP (G9 h hs (dG h) rfl) ?_;cbv;refine Br.split (fun k0 => ?_) (fun k0 => ?_) <;> cbv
 · have k0 : (!dG h) = true := k0;refine ⟨?_, trivial⟩;exact (hx.trans (B_ (by simpa using k0))).symm
 have k0 : (!dG h) = false := k0;have k0 : dG h = true := by simpa using k0
 refine ag.by hP (cW q.kind 1 7) ?_;cbv;refine Br.split (fun k1 => ?_) (fun k1 => ?_) <;> cbv
 · have k1 : (!aq q.kind 1 7) = true := k1;refine ⟨?_, trivial⟩;exact (hx.trans (Ca k0 (by simpa using k1))).symm
 have k1 : (!aq q.kind 1 7) = false := k1;have k1 : aq q.kind 1 7 = true := by simpa using k1
 refine ag.by hP (Mr q (eZ q) rfl) ?_;cbv;refine Br.split (fun k2 => ?_) (fun k2 => ?_) <;> cbv
 · have k2 : (!eZ q) = true := k2;refine ⟨?_, trivial⟩;exact (hx.trans (Cb k0 k1 (by simpa using k2))).symm
 have k2 : (!eZ q) = false := k2;have k2 : eZ q = true := by simpa using k2
 have hg := gP.1 k0;have kr := bO k1;refine Br.split (fun c1 => ?_) (fun c1 => ?_) <;> cbv
 · have kk : q.kind = 1 := by have c1 : (q.kind == 1) = true := c1; simpa using c1
   have jr := B8 k2 kk;have hx := hx.trans (Cc k0 k2 kk);refine ag.by hP (nM q.ah (h.cabins.length : Int) (by omega) (by omega)) ?_;cbv;refine Br.split (fun j0 => ?_) (fun j0 => ?_) <;> cbv
   · have j0 : (!ia h q.ah) = true := j0;have j0 : ia h q.ah = false := by simpa using j0
     refine ⟨?_, trivial⟩;exact (hx.trans (if_pos j0)).symm
   have j0 : (!ia h q.ah) = false := j0;have j0 : ia h q.ah = true := by simpa using j0
   have lq := hx.trans (if_neg (by rw [j0]; simp));refine Ar.exact (by (try simp only [nc] at *); omega) (by (try simp only [nc] at *); omega) ?_;cbv;refine ag.by hP (cW q.ak (-1) ((h.cabins.length : Int) - 1)) ?_;cbv;refine Br.split (fun j1 => ?_) (fun j1 => ?_) <;> cbv
   · have j1 : (!aq q.ak (-1) ((h.cabins.length : Int) - 1)) = true := j1;refine ⟨?_, trivial⟩;exact (lq.trans (if_pos (by simpa using j1))).symm
   have j1 : (!aq q.ak (-1) ((h.cabins.length : Int) - 1)) = false := j1;have j1 : aq q.ak (-1) ((h.cabins.length : Int) - 1) = true := by simpa using j1
   have lq := lq.trans (if_neg (by rw [j1]; simp));refine Br.split (fun j2 => ?_) (fun j2 => ?_) <;> cbv
   · have j2 : (q.ak == q.ah) = true := j2;refine ⟨?_, trivial⟩;exact (lq.trans (if_pos (by simpa using j2))).symm
   have j2 : (q.ak == q.ah) = false := j2;have j2 : ¬ q.ak = q.ah := by simpa using j2
   refine ag.by hP (cW q.al 1 h.rules.size) ?_;cbv;refine Br.split (fun j3 => ?_) (fun j3 => ?_) <;> cbv
   · have j3 : (!aq q.al 1 h.rules.size) = true := j3;have j3 : aq q.al 1 h.rules.size = false := by simpa using j3
     refine ⟨?_, trivial⟩;exact (lq.trans ((if_neg j2).trans (if_pos j3))).symm
   have j3 : (!aq q.al 1 h.rules.size) = false := j3;have j3 : aq q.al 1 h.rules.size = true := by simpa using j3
   have hx := lq.trans ((if_neg j2).trans (if_neg (by rw [j3]; simp)));refine Br.dec (fun j4 => ?_) (fun j4 => ?_) <;> cbv
   · have j4 : q.aJ ≥ h.rules.cn := j4;refine ⟨?_, trivial⟩;exact (hx.trans (if_pos j4)).symm
   have j4 : ¬ q.aJ ≥ h.rules.cn := j4;have hx := hx.trans (if_neg j4);refine ag.by hP (cW q.id 1 999) ?_;cbv;refine Br.split (fun j5 => ?_) (fun j5 => ?_) <;> cbv
   · have j5 : (!aq q.id 1 999) = true := j5;have j5 : aq q.id 1 999 = false := by simpa using j5
     refine ⟨?_, trivial⟩;exact (hx.trans (if_pos j5)).symm
   have j5 : (!aq q.id 1 999) = false := j5;have j5 : aq q.id 1 999 = true := by simpa using j5
   have hx := hx.trans (if_neg (by rw [j5]; simp));refine ag.by hP (nN h q.id (bw h.ae q.id) rfl) ?_;cbv;refine Br.dec (fun j6 => ?_) (fun j6 => ?_) <;> cbv
   · have j6 : bw h.ae q.id ≥ 0 := j6;refine ⟨?_, trivial⟩;exact (hx.trans (if_pos j6)).symm
   have j6 : ¬ bw h.ae q.id ≥ 0 := j6;have hx := hx.trans (if_neg j6);refine ag.by hP (Bk h.ae q.ah s2) ?_;cbv;refine Br.dec (fun j7 => ?_) (fun j7 => ?_) <;> cbv
   · have j7 : je h q.ah ≥ h.rules.room := j7;refine ⟨?_, trivial⟩;exact (hx.trans (if_pos j7)).symm
   have j7 : ¬ je h q.ah ≥ h.rules.room := j7;have jv : (if je h q.ah ≥ h.rules.room then (9 : Int) else if q.ak ≠ -1 ∧ gd (aA h q.ak) < q.al then 10 else if h.aC > 1000000 then 11 else 0) = if q.ak ≠ -1 ∧ gd (aA h q.ak) < q.al then 10 else if h.aC > 1000000 then 11 else 0 := if_neg j7
   refine Br.split (fun j8 => ?_) (fun j8 => ?_) <;> cbv
   · have j8 : q.ak ≠ -1 := by have j8 : (q.ak != -1) = true := j8; simpa using j8
     refine ag.by hP (Hb h q.ak (H5 k0 j1 j8) (gd (aA h q.ak)) rfl) ?_;cbv;refine Br.dec (fun j9 => ?_) (fun j9 => ?_) <;> cbv
     · have j9 : gd (aA h q.ak) < q.al := j9;refine ⟨?_, trivial⟩;exact (hx.trans (jv.trans (if_pos ⟨j8, j9⟩))).symm
     have j9 : ¬ gd (aA h q.ak) < q.al := j9;refine Br.dec (fun eS => ?_) (fun eS => ?_) <;> cbv
     · have eS : h.aC > 1000000 := eS;refine ⟨?_, trivial⟩;exact (hx.trans (by rw [jv, if_neg fun z => j9 z.2, if_pos eS])).symm
     · have eS : ¬ h.aC > 1000000 := eS;refine ⟨?_, trivial⟩;exact (hx.trans (by rw [jv, if_neg fun z => j9 z.2, if_neg eS])).symm
   · have j8 : q.ak = -1 := by have j8 : (q.ak != -1) = false := j8; simpa using j8
     refine Br.dec (fun eS => ?_) (fun eS => ?_) <;> cbv
     · have eS : h.aC > 1000000 := eS;refine ⟨?_, trivial⟩;exact (hx.trans (by rw [jv, if_neg fun z => z.1 j8, if_pos eS])).symm
     · have eS : ¬ h.aC > 1000000 := eS;refine ⟨?_, trivial⟩;exact (hx.trans (by rw [jv, if_neg fun z => z.1 j8, if_neg eS])).symm
 have c1 : ¬ q.kind = 1 := by have c1 : (q.kind == 1) = false := c1; simpa using c1
 refine Br.split (fun c2 => ?_) (fun c2 => ?_) <;> cbv
 · have kk : q.kind = 2 := by have c2 : (q.kind == 2) = true := c2; simpa using c2
   have hx := hx.trans (Cd k0 k2 kk);refine ag.by hP (nN h q.id (bw h.ae q.id) rfl) ?_;cbv;refine Br.dec (fun a0 => ?_) (fun a0 => ?_) <;> cbv
   · have a0 : bw h.ae q.id < 0 := a0;refine ⟨?_, trivial⟩;exact (hx.trans (if_pos a0)).symm
   · have a0 : ¬ bw h.ae q.id < 0 := a0;refine ⟨?_, trivial⟩;exact (hx.trans (if_neg a0)).symm
 have c2 : ¬ q.kind = 2 := by have c2 : (q.kind == 2) = false := c2; simpa using c2
 refine Br.split (fun c3 => ?_) (fun c3 => ?_) <;> cbv
 · have kk : q.kind = 3 := by have c3 : (q.kind == 3) = true := c3; simpa using c3
   have hx := hx.trans (Ce k0 k2 kk);have fr := HZ k2 kk;refine ag.by hP (nM q.ah (h.cabins.length : Int) (by omega) (by omega)) ?_;cbv;refine Br.split (fun j0 => ?_) (fun j0 => ?_) <;> cbv
   · have j0 : (!ia h q.ah) = true := j0;have j0 : ia h q.ah = false := by simpa using j0
     refine ⟨?_, trivial⟩;exact (hx.trans (if_pos j0)).symm
   have j0 : (!ia h q.ah) = false := j0;have j0 : ia h q.ah = true := by simpa using j0
   have hx := hx.trans (if_neg (by rw [j0]; simp));refine ag.by hP (cW q.al 1 60) ?_;cbv;refine Br.split (fun f1 => ?_) (fun f1 => ?_) <;> cbv
   · have f1 : (!aq q.al 1 60) = true := f1;refine ⟨?_, trivial⟩;exact (hx.trans (if_pos (by simpa using f1))).symm
   have f1 : (!aq q.al 1 60) = false := f1;have hx := hx.trans (if_neg (by simpa using f1));refine ag.by hP (Hb h q.ah (H6 k0 j0) (gd (aA h q.ah)) rfl) ?_;cbv;refine Br.dec (fun f2 => ?_) (fun f2 => ?_) <;> cbv
   · have f2 : gd (aA h q.ah) < q.al := f2;refine ⟨?_, trivial⟩;exact (hx.trans (if_pos f2)).symm
   · have f2 : ¬ gd (aA h q.ah) < q.al := f2;refine ⟨?_, trivial⟩;exact (hx.trans (if_neg f2)).symm
 have c3 : ¬ q.kind = 3 := by have c3 : (q.kind == 3) = false := c3; simpa using c3
 refine Br.split (fun c4 => ?_) (fun c4 => ?_) <;> cbv
 · have kk : q.kind = 4 := by have c4 : (q.kind == 4) = true := c4; simpa using c4
   have hx := hx.trans (v_ k0 k2 (Or.inl kk));refine Br.split (fun d4 => ?_) (fun d4 => ?_) <;> cbv
   · refine ag.by hP (nN h q.id (bw h.ae q.id) rfl) ?_;cbv;refine Br.dec (fun a0 => ?_) (fun a0 => ?_) <;> cbv
     · have a0 : bw h.ae q.id < 0 := a0;refine ⟨?_, trivial⟩;exact (hx.trans (if_pos a0)).symm
     have a0 : ¬ bw h.ae q.id < 0 := a0;have hx := hx.trans (if_neg a0);obtain ⟨i, c, g⟩ := known hg (by omega : 0 ≤ bw h.ae q.id);have hi := g.lt;have og : 0 ≤ bw h.ae q.id := by omega
     have gg : h.ae[(bw h.ae q.id).toNat]? = some h.ae[i] := by rw [g.at_, Int.toNat_natCast]; exact List.getElem?_eq_getElem hi
     rw [g.aG] at hx;refine ⟨h.ae[i], og, gg, ?_⟩;cbv;refine Br.split (fun a1 => ?_) (fun a1 => ?_) <;> cbv
     · have a1 : (h.ae[i].st != 2) = true := a1;refine ⟨?_, trivial⟩;exact (hx.trans (if_pos (by simpa using a1))).symm
     have a1 : (h.ae[i].st != 2) = false := a1;have hx := hx.trans (if_neg (by simpa using a1));refine ⟨h.ae[i], og, gg, ?_⟩;cbv;refine ag.by hP (F_ h.ae[i] h.now) ?_;cbv;refine Br.split (fun a2 => ?_) (fun a2 => ?_) <;> cbv
     · have a2 : k_ h.ae[i] h.now = true := a2;refine ⟨?_, trivial⟩;exact (hx.trans (if_pos a2)).symm
     · have a2 : k_ h.ae[i] h.now = false := a2;refine ⟨?_, trivial⟩;exact (hx.trans (if_neg (by rw [a2]; simp))).symm
   · exfalso;have d4 : (q.kind == 4) = false := d4;rw [kk] at d4; cases d4
 have c4 : ¬ q.kind = 4 := by have c4 : (q.kind == 4) = false := c4; simpa using c4
 refine Br.split (fun c5 => ?_) (fun c5 => ?_) <;> cbv
 · have kk : q.kind = 5 := by have c5 : (q.kind == 5) = true := c5; simpa using c5
   have hx := hx.trans (v_ k0 k2 (Or.inr kk));refine ag.by hP (nN h q.id (bw h.ae q.id) rfl) ?_;cbv;refine Br.dec (fun a0 => ?_) (fun a0 => ?_) <;> cbv
   · have a0 : bw h.ae q.id < 0 := a0;refine ⟨?_, trivial⟩;exact (hx.trans (if_pos a0)).symm
   have a0 : ¬ bw h.ae q.id < 0 := a0;have hx := hx.trans (if_neg a0);obtain ⟨i, c, g⟩ := known hg (by omega : 0 ≤ bw h.ae q.id);have hi := g.lt;have og : 0 ≤ bw h.ae q.id := by omega
   have gg : h.ae[(bw h.ae q.id).toNat]? = some h.ae[i] := by rw [g.at_, Int.toNat_natCast]; exact List.getElem?_eq_getElem hi
   rw [g.aG] at hx;refine ⟨h.ae[i], og, gg, ?_⟩;cbv;refine Br.split (fun a1 => ?_) (fun a1 => ?_) <;> cbv
   · have a1 : (h.ae[i].st != 2) = true := a1;refine ⟨?_, trivial⟩;exact (hx.trans (if_pos (by simpa using a1))).symm
   have a1 : (h.ae[i].st != 2) = false := a1;have hx := hx.trans (if_neg (by simpa using a1));refine ⟨h.ae[i], og, gg, ?_⟩;cbv;refine ag.by hP (F_ h.ae[i] h.now) ?_;cbv;refine Br.split (fun a2 => ?_) (fun a2 => ?_) <;> cbv
   · have a2 : k_ h.ae[i] h.now = true := a2;refine ⟨?_, trivial⟩;exact (hx.trans (if_pos a2)).symm
   · have a2 : k_ h.ae[i] h.now = false := a2;refine ⟨?_, trivial⟩;exact (hx.trans (if_neg (by rw [a2]; simp))).symm
 have c5 : ¬ q.kind = 5 := by have c5 : (q.kind == 5) = false := c5; simpa using c5
 refine Br.split (fun c6 => ?_) (fun c6 => ?_) <;> cbv
 · have kk : q.kind = 6 := by have c6 : (q.kind == 6) = true := c6; simpa using c6
   have hx := hx.trans (H2 k0 k2 kk);have hn := bO hg.now;refine Br.split (fun t0 => ?_) (fun t0 => ?_) <;> cbv
   · have t0 : (h.now == 1000000) = true := t0;refine ⟨?_, trivial⟩;exact (hx.trans (if_pos (by simpa using t0))).symm
   · have t0 : (h.now == 1000000) = false := t0;refine ⟨?_, trivial⟩;exact (hx.trans (if_neg (by simpa using t0))).symm
 have c6 : ¬ q.kind = 6 := by have c6 : (q.kind == 6) = false := c6; simpa using c6
 refine Br.split (fun c7 => ?_) (fun c7 => ?_) <;> cbv
 · have kk : q.kind = 7 := by have c7 : (q.kind == 7) = true := c7; simpa using c7
   have hx := hx.trans (Cf k0 k2 kk);have pr := B9 k2 kk;refine Br.dec (fun p0 => ?_) (fun p0 => ?_) <;> cbv
   · have p0 : q.id ≥ h.rules.cC := p0;refine ⟨?_, trivial⟩;exact (hx.trans (if_pos p0)).symm
   have p0 : ¬ q.id ≥ h.rules.cC := p0;have hx := hx.trans (if_neg p0);have cr := hg.cC;have hj : q.id.toNat < h.aF.length := by omega
   have op : 0 ≤ q.id := pr.1;have gp : h.aF[q.id.toNat]? = some h.aF[q.id.toNat] := List.getElem?_eq_getElem hj;rw [gp] at hx;have hx : x = if h.aF[q.id.toNat] = -1 ∧ h.todo = [] then 17 else 0 := hx
   have jj := bO (hg.aF.aF _ (List.getElem_mem hj));refine ⟨h.aF[q.id.toNat], op, gp, ?_⟩;cbv;refine Br.split (fun p1 => ?_) (fun p1 => ?_) <;> cbv
   · have p1 : h.aF[q.id.toNat] = -1 := by have p1 : (h.aF[q.id.toNat] == -1) = true := p1; simpa using p1
     refine Br.split (fun p2 => ?_) (fun p2 => ?_) <;> cbv
     · have p2 : (((h.todo.length : Nat) : Int) == 0) = true := p2;refine ⟨?_, trivial⟩;exact (hx.trans (if_pos ⟨p1, H7 p2⟩)).symm
     · have p2 : (((h.todo.length : Nat) : Int) == 0) = false := p2;refine ⟨?_, trivial⟩;exact (hx.trans (if_neg fun z => H8 p2 z.2)).symm
   · have p1 : ¬ h.aF[q.id.toNat] = -1 := by have p1 : (h.aF[q.id.toNat] == -1) = false := p1; simpa using p1
     refine ⟨?_, trivial⟩;exact (hx.trans (if_neg fun z => p1 z.1)).symm
 have c7 : ¬ q.kind = 7 := by have c7 : (q.kind == 7) = false := c7; simpa using c7
 exfalso; omega
def dy (w : List (List aB)) (now : Int) : List aB := (bL w).filter fun p => decide (p.tm ≤ now)
def rU (c : bd) (now : Int) : List Int := (dy c.spoke now).map fun p => p.pid
def br (h : an) (k : Int) : List Int := if cL h k = true then rU (aA h k) h.now else []
theorem Cg (w : List (List aB)) : (bL w).length ≤ 10 := by
 rcases hb : bz w with _ | _
 · rw [BC hb]; simp
 · rw [BB hb, mz]; exact (yl hb).dq
theorem Ch (w : List (List aB)) (now : Int) : (dy w now).length ≤ 10 := Nat.le_trans (List.length_filter_le _ _) (Cg w)
theorem H_ {α : Type} {q : α → Bool} {l : List α} {i : Nat} (h : i < l.length) (hq : q l[i] = true) : (l.take i).filter q ++ [l[i]] = (l.take (i + 1)).filter q := by
 rw [List.take_add_one, List.getElem?_eq_getElem h, List.filter_append]; simp [hq]
theorem Ia {α : Type} {q : α → Bool} {l : List α} {i : Nat} (h : i < l.length) (hq : q l[i] = false) : (l.take i).filter q = (l.take (i + 1)).filter q := by
 rw [List.take_add_one, List.getElem?_eq_getElem h, List.filter_append]; simp [hq]
theorem qF {α : Type} {l : List α} {d : α} {i : Nat} (h : i < l.length) : l.getD ((i : Int)).toNat d = l[i] := by rw [Int.toNat_natCast, List.getD_eq_getElem?_getD, List.getElem?_eq_getElem h]; rfl
set_option maxHeartbeats 1000000 in
theorem Pu (w : List (List aB)) (hw : fa w) (now : Int) (x : List aB) (hx : x = dy w now) : Spec Tryz.prog 194 [iU w, iA now] (aE (lR .aI fun _ => x)) := by
 have dq := Cg w;refine ay au Tryz.func194 rfl rfl (fr := true) (fun _ => by kernel_rfl) fun P hP hA => ?_;cbv;refine ag.by hP (GY w hw (bL w) rfl) ?_;cbv;refine aU.by (X := Nat) (fun i => [(1, iA now), (5, oN 0), (6, oN 1), (7, nT fun _ => i)]) (fun i => [(0, aN .aI fun _ => ((bL w).take i).filter fun p => decide (p.tm ≤ now)), (1, aN .aI fun _ => bL w)]) (fun i => i ≤ (bL w).length) (fun i _ => (bL w).length - i) 0 (Nat.zero_le _) ?_ ?_
 · cbv
   repeat' first | exact trivial | refine ⟨rfl, ?_⟩ | fail
 · intro i hi;cbv;refine Br.dec (fun h2 => ?_) (fun h2 => ?_) <;> cbv
   rotate_left
   · have h2 : (bL w).length ≤ i := by simp at h2; omega
     refine ⟨?_, trivial⟩;show ((bL w).take i).filter (fun p => decide (p.tm ≤ now)) = x;rw [List.take_of_length_le h2, hx]; rfl
   have h2 : i < (bL w).length := by simpa using h2
   have gi : (bL w).getD ((i : Int)).toNat default = (bL w)[i] := qF h2;have oi : 0 ≤ (i : Int) ∧ (i : Int) < ((bL w).length : Int) := by omega
   have ob : (List.length (((bL w).take i).filter fun p => decide (p.tm ≤ now)) + 1) * 16 ≤ 140737488355328 := by
     have := List.length_filter_le (fun p : aB => decide (p.tm ≤ now)) ((bL w).take i);rw [List.length_take] at this;omega
   have yes : ((bL w).getD ((i : Int)).toNat default).tm ≤ now → (((bL w).take i).filter fun p => decide (p.tm ≤ now)) ++ [(bL w).getD ((i : Int)).toNat default] = ((bL w).take (i + 1)).filter fun p => decide (p.tm ≤ now) := fun q => by
     rw [gi] at q ⊢; exact H_ h2 (decide_eq_true q)
   have no : ¬ ((bL w).getD ((i : Int)).toNat default).tm ≤ now → (((bL w).take i).filter fun p => decide (p.tm ≤ now)) = ((bL w).take (i + 1)).filter fun p => decide (p.tm ≤ now) := fun q => by
     rw [gi] at q; exact Ia h2 (decide_eq_false q)
   refine ⟨oi, ?_⟩;cbv;refine Br.dec (fun h3 => ?_) (fun h3 => ?_) <;> cbv
   · refine ⟨oi, ?_⟩;cbv;refine ⟨ob, ?_⟩;cbv;refine Ar.exact (by (try simp only [nc] at *); omega) (by (try simp only [nc] at *); omega) ?_;cbv;refine aP.by (i + 1) ?_ ?_ ?_
     · show (bL w).length - (i + 1) < (bL w).length - i;omega
     · exact h2
     · cbv
       repeat' first | exact trivial | refine ⟨rfl, ?_⟩ | fail
       refine ⟨yes h3, ?_⟩
       repeat' first | exact trivial | refine ⟨rfl, ?_⟩ | fail
   · refine Ar.exact (by (try simp only [nc] at *); omega) (by (try simp only [nc] at *); omega) ?_;cbv;refine aP.by (i + 1) ?_ ?_ ?_
     · show (bL w).length - (i + 1) < (bL w).length - i;omega
     · exact h2
     · cbv
       repeat' first | exact trivial | refine ⟨rfl, ?_⟩ | fail
       refine ⟨no h3, ?_⟩
       repeat' first | exact trivial | refine ⟨rfl, ?_⟩ | fail
set_option maxHeartbeats 1000000 in
theorem Pv (h : an) (hs : bh h) (n : Nat) (hn : n < h.cabins.length) (x : List Int) (hx : x = rU h.cabins[n] h.now) : Spec Tryz.prog 124 [cw h, nT fun _ => n] (aE (lR .int fun _ => x)) := by
 refine ay au Tryz.func124 rfl rfl (fr := true) (fun _ => by kernel_rfl) fun P hP hA => ?_;cbv;refine ⟨h.cabins[n], by simp, get_cast h.cabins hn, ?_⟩;cbv;refine ag.by hP (Pu h.cabins[n].spoke (fa.ah hs.2.2.1 hn) h.now (dy h.cabins[n].spoke h.now) rfl) ?_;cbv;refine aU.by (X := Nat) (fun i => [(5, oN 0), (6, oN 1), (7, nT fun _ => i)]) (fun i => [(0, aN .int fun _ => ((dy h.cabins[n].spoke h.now).take i).map fun p => p.pid), (1, aN .aI fun _ => dy h.cabins[n].spoke h.now)]) (fun i => i ≤ (dy h.cabins[n].spoke h.now).length) (fun i _ => (dy h.cabins[n].spoke h.now).length - i) 0 (Nat.zero_le _) ?_ ?_
 · cbv
   repeat' first | exact trivial | refine ⟨rfl, ?_⟩ | fail
 · intro i hi;cbv;refine Br.dec (fun h2 => ?_) (fun h2 => ?_) <;> cbv
   rotate_left
   · have h2 : (dy h.cabins[n].spoke h.now).length ≤ i := by simp at h2; omega
     refine ⟨?_, trivial⟩;show ((dy h.cabins[n].spoke h.now).take i).map (fun p => p.pid) = x;rw [List.take_of_length_le h2, hx]; rfl
   have h2 : i < (dy h.cabins[n].spoke h.now).length := by simpa using h2
   have dq := Ch h.cabins[n].spoke h.now;have gi : (dy h.cabins[n].spoke h.now).getD ((i : Int)).toNat default = (dy h.cabins[n].spoke h.now)[i] := qF h2;have oi : 0 ≤ (i : Int) ∧ (i : Int) < ((dy h.cabins[n].spoke h.now).length : Int) := by omega
   have ob : (List.length (((dy h.cabins[n].spoke h.now).take i).map fun p => p.pid) + 1) * 8 ≤ 140737488355328 := by
     rw [List.length_map, List.length_take]; omega
   have st : (((dy h.cabins[n].spoke h.now).take i).map fun p => p.pid) ++ [((dy h.cabins[n].spoke h.now).getD ((i : Int)).toNat default).pid] = ((dy h.cabins[n].spoke h.now).take (i + 1)).map fun p => p.pid := by
     rw [gi, List.take_add_one, List.getElem?_eq_getElem h2, List.map_append]; rfl
   refine ⟨oi, ?_⟩;cbv;refine ⟨ob, ?_⟩;cbv;refine Ar.exact (by (try simp only [nc] at *); omega) (by (try simp only [nc] at *); omega) ?_;cbv;refine aP.by (i + 1) ?_ ?_ ?_
   · show (dy h.cabins[n].spoke h.now).length - (i + 1) < (dy h.cabins[n].spoke h.now).length - i;omega
   · exact h2
   · cbv
     repeat' first | exact trivial | refine ⟨rfl, ?_⟩ | fail
     refine ⟨st, ?_⟩
     repeat' first | exact trivial | refine ⟨rfl, ?_⟩ | fail
set_option maxHeartbeats 1000000 in
theorem Pw (w : List (List aB)) (hw : fa w) (now : Int) (x : List aB) (hx : x = dy w now) : Spec Tryz.prog 126 [iU w, iA now] (aE (lR .aI fun _ => x)) := by
 have dq := Cg w;refine ay au Tryz.func126 rfl rfl (fr := true) (fun _ => by kernel_rfl) fun P hP hA => ?_;cbv;refine ag.by hP (GZ w hw (bL w) rfl) ?_;cbv;refine aU.by (X := Nat) (fun i => [(1, iA now), (5, oN 0), (9, oN 1), (10, nT fun _ => (bL w).length), (11, nT fun _ => i)]) (fun i => [(0, aN .aI fun _ => ((bL w).take i).filter fun p => decide (p.tm ≤ now)), (1, aN .aI fun _ => bL w)]) (fun i => i ≤ (bL w).length) (fun i _ => (bL w).length - i) 0 (Nat.zero_le _) ?_ ?_
 · cbv
   repeat' first | exact trivial | refine ⟨rfl, ?_⟩ | fail
 · intro i hi;cbv;refine Br.dec (fun h2 => ?_) (fun h2 => ?_) <;> cbv
   rotate_left
   · have h2 : (bL w).length ≤ i := by simp at h2; omega
     refine ⟨?_, trivial⟩;show ((bL w).take i).filter (fun p => decide (p.tm ≤ now)) = x;rw [List.take_of_length_le h2, hx]; rfl
   have h2 : i < (bL w).length := by simpa using h2
   have gi : (bL w).getD ((i : Int)).toNat default = (bL w)[i] := qF h2;have oi : 0 ≤ (i : Int) ∧ (i : Int) < ((bL w).length : Int) := by omega
   have ob : (List.length (((bL w).take i).filter fun p => decide (p.tm ≤ now)) + 1) * 16 ≤ 140737488355328 := by
     have := List.length_filter_le (fun p : aB => decide (p.tm ≤ now)) ((bL w).take i);rw [List.length_take] at this;omega
   have yes : ((bL w).getD ((i : Int)).toNat default).tm ≤ now → (((bL w).take i).filter fun p => decide (p.tm ≤ now)) ++ [(bL w).getD ((i : Int)).toNat default] = ((bL w).take (i + 1)).filter fun p => decide (p.tm ≤ now) := fun q => by
     rw [gi] at q ⊢; exact H_ h2 (decide_eq_true q)
   have no : ¬ ((bL w).getD ((i : Int)).toNat default).tm ≤ now → (((bL w).take i).filter fun p => decide (p.tm ≤ now)) = ((bL w).take (i + 1)).filter fun p => decide (p.tm ≤ now) := fun q => by
     rw [gi] at q; exact Ia h2 (decide_eq_false q)
   refine ⟨oi, ?_⟩;cbv;refine Br.dec (fun h3 => ?_) (fun h3 => ?_) <;> cbv
   · refine ⟨ob, ?_⟩;cbv;refine Ar.exact (by (try simp only [nc] at *); omega) (by (try simp only [nc] at *); omega) ?_;cbv;refine aP.by (i + 1) ?_ ?_ ?_
     · show (bL w).length - (i + 1) < (bL w).length - i;omega
     · exact h2
     · cbv
       repeat' first | exact trivial | refine ⟨rfl, ?_⟩ | fail
       refine ⟨yes h3, ?_⟩
       repeat' first | exact trivial | refine ⟨rfl, ?_⟩ | fail
   · refine Ar.exact (by (try simp only [nc] at *); omega) (by (try simp only [nc] at *); omega) ?_;cbv;refine aP.by (i + 1) ?_ ?_ ?_
     · show (bL w).length - (i + 1) < (bL w).length - i;omega
     · exact h2
     · cbv
       repeat' first | exact trivial | refine ⟨rfl, ?_⟩ | fail
       refine ⟨no h3, ?_⟩
       repeat' first | exact trivial | refine ⟨rfl, ?_⟩ | fail
set_option maxHeartbeats 1000000 in
theorem Px (h : an) (k : Int) (hs : bh h) (x : List Int) (hx : x = br h k) : Spec Tryz.prog 68 [cw h, iA k] (aE (lR .int fun _ => x)) := by
 refine ay au Tryz.func68 rfl rfl (fr := true) (fun _ => by kernel_rfl) fun P hP hA => ?_;cbv;refine ag.by hP (Hd h k hs (cL h k) rfl) ?_;cbv;refine Br.split (fun kc => ?_) (fun kc => ?_) <;> cbv
 · have kc : (!cL h k) = true := kc;obtain rfl : x = [] := hx.trans (if_neg (by intro q; rw [q] at kc; cases kc))
   repeat' first | exact trivial | refine ⟨rfl, ?_⟩ | fail
 have kc : (!cL h k) = false := kc;have kc : cL h k = true := by simpa using kc
 have kk := Bool.and_eq_true_iff.1 kc;obtain ⟨n, hn, rfl, ec⟩ := yn kk.2;have hx := hx.trans ((if_pos kc).trans (by rw [ec]));refine ⟨h.cabins[n], by simp, get_cast h.cabins hn, ?_⟩;cbv;refine ag.by hP (Pw h.cabins[n].spoke (fa.ah hs.2.2.1 hn) h.now (dy h.cabins[n].spoke h.now) rfl) ?_;cbv;refine aU.by (X := Nat) (fun i => [(5, oN 0), (20, oN 1), (21, nT fun _ => (dy h.cabins[n].spoke h.now).length), (22, nT fun _ => i)]) (fun i => [(0, aN .int fun _ => ((dy h.cabins[n].spoke h.now).take i).map fun p => p.pid), (1, aN .aI fun _ => dy h.cabins[n].spoke h.now)]) (fun i => i ≤ (dy h.cabins[n].spoke h.now).length) (fun i _ => (dy h.cabins[n].spoke h.now).length - i) 0 (Nat.zero_le _) ?_ ?_
 · cbv
   repeat' first | exact trivial | refine ⟨rfl, ?_⟩ | fail
 · intro i hi;cbv;refine Br.dec (fun h2 => ?_) (fun h2 => ?_) <;> cbv
   rotate_left
   · have h2 : (dy h.cabins[n].spoke h.now).length ≤ i := by simp at h2; omega
     refine ⟨?_, trivial⟩;show ((dy h.cabins[n].spoke h.now).take i).map (fun p => p.pid) = x;rw [List.take_of_length_le h2, hx]; rfl
   have h2 : i < (dy h.cabins[n].spoke h.now).length := by simpa using h2
   have dq := Ch h.cabins[n].spoke h.now;have gi : (dy h.cabins[n].spoke h.now).getD ((i : Int)).toNat default = (dy h.cabins[n].spoke h.now)[i] := qF h2;have oi : 0 ≤ (i : Int) ∧ (i : Int) < ((dy h.cabins[n].spoke h.now).length : Int) := by omega
   have ob : (List.length (((dy h.cabins[n].spoke h.now).take i).map fun p => p.pid) + 1) * 8 ≤ 140737488355328 := by
     rw [List.length_map, List.length_take]; omega
   have st : (((dy h.cabins[n].spoke h.now).take i).map fun p => p.pid) ++ [((dy h.cabins[n].spoke h.now).getD ((i : Int)).toNat default).pid] = ((dy h.cabins[n].spoke h.now).take (i + 1)).map fun p => p.pid := by
     rw [gi, List.take_add_one, List.getElem?_eq_getElem h2, List.map_append]; rfl
   refine ⟨oi, ?_⟩;cbv;refine ⟨ob, ?_⟩;cbv;refine Ar.exact (by (try simp only [nc] at *); omega) (by (try simp only [nc] at *); omega) ?_;cbv;refine aP.by (i + 1) ?_ ?_ ?_
   · show (dy h.cabins[n].spoke h.now).length - (i + 1) < (dy h.cabins[n].spoke h.now).length - i;omega
   · exact h2
   · cbv
     repeat' first | exact trivial | refine ⟨rfl, ?_⟩ | fail
     refine ⟨st, ?_⟩
     repeat' first | exact trivial | refine ⟨rfl, ?_⟩ | fail
theorem Ci {h : an} (hg : HG h) {k : Nat} (hk : k < h.cabins.length) (now : Int) : (fe h.rules (k : Int) now h.ae).length ≤ 10 := by
 have h1 := (hg.at_ hk).dq;have h2 := (fo hg.rules).room;exact BJ (by omega)
theorem mh {a : an} (hs : bh a) : gN a ≤ 4600000000000000000 := by
 obtain ⟨h1, h2, ⟨h3, Py⟩, h4, h5⟩ := hs;have e1 : a.rules.aj.length ≤ 1048576 := h1;have e4 : a.todo.length ≤ 1048576 := h4;have e5 : a.aF.length ≤ 1048576 := h5;have e2 := o6 az 10 1048576 a.ae (fun _ _ => Nat.le_refl 10) h2
 have e3 := o6 aK (5 + 1048576 * 4 + 1048576 * (1048576 * 2)) 1048576 a.cabins (fun c hc => by
  obtain ⟨q1, q2, q3⟩ := Py c hc;have f1 := o6 aW 4 1048576 c.row (fun _ _ => Nat.le_refl 4) q1;have f2 := o6 cj (1048576 * 2) 1048576 c.spoke (fun x hx => o6 bH 2 1048576 x (fun _ _ => Nat.le_refl 2) (q3 x hx)) q2;show 5 + af aW c.row + af cj c.spoke ≤ _;omega) h3
 show a.rules.aj.length + af az a.ae + af aK a.cabins + a.todo.length + a.aF.length ≤ _;omega
end Go.Proofs.YticeaiiffeccmaaGreat

