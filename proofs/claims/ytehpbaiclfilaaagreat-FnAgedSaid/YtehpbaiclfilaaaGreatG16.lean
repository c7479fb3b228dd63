/- Parts of a proof. No conditions. -/

import Derived.Test.YtehpbaiclfilaaaGreatG14
import Derived.Test.YtehpbaiclfilaaaGreatG05
import Derived.Test.YtehpbaiclfilaaaGreatG15
import Derived.Test.YtehpbaiclfilaaaGreatG07
set_option linter.unusedSimpArgs false
set_option linter.unusedVariables false
namespace Go.Proofs.YtehpbaiclfilaaaGreat
open Go
set_option maxRecDepth 100000
def ja (h : ai) (k : Int) : Int := ((aV (bx k) h.ae : Nat) : Int)
def jt (h : ai) (k : Int) : Bool := aj k 0 ((h.cabins.length : Int) - 1)
def xV (h : ai) (q : dL) : Int :=
 if jt h q.cf = false then 4 else if aj q.al (-1) ((h.cabins.length : Int) - 1) = false then 4 else if q.al = q.cf then 4
 else if aj q.siz 1 h.rules.size = false then 5
 else if q.aK ≥ h.rules.cm then 6
 else if aj q.id 1 999 = false then 7
 else if aP h.ae q.id ≥ 0 then 8
 else if ja h q.cf ≥ h.rules.room then 9
 else if q.al ≠ -1 ∧ fS (aC h q.al) < q.siz then 10
 else if h.aw > 1000000 then 11 else 0
def Ex (h : ai) (q : dL) : Int :=
 if jt h q.cf = false then 4 else if aj q.siz 1 60 = false then 5 else if fS (aC h q.cf) < q.siz then 12 else 0
def tQ (h : ai) (id : Int) : Int :=
 if aP h.ae id < 0 then 7 else if (ca h id).st ≠ 2 then 13 else if eT (ca h id) h.now = true then 14 else 0
def Ey (h : ai) (KA : Int) : Int :=
 if KA ≥ h.rules.bP then 16 else if ((h.aN[KA.toNat]?).getD 0) = -1 ∧ h.todo = [] then 17 else 0
def bM (h : ai) (q : dL) : Int :=
 if aW h = false then 1 else if aj q.kind 1 7 = false then 2 else if dN q = false then 3
 else if q.kind = 1 then xV h q
 else if q.kind = 2 then (if aP h.ae q.id < 0 then 7 else 0)
 else if q.kind = 3 then Ex h q
 else if q.kind = 4 ∨ q.kind = 5 then tQ h q.id
 else if q.kind = 6 then (if h.now = 1000000 then 15 else 0)
 else Ey h q.id
theorem tR {n : Int} (h : field n = true) : 0 ≤ n ∧ n ≤ 9999 := by simpa [field] using h
structure KB (q : dL) : Prop where
 id : 0 ≤ q.id ∧ q.id ≤ 9999
 cf : 0 ≤ q.cf ∧ q.cf ≤ 9999
 al : -1 ≤ q.al ∧ q.al ≤ 9999
 siz : 0 ≤ q.siz ∧ q.siz ≤ 9999
 aK : 0 ≤ q.aK ∧ q.aK ≤ 9999
theorem Ez {q : dL} (h : dN q = true) (hk : q.kind = 1) : KB q := by
 rw [dN, if_pos hk] at h;simp only [Bool.and_eq_true, decide_eq_true_eq] at h;exact ⟨tR h.1.1.1.1, tR h.1.1.1.2, h.1.1.2, tR h.1.2, tR h.2⟩
theorem KD {q : dL} (h : dN q = true) (hk : q.kind = 3) : (0 ≤ q.cf ∧ q.cf ≤ 9999) ∧ 0 ≤ q.siz ∧ q.siz ≤ 9999 := by
 rw [dN, if_neg (by omega), if_neg (by omega), if_pos hk] at h;simp only [Bool.and_eq_true] at h;exact ⟨tR h.1.1, tR h.1.2⟩
theorem KE {q : dL} (h : dN q = true) (hk : q.kind = 7) : 0 ≤ q.id ∧ q.id ≤ 9999 := by
 rw [dN, if_neg (by omega), if_pos (by omega)] at h;simp only [Bool.and_eq_true] at h;exact tR h.1
theorem Au {h : ai} {q : dL} (h0 : aW h = false) : bM h q = 1 := if_pos h0
theorem Av {h : ai} {q : dL} (h0 : aW h = true) (h1 : aj q.kind 1 7 = false) : bM h q = 2 := by simp [bM, h0, h1]
theorem Aw {h : ai} {q : dL} (h0 : aW h = true) (h1 : aj q.kind 1 7 = true) (h2 : dN q = false) : bM h q = 3 := by simp [bM, h0, h1, h2]
theorem EA {h : ai} {q : dL} (h0 : aW h = true) (h2 : dN q = true) (k : q.kind = 1) : bM h q = xV h q := by simp [bM, h0, h2, k, aj]
theorem Ax {h : ai} {q : dL} (h0 : aW h = true) (h2 : dN q = true) (k : q.kind = 2) : bM h q = if aP h.ae q.id < 0 then 7 else 0 := by simp [bM, h0, h2, k, aj]
theorem KF {h : ai} {q : dL} (h0 : aW h = true) (h2 : dN q = true) (k : q.kind = 3) : bM h q = Ex h q := by simp [bM, h0, h2, k, aj]
theorem tS {h : ai} {q : dL} (h0 : aW h = true) (h2 : dN q = true) (k : q.kind = 4 ∨ q.kind = 5) : bM h q = tQ h q.id := by
 rcases k with k | k <;> simp [bM, h0, h2, k, aj]
theorem Ay {h : ai} {q : dL} (h0 : aW h = true) (h2 : dN q = true) (k : q.kind = 6) : bM h q = if h.now = 1000000 then 15 else 0 := by simp [bM, h0, h2, k, aj]
theorem KG {h : ai} {q : dL} (h0 : aW h = true) (h2 : dN q = true) (k : q.kind = 7) : bM h q = Ey h q.id := by simp [bM, h0, h2, k, aj]
theorem KH {h : ai} {k : Int} (q : (h.cabins.length : Int) ≤ k) : jt h k = false := by simp [jt, aj]; omega
theorem KI {h : ai} {k : Int} (q0 : 0 ≤ k) (q : k < (h.cabins.length : Int)) : jt h k = true := by simp [jt, aj]; omega
theorem Su {h : ai} {k : Int} (q : (h.cabins.length : Int) ≤ k) : aj k (-1) ((h.cabins.length : Int) - 1) = false := by simp [aj]; omega
theorem Sw {h : ai} {k : Int} (q0 : -1 ≤ k) (q : k < (h.cabins.length : Int)) : aj k (-1) ((h.cabins.length : Int) - 1) = true := by simp [aj]; omega
theorem KJ {h : ai} {k : Int} (k0 : aW h = true) (q : aj k (-1) ((h.cabins.length : Int) - 1) = true) (n : k ≠ -1) : cC h k = true := by
 have q := bB q;rw [cC, k0]; simp [aj]; omega
theorem KK {h : ai} {k : Int} (k0 : aW h = true) (q : jt h k = true) : cC h k = true := by rw [cC, k0]; exact q
theorem KL {l : List Int} (h : (((l.length : Nat) : Int) == 0) = true) : l = [] := by
 cases l with
 | nil => rfl
 | cons a l => simp at h; omega
theorem KM {l : List Int} (h : (((l.length : Nat) : Int) == 0) = false) : ¬ l = [] := by
 intro e; subst e; simp at h
set_option maxHeartbeats 4000000 in
theorem Sx (h : ai) (q : dL) (hs : bh h) (k0 : aW h = true) (jr : KB q) (x : Int) (hx : x = xV h q) : Spec Tryz.prog 84 [dk h, eA .h_ q] (aE (iR fun _ => x)) := by
 have s2 := hs.2.1;have hc : h.cabins.length ≤ 1048576 := hs.2.2.1.1;refine aH ay Tryz.func84 rfl rfl (fr := true) (fun _ => by kernel_rfl) fun P hP hA => ?_;cbv;refine Br.dec (fun j0 => ?_) (fun j0 => ?_) <;> cbv
 · have j0 : q.cf ≥ (h.cabins.length : Int) := j0;refine ⟨?_, trivial⟩;exact (hx.trans (if_pos (KH j0))).symm
 have j0 : ¬ q.cf ≥ (h.cabins.length : Int) := j0;have j0 : jt h q.cf = true := KI jr.cf.1 (by omega);have jb := hx.trans (if_neg (by rw [j0]; simp));refine Br.dec (fun j1 => ?_) (fun j1 => ?_) <;> cbv
 · have j1 : q.al ≥ (h.cabins.length : Int) := j1;refine ⟨?_, trivial⟩;exact (jb.trans (if_pos (Su j1))).symm
 have j1 : ¬ q.al ≥ (h.cabins.length : Int) := j1;have j1 : aj q.al (-1) ((h.cabins.length : Int) - 1) = true := Sw jr.al.1 (by omega);have jb := jb.trans (if_neg (by rw [j1]; simp));refine Br.split (fun j2 => ?_) (fun j2 => ?_) <;> cbv
 · have j2 : (q.al == q.cf) = true := j2;refine ⟨?_, trivial⟩;exact (jb.trans (if_pos (by simpa using j2))).symm
 have j2 : (q.al == q.cf) = false := j2;have j2 : ¬ q.al = q.cf := by simpa using j2
 refine ag.by hP (da q.siz 1 h.rules.size) ?_;cbv;refine Br.split (fun j3 => ?_) (fun j3 => ?_) <;> cbv
 · have j3 : (!aj q.siz 1 h.rules.size) = true := j3;have j3 : aj q.siz 1 h.rules.size = false := by simpa using j3
   refine ⟨?_, trivial⟩;exact (jb.trans ((if_neg j2).trans (if_pos j3))).symm
 have j3 : (!aj q.siz 1 h.rules.size) = false := j3;have j3 : aj q.siz 1 h.rules.size = true := by simpa using j3
 have hx := jb.trans ((if_neg j2).trans (if_neg (by rw [j3]; simp)));refine Br.dec (fun j4 => ?_) (fun j4 => ?_) <;> cbv
 · have j4 : q.aK ≥ h.rules.cm := j4;refine ⟨?_, trivial⟩;exact (hx.trans (if_pos j4)).symm
 have j4 : ¬ q.aK ≥ h.rules.cm := j4;have hx := hx.trans (if_neg j4);refine ag.by hP (da q.id 1 999) ?_;cbv;refine Br.split (fun j5 => ?_) (fun j5 => ?_) <;> cbv
 · have j5 : (!aj q.id 1 999) = true := j5;have j5 : aj q.id 1 999 = false := by simpa using j5
   refine ⟨?_, trivial⟩;exact (hx.trans (if_pos j5)).symm
 have j5 : (!aj q.id 1 999) = false := j5;have j5 : aj q.id 1 999 = true := by simpa using j5
 have hx := hx.trans (if_neg (by rw [j5]; simp));refine ag.by hP (oP h q.id (aP h.ae q.id) rfl) ?_;cbv;refine Br.dec (fun j6 => ?_) (fun j6 => ?_) <;> cbv
 · have j6 : aP h.ae q.id ≥ 0 := j6;refine ⟨?_, trivial⟩;exact (hx.trans (if_pos j6)).symm
 have j6 : ¬ aP h.ae q.id ≥ 0 := j6;have hx := hx.trans (if_neg j6);refine ag.by hP (xu h.ae q.cf s2) ?_;cbv;refine Br.dec (fun j7 => ?_) (fun j7 => ?_) <;> cbv
 · have j7 : ja h q.cf ≥ h.rules.room := j7;refine ⟨?_, trivial⟩;exact (hx.trans (if_pos j7)).symm
 have j7 : ¬ ja h q.cf ≥ h.rules.room := j7;have jv : (if ja h q.cf ≥ h.rules.room then (9 : Int) else if q.al ≠ -1 ∧ fS (aC h q.al) < q.siz then 10 else if h.aw > 1000000 then 11 else 0) = if q.al ≠ -1 ∧ fS (aC h q.al) < q.siz then 10 else if h.aw > 1000000 then 11 else 0 := if_neg j7
 refine Br.dec (fun j8 => ?_) (fun j8 => ?_) <;> cbv
 · have j8 : q.al ≠ -1 := by have j8 : q.al ≥ 0 := j8; omega
   refine ag.by hP (D8 h q.al (KJ k0 j1 j8) (fS (aC h q.al)) rfl) ?_;cbv;refine Br.dec (fun j9 => ?_) (fun j9 => ?_) <;> cbv
   · have j9 : fS (aC h q.al) < q.siz := j9;refine ⟨?_, trivial⟩;exact (hx.trans (jv.trans (if_pos ⟨j8, j9⟩))).symm
   have j9 : ¬ fS (aC h q.al) < q.siz := j9;refine Br.dec (fun fp => ?_) (fun fp => ?_) <;> cbv
   · have fp : h.aw > 1000000 := fp;refine ⟨?_, trivial⟩;exact (hx.trans (by rw [jv, if_neg fun z => j9 z.2, if_pos fp])).symm
   · have fp : ¬ h.aw > 1000000 := fp;refine ⟨?_, trivial⟩;exact (hx.trans (by rw [jv, if_neg fun z => j9 z.2, if_neg fp])).symm
 · have j8 : q.al = -1 := by have j8 : ¬ q.al ≥ 0 := j8; have := jr.al; omega
   refine Br.dec (fun fp => ?_) (fun fp => ?_) <;> cbv
   · have fp : h.aw > 1000000 := fp;refine ⟨?_, trivial⟩;exact (hx.trans (by rw [jv, if_neg fun z => z.1 j8, if_pos fp])).symm
   · have fp : ¬ h.aw > 1000000 := fp;refine ⟨?_, trivial⟩;exact (hx.trans (by rw [jv, if_neg fun z => z.1 j8, if_neg fp])).symm
set_option maxHeartbeats 4000000 in
theorem KN (h : ai) (id : Int) (hs : bh h) (k0 : aW h = true) (x : Int) (hx : x = tQ h id) : Spec Tryz.prog 86 [dk h, iA id] (aE (iR fun _ => x)) := by
 have s2 := hs.2.1;have hc : h.cabins.length ≤ 1048576 := hs.2.2.1.1;have hg := cI.1 k0;refine aH ay Tryz.func86 rfl rfl (fr := true) (fun _ => by kernel_rfl) fun P hP hA => ?_;cbv;refine ag.by hP (oP h id (aP h.ae id) rfl) ?_;cbv;refine Br.dec (fun a0 => ?_) (fun a0 => ?_) <;> cbv
 · have a0 : aP h.ae id < 0 := a0;refine ⟨?_, trivial⟩;exact (hx.trans (if_pos a0)).symm
 have a0 : ¬ aP h.ae id < 0 := a0;have hx := hx.trans (if_neg a0);obtain ⟨i, c, g⟩ := known hg (by omega : 0 ≤ aP h.ae id);have hi := g.lt;have og : 0 ≤ aP h.ae id := by omega
 have gg : h.ae[(aP h.ae id).toNat]? = some h.ae[i] := by rw [g.at_, Int.toNat_natCast]; exact List.getElem?_eq_getElem hi
 rw [g.az] at hx;refine ⟨h.ae[i], og, gg, ?_⟩;cbv;refine Br.split (fun a1 => ?_) (fun a1 => ?_) <;> cbv
 · have a1 : (h.ae[i].st != 2) = true := a1;refine ⟨?_, trivial⟩;exact (hx.trans (if_pos (by simpa using a1))).symm
 have a1 : (h.ae[i].st != 2) = false := a1;have hx := hx.trans (if_neg (by simpa using a1));refine ⟨h.ae[i], og, gg, ?_⟩;cbv;refine ag.by hP (IG h.ae[i] h.now) ?_;cbv;refine Br.split (fun a2 => ?_) (fun a2 => ?_) <;> cbv
 · have a2 : eT h.ae[i] h.now = true := a2;refine ⟨?_, trivial⟩;exact (hx.trans (if_pos a2)).symm
 · have a2 : eT h.ae[i] h.now = false := a2;refine ⟨?_, trivial⟩;exact (hx.trans (if_neg (by rw [a2]; simp))).symm
set_option maxHeartbeats 4000000 in
theorem vK (h : ai) (q : dL) (hs : bh h) (x : Int) (hx : x = bM h q) : Spec Tryz.prog 27 [dk h, eA .h_ q] (aE (iR fun _ => x)) := by
 have s2 := hs.2.1;have hc : h.cabins.length ≤ 1048576 := hs.2.2.1.1;refine aH ay Tryz.func27 rfl rfl (fr := true) (fun _ => by kernel_rfl) fun P hP hA => ?_;cbv;refine ag.by hP (f_ h hs (aW h) rfl) ?_;cbv;refine Br.split (fun k0 => ?_) (fun k0 => ?_) <;> cbv
 · have k0 : (!aW h) = true := k0;refine ⟨?_, trivial⟩;exact (hx.trans (Au (by simpa using k0))).symm
 have k0 : (!aW h) = false := k0;have k0 : aW h = true := by simpa using k0
 refine ag.by hP (da q.kind 1 7) ?_;cbv;refine Br.split (fun k1 => ?_) (fun k1 => ?_) <;> cbv
 · have k1 : (!aj q.kind 1 7) = true := k1;refine ⟨?_, trivial⟩;exact (hx.trans (Av k0 (by simpa using k1))).symm
 have k1 : (!aj q.kind 1 7) = false := k1;have k1 : aj q.kind 1 7 = true := by simpa using k1
 refine ag.by hP (Iv q (dN q) rfl) ?_;cbv;refine Br.split (fun k2 => ?_) (fun k2 => ?_) <;> cbv
 · have k2 : (!dN q) = true := k2;refine ⟨?_, trivial⟩;exact (hx.trans (Aw k0 k1 (by simpa using k2))).symm
 have k2 : (!dN q) = false := k2;have k2 : dN q = true := by simpa using k2
 have hg := cI.1 k0;have kr := bB k1;refine Br.split (fun c1 => ?_) (fun c1 => ?_) <;> cbv
 · have kk : q.kind = 1 := by have c1 : (q.kind == 1) = true := c1; simpa using c1
   have jr := Ez k2 kk;have hx := hx.trans (EA k0 k2 kk);refine ag.by hP (Sx h q hs k0 jr x hx) ?_;cbv
   repeat' first | exact trivial | refine ⟨rfl, ?_⟩ | fail
 have c1 : ¬ q.kind = 1 := by have c1 : (q.kind == 1) = false := c1; simpa using c1
 refine Br.split (fun c2 => ?_) (fun c2 => ?_) <;> cbv
 · have kk : q.kind = 2 := by have c2 : (q.kind == 2) = true := c2; simpa using c2
   have hx := hx.trans (Ax k0 k2 kk);refine ag.by hP (oP h q.id (aP h.ae q.id) rfl) ?_;cbv;refine Br.dec (fun a0 => ?_) (fun a0 => ?_) <;> cbv
   · have a0 : aP h.ae q.id < 0 := a0;refine ⟨?_, trivial⟩;exact (hx.trans (if_pos a0)).symm
   · have a0 : ¬ aP h.ae q.id < 0 := a0;refine ⟨?_, trivial⟩;exact (hx.trans (if_neg a0)).symm
 have c2 : ¬ q.kind = 2 := by have c2 : (q.kind == 2) = false := c2; simpa using c2
 refine Br.split (fun c3 => ?_) (fun c3 => ?_) <;> cbv
 · have kk : q.kind = 3 := by have c3 : (q.kind == 3) = true := c3; simpa using c3
   have hx := hx.trans (KF k0 k2 kk);have fr := KD k2 kk;refine Br.dec (fun j0 => ?_) (fun j0 => ?_) <;> cbv
   · have j0 : q.cf ≥ (h.cabins.length : Int) := j0;refine ⟨?_, trivial⟩;exact (hx.trans (if_pos (KH j0))).symm
   have j0 : ¬ q.cf ≥ (h.cabins.length : Int) := j0;have j0 : jt h q.cf = true := KI fr.1.1 (by omega);have hx := hx.trans (if_neg (by rw [j0]; simp));refine ag.by hP (da q.siz 1 60) ?_;cbv;refine Br.split (fun f1 => ?_) (fun f1 => ?_) <;> cbv
   · have f1 : (!aj q.siz 1 60) = true := f1;refine ⟨?_, trivial⟩;exact (hx.trans (if_pos (by simpa using f1))).symm
   have f1 : (!aj q.siz 1 60) = false := f1;have hx := hx.trans (if_neg (by simpa using f1));refine ag.by hP (D8 h q.cf (KK k0 j0) (fS (aC h q.cf)) rfl) ?_;cbv;refine Br.dec (fun f2 => ?_) (fun f2 => ?_) <;> cbv
   · have f2 : fS (aC h q.cf) < q.siz := f2;refine ⟨?_, trivial⟩;exact (hx.trans (if_pos f2)).symm
   · have f2 : ¬ fS (aC h q.cf) < q.siz := f2;refine ⟨?_, trivial⟩;exact (hx.trans (if_neg f2)).symm
 have c3 : ¬ q.kind = 3 := by have c3 : (q.kind == 3) = false := c3; simpa using c3
 refine Br.split (fun c4 => ?_) (fun c4 => ?_) <;> cbv
 · have kk : q.kind = 4 := by have c4 : (q.kind == 4) = true := c4; simpa using c4
   have hx := hx.trans (tS k0 k2 (Or.inl kk));refine Br.split (fun d4 => ?_) (fun d4 => ?_) <;> cbv
   · refine ag.by hP (KN h q.id hs k0 x hx) ?_;cbv
     repeat' first | exact trivial | refine ⟨rfl, ?_⟩ | fail
   · exfalso;have d4 : (q.kind == 4) = false := d4;rw [kk] at d4; cases d4
 have c4 : ¬ q.kind = 4 := by have c4 : (q.kind == 4) = false := c4; simpa using c4
 refine Br.split (fun c5 => ?_) (fun c5 => ?_) <;> cbv
 · have kk : q.kind = 5 := by have c5 : (q.kind == 5) = true := c5; simpa using c5
   have hx := hx.trans (tS k0 k2 (Or.inr kk));refine ag.by hP (KN h q.id hs k0 x hx) ?_;cbv
   repeat' first | exact trivial | refine ⟨rfl, ?_⟩ | fail
 have c5 : ¬ q.kind = 5 := by have c5 : (q.kind == 5) = false := c5; simpa using c5
 refine Br.split (fun c6 => ?_) (fun c6 => ?_) <;> cbv
 · have kk : q.kind = 6 := by have c6 : (q.kind == 6) = true := c6; simpa using c6
   have hx := hx.trans (Ay k0 k2 kk);have hn := bB hg.now;refine Br.dec (fun t0 => ?_) (fun t0 => ?_) <;> cbv
   · have t0 : h.now ≥ 1000000 := t0;refine ⟨?_, trivial⟩;exact (hx.trans (if_pos (by omega))).symm
   · have t0 : ¬ h.now ≥ 1000000 := t0;refine ⟨?_, trivial⟩;exact (hx.trans (if_neg (by omega))).symm
 have c6 : ¬ q.kind = 6 := by have c6 : (q.kind == 6) = false := c6; simpa using c6
 refine Br.split (fun c7 => ?_) (fun c7 => ?_) <;> cbv
 · have kk : q.kind = 7 := by have c7 : (q.kind == 7) = true := c7; simpa using c7
   have hx := hx.trans (KG k0 k2 kk);have pr := KE k2 kk;refine Br.dec (fun p0 => ?_) (fun p0 => ?_) <;> cbv
   · have p0 : q.id ≥ h.rules.bP := p0;refine ⟨?_, trivial⟩;exact (hx.trans (if_pos p0)).symm
   have p0 : ¬ q.id ≥ h.rules.bP := p0;have hx := hx.trans (if_neg p0);have cr := hg.bP;have hj : q.id.toNat < h.aN.length := by omega
   have op : 0 ≤ q.id := pr.1;have gp : h.aN[q.id.toNat]? = some h.aN[q.id.toNat] := List.getElem?_eq_getElem hj;rw [gp] at hx;have hx : x = if h.aN[q.id.toNat] = -1 ∧ h.todo = [] then 17 else 0 := hx
   have jj := bB (hg.aN.aN _ (List.getElem_mem hj));refine ⟨h.aN[q.id.toNat], op, gp, ?_⟩;cbv;refine Br.dec (fun p1 => ?_) (fun p1 => ?_) <;> cbv
   · have p1 : h.aN[q.id.toNat] = -1 := by have p1 : h.aN[q.id.toNat] < 0 := p1; omega
     refine Br.split (fun p2 => ?_) (fun p2 => ?_) <;> cbv
     · have p2 : (((h.todo.length : Nat) : Int) == 0) = true := p2;refine ⟨?_, trivial⟩;exact (hx.trans (if_pos ⟨p1, KL p2⟩)).symm
     · have p2 : (((h.todo.length : Nat) : Int) == 0) = false := p2;refine ⟨?_, trivial⟩;exact (hx.trans (if_neg fun z => KM p2 z.2)).symm
   · have p1 : ¬ h.aN[q.id.toNat] = -1 := by have p1 : ¬ h.aN[q.id.toNat] < 0 := p1; omega
     refine ⟨?_, trivial⟩;exact (hx.trans (if_neg fun z => p1 z.1)).symm
 have c7 : ¬ q.kind = 7 := by have c7 : (q.kind == 7) = false := c7; simpa using c7
 exfalso; omega
set_option maxHeartbeats 4000000 in
theorem oZ (h : ai) (q : dL) (hs : bh h) (x : Int) (hx : x = bM h q) : Spec Tryz.prog 21 [dk h, eA .h_ q] (aE (iR fun _ => x)) := by
 have s2 := hs.2.1;have hc : h.cabins.length ≤ 1048576 := hs.2.2.1.1;refine aH ay Tryz.func21 rfl rfl (fr := true) (fun _ => by kernel_rfl) fun P hP hA => ?_;cbv;refine ag.by hP (r_ h hs (aW h) rfl) ?_;cbv;refine Br.split (fun k0 => ?_) (fun k0 => ?_) <;> cbv
 · have k0 : (!aW h) = true := k0;refine ⟨?_, trivial⟩;exact (hx.trans (Au (by simpa using k0))).symm
 have k0 : (!aW h) = false := k0;have k0 : aW h = true := by simpa using k0
 refine ag.by hP (cV q.kind 1 7) ?_;cbv;refine Br.split (fun k1 => ?_) (fun k1 => ?_) <;> cbv
 · have k1 : (!aj q.kind 1 7) = true := k1;refine ⟨?_, trivial⟩;exact (hx.trans (Av k0 (by simpa using k1))).symm
 have k1 : (!aj q.kind 1 7) = false := k1;have k1 : aj q.kind 1 7 = true := by simpa using k1
 refine ag.by hP (Dn q (dN q) rfl) ?_;cbv;refine Br.split (fun k2 => ?_) (fun k2 => ?_) <;> cbv
 · have k2 : (!dN q) = true := k2;refine ⟨?_, trivial⟩;exact (hx.trans (Aw k0 k1 (by simpa using k2))).symm
 have k2 : (!dN q) = false := k2;have k2 : dN q = true := by simpa using k2
 have hg := cI.1 k0;have kr := bB k1;refine Br.split (fun c1 => ?_) (fun c1 => ?_) <;> cbv
 · have kk : q.kind = 1 := by have c1 : (q.kind == 1) = true := c1; simpa using c1
   have jr := Ez k2 kk;have hx := hx.trans (EA k0 k2 kk);refine ag.by hP (nk q.cf (h.cabins.length : Int) (by omega) (by omega)) ?_;cbv;refine Br.split (fun j0 => ?_) (fun j0 => ?_) <;> cbv
   · have j0 : (!jt h q.cf) = true := j0;have j0 : jt h q.cf = false := by simpa using j0
     refine ⟨?_, trivial⟩;exact (hx.trans (if_pos j0)).symm
   have j0 : (!jt h q.cf) = false := j0;have j0 : jt h q.cf = true := by simpa using j0
   have jb := hx.trans (if_neg (by rw [j0]; simp));refine Ar.exact (by (try simp only [nc] at *); omega) (by (try simp only [nc] at *); omega) ?_;cbv;refine ag.by hP (cV q.al (-1) ((h.cabins.length : Int) - 1)) ?_;cbv;refine Br.split (fun j1 => ?_) (fun j1 => ?_) <;> cbv
   · have j1 : (!aj q.al (-1) ((h.cabins.length : Int) - 1)) = true := j1;refine ⟨?_, trivial⟩;exact (jb.trans (if_pos (by simpa using j1))).symm
   have j1 : (!aj q.al (-1) ((h.cabins.length : Int) - 1)) = false := j1;have j1 : aj q.al (-1) ((h.cabins.length : Int) - 1) = true := by simpa using j1
   have jb := jb.trans (if_neg (by rw [j1]; simp));refine Br.split (fun j2 => ?_) (fun j2 => ?_) <;> cbv
   · have j2 : (q.al == q.cf) = true := j2;refine ⟨?_, trivial⟩;exact (jb.trans (if_pos (by simpa using j2))).symm
   have j2 : (q.al == q.cf) = false := j2;have j2 : ¬ q.al = q.cf := by simpa using j2
   refine ag.by hP (cV q.siz 1 h.rules.size) ?_;cbv;refine Br.split (fun j3 => ?_) (fun j3 => ?_) <;> cbv
   · have j3 : (!aj q.siz 1 h.rules.size) = true := j3;have j3 : aj q.siz 1 h.rules.size = false := by simpa using j3
     refine ⟨?_, trivial⟩;exact (jb.trans ((if_neg j2).trans (if_pos j3))).symm
   have j3 : (!aj q.siz 1 h.rules.size) = false := j3;have j3 : aj q.siz 1 h.rules.size = true := by simpa using j3
   have hx := jb.trans ((if_neg j2).trans (if_neg (by rw [j3]; simp)));refine Br.dec (fun j4 => ?_) (fun j4 => ?_) <;> cbv
   · have j4 : q.aK ≥ h.rules.cm := j4;refine ⟨?_, trivial⟩;exact (hx.trans (if_pos j4)).symm
   have j4 : ¬ q.aK ≥ h.rules.cm := j4;have hx := hx.trans (if_neg j4);refine ag.by hP (cV q.id 1 999) ?_;cbv;refine Br.split (fun j5 => ?_) (fun j5 => ?_) <;> cbv
   · have j5 : (!aj q.id 1 999) = true := j5;have j5 : aj q.id 1 999 = false := by simpa using j5
     refine ⟨?_, trivial⟩;exact (hx.trans (if_pos j5)).symm
   have j5 : (!aj q.id 1 999) = false := j5;have j5 : aj q.id 1 999 = true := by simpa using j5
   have hx := hx.trans (if_neg (by rw [j5]; simp));refine ag.by hP (jC h q.id (aP h.ae q.id) rfl) ?_;cbv;refine Br.dec (fun j6 => ?_) (fun j6 => ?_) <;> cbv
   · have j6 : aP h.ae q.id ≥ 0 := j6;refine ⟨?_, trivial⟩;exact (hx.trans (if_pos j6)).symm
   have j6 : ¬ aP h.ae q.id ≥ 0 := j6;have hx := hx.trans (if_neg j6);refine ag.by hP (Dy h.ae q.cf s2) ?_;cbv;refine Br.dec (fun j7 => ?_) (fun j7 => ?_) <;> cbv
   · have j7 : ja h q.cf ≥ h.rules.room := j7;refine ⟨?_, trivial⟩;exact (hx.trans (if_pos j7)).symm
   have j7 : ¬ ja h q.cf ≥ h.rules.room := j7;have jv : (if ja h q.cf ≥ h.rules.room then (9 : Int) else if q.al ≠ -1 ∧ fS (aC h q.al) < q.siz then 10 else if h.aw > 1000000 then 11 else 0) = if q.al ≠ -1 ∧ fS (aC h q.al) < q.siz then 10 else if h.aw > 1000000 then 11 else 0 := if_neg j7
   refine Br.split (fun j8 => ?_) (fun j8 => ?_) <;> cbv
   · have j8 : q.al ≠ -1 := by have j8 : (q.al != -1) = true := j8; simpa using j8
     refine ag.by hP (D9 h q.al (KJ k0 j1 j8) (fS (aC h q.al)) rfl) ?_;cbv;refine Br.dec (fun j9 => ?_) (fun j9 => ?_) <;> cbv
     · have j9 : fS (aC h q.al) < q.siz := j9;refine ⟨?_, trivial⟩;exact (hx.trans (jv.trans (if_pos ⟨j8, j9⟩))).symm
     have j9 : ¬ fS (aC h q.al) < q.siz := j9;refine Br.dec (fun fp => ?_) (fun fp => ?_) <;> cbv
     · have fp : h.aw > 1000000 := fp;refine ⟨?_, trivial⟩;exact (hx.trans (by rw [jv, if_neg fun z => j9 z.2, if_pos fp])).symm
     · have fp : ¬ h.aw > 1000000 := fp;refine ⟨?_, trivial⟩;exact (hx.trans (by rw [jv, if_neg fun z => j9 z.2, if_neg fp])).symm
   · have j8 : q.al = -1 := by have j8 : (q.al != -1) = false := j8; simpa using j8
     refine Br.dec (fun fp => ?_) (fun fp => ?_) <;> cbv
     · have fp : h.aw > 1000000 := fp;refine ⟨?_, trivial⟩;exact (hx.trans (by rw [jv, if_neg fun z => z.1 j8, if_pos fp])).symm
     · have fp : ¬ h.aw > 1000000 := fp;refine ⟨?_, trivial⟩;exact (hx.trans (by rw [jv, if_neg fun z => z.1 j8, if_neg fp])).symm
 have c1 : ¬ q.kind = 1 := by have c1 : (q.kind == 1) = false := c1; simpa using c1
 refine Br.split (fun c2 => ?_) (fun c2 => ?_) <;> cbv
 · have kk : q.kind = 2 := by have c2 : (q.kind == 2) = true := c2; simpa using c2
   have hx := hx.trans (Ax k0 k2 kk);refine ag.by hP (jC h q.id (aP h.ae q.id) rfl) ?_;cbv;refine Br.dec (fun a0 => ?_) (fun a0 => ?_) <;> cbv
   · have a0 : aP h.ae q.id < 0 := a0;refine ⟨?_, trivial⟩;exact (hx.trans (if_pos a0)).symm
   · have a0 : ¬ aP h.ae q.id < 0 := a0;refine ⟨?_, trivial⟩;exact (hx.trans (if_neg a0)).symm
 have c2 : ¬ q.kind = 2 := by have c2 : (q.kind == 2) = false := c2; simpa using c2
 refine Br.split (fun c3 => ?_) (fun c3 => ?_) <;> cbv
 · have kk : q.kind = 3 := by have c3 : (q.kind == 3) = true := c3; simpa using c3
   have hx := hx.trans (KF k0 k2 kk);have fr := KD k2 kk;refine ag.by hP (nk q.cf (h.cabins.length : Int) (by omega) (by omega)) ?_;cbv;refine Br.split (fun j0 => ?_) (fun j0 => ?_) <;> cbv
   · have j0 : (!jt h q.cf) = true := j0;have j0 : jt h q.cf = false := by simpa using j0
     refine ⟨?_, trivial⟩;exact (hx.trans (if_pos j0)).symm
   have j0 : (!jt h q.cf) = false := j0;have j0 : jt h q.cf = true := by simpa using j0
   have hx := hx.trans (if_neg (by rw [j0]; simp));refine ag.by hP (cV q.siz 1 60) ?_;cbv;refine Br.split (fun f1 => ?_) (fun f1 => ?_) <;> cbv
   · have f1 : (!aj q.siz 1 60) = true := f1;refine ⟨?_, trivial⟩;exact (hx.trans (if_pos (by simpa using f1))).symm
   have f1 : (!aj q.siz 1 60) = false := f1;have hx := hx.trans (if_neg (by simpa using f1));refine ag.by hP (D9 h q.cf (KK k0 j0) (fS (aC h q.cf)) rfl) ?_;cbv;refine Br.dec (fun f2 => ?_) (fun f2 => ?_) <;> cbv
   · have f2 : fS (aC h q.cf) < q.siz := f2;refine ⟨?_, trivial⟩;exact (hx.trans (if_pos f2)).symm
   · have f2 : ¬ fS (aC h q.cf) < q.siz := f2;refine ⟨?_, trivial⟩;exact (hx.trans (if_neg f2)).symm
 have c3 : ¬ q.kind = 3 := by have c3 : (q.kind == 3) = false := c3; simpa using c3
 refine Br.split (fun c4 => ?_) (fun c4 => ?_) <;> cbv
 · have kk : q.kind = 4 := by have c4 : (q.kind == 4) = true := c4; simpa using c4
   have hx := hx.trans (tS k0 k2 (Or.inl kk));refine Br.split (fun d4 => ?_) (fun d4 => ?_) <;> cbv
   · refine ag.by hP (jC h q.id (aP h.ae q.id) rfl) ?_;cbv;refine Br.dec (fun a0 => ?_) (fun a0 => ?_) <;> cbv
     · have a0 : aP h.ae q.id < 0 := a0;refine ⟨?_, trivial⟩;exact (hx.trans (if_pos a0)).symm
     have a0 : ¬ aP h.ae q.id < 0 := a0;have hx := hx.trans (if_neg a0);obtain ⟨i, c, g⟩ := known hg (by omega : 0 ≤ aP h.ae q.id);have hi := g.lt;have og : 0 ≤ aP h.ae q.id := by omega
     have gg : h.ae[(aP h.ae q.id).toNat]? = some h.ae[i] := by rw [g.at_, Int.toNat_natCast]; exact List.getElem?_eq_getElem hi
     rw [g.az] at hx;refine ⟨h.ae[i], og, gg, ?_⟩;cbv;refine Br.split (fun a1 => ?_) (fun a1 => ?_) <;> cbv
     · have a1 : (h.ae[i].st != 2) = true := a1;refine ⟨?_, trivial⟩;exact (hx.trans (if_pos (by simpa using a1))).symm
     have a1 : (h.ae[i].st != 2) = false := a1;have hx := hx.trans (if_neg (by simpa using a1));refine ⟨h.ae[i], og, gg, ?_⟩;cbv;refine ag.by hP (Du h.ae[i] h.now) ?_;cbv;refine Br.split (fun a2 => ?_) (fun a2 => ?_) <;> cbv
     · have a2 : eT h.ae[i] h.now = true := a2;refine ⟨?_, trivial⟩;exact (hx.trans (if_pos a2)).symm
     · have a2 : eT h.ae[i] h.now = false := a2;refine ⟨?_, trivial⟩;exact (hx.trans (if_neg (by rw [a2]; simp))).symm
   · exfalso;have d4 : (q.kind == 4) = false := d4;rw [kk] at d4; cases d4
 have c4 : ¬ q.kind = 4 := by have c4 : (q.kind == 4) = false := c4; simpa using c4
 refine Br.split (fun c5 => ?_) (fun c5 => ?_) <;> cbv
 · have kk : q.kind = 5 := by have c5 : (q.kind == 5) = true := c5; simpa using c5
   have hx := hx.trans (tS k0 k2 (Or.inr kk));refine ag.by hP (jC h q.id (aP h.ae q.id) rfl) ?_;cbv;refine Br.dec (fun a0 => ?_) (fun a0 => ?_) <;> cbv
   · have a0 : aP h.ae q.id < 0 := a0;refine ⟨?_, trivial⟩;exact (hx.trans (if_pos a0)).symm
   have a0 : ¬ aP h.ae q.id < 0 := a0;have hx := hx.trans (if_neg a0);obtain ⟨i, c, g⟩ := known hg (by omega : 0 ≤ aP h.ae q.id);have hi := g.lt;have og : 0 ≤ aP h.ae q.id := by omega
   have gg : h.ae[(aP h.ae q.id).toNat]? = some h.ae[i] := by rw [g.at_, Int.toNat_natCast]; exact List.getElem?_eq_getElem hi
   rw [g.az] at hx;refine ⟨h.ae[i], og, gg, ?_⟩;cbv;refine Br.split (fun a1 => ?_) (fun a1 => ?_) <;> cbv
   · have a1 : (h.ae[i].st != 2) = true := a1;refine ⟨?_, trivial⟩;exact (hx.trans (if_pos (by simpa using a1))).symm
   have a1 : (h.ae[i].st != 2) = false := a1;have hx := hx.trans (if_neg (by simpa using a1));refine ⟨h.ae[i], og, gg, ?_⟩;cbv;refine ag.by hP (Du h.ae[i] h.now) ?_;cbv;refine Br.split (fun a2 => ?_) (fun a2 => ?_) <;> cbv
   · have a2 : eT h.ae[i] h.now = true := a2;refine ⟨?_, trivial⟩;exact (hx.trans (if_pos a2)).symm
   · have a2 : eT h.ae[i] h.now = false := a2;refine ⟨?_, trivial⟩;exact (hx.trans (if_neg (by rw [a2]; simp))).symm
 have c5 : ¬ q.kind = 5 := by have c5 : (q.kind == 5) = false := c5; simpa using c5
 refine Br.split (fun c6 => ?_) (fun c6 => ?_) <;> cbv
 · have kk : q.kind = 6 := by have c6 : (q.kind == 6) = true := c6; simpa using c6
   have hx := hx.trans (Ay k0 k2 kk);have hn := bB hg.now;refine Br.split (fun t0 => ?_) (fun t0 => ?_) <;> cbv
   · have t0 : (h.now == 1000000) = true := t0;refine ⟨?_, trivial⟩;exact (hx.trans (if_pos (by simpa using t0))).symm
   · have t0 : (h.now == 1000000) = false := t0;refine ⟨?_, trivial⟩;exact (hx.trans (if_neg (by simpa using t0))).symm
 have c6 : ¬ q.kind = 6 := by have c6 : (q.kind == 6) = false := c6; simpa using c6
 refine Br.split (fun c7 => ?_) (fun c7 => ?_) <;> cbv
 · have kk : q.kind = 7 := by have c7 : (q.kind == 7) = true := c7; simpa using c7
   have hx := hx.trans (KG k0 k2 kk);have pr := KE k2 kk;refine Br.dec (fun p0 => ?_) (fun p0 => ?_) <;> cbv
   · have p0 : q.id ≥ h.rules.bP := p0;refine ⟨?_, trivial⟩;exact (hx.trans (if_pos p0)).symm
   have p0 : ¬ q.id ≥ h.rules.bP := p0;have hx := hx.trans (if_neg p0);have cr := hg.bP;have hj : q.id.toNat < h.aN.length := by omega
   have op : 0 ≤ q.id := pr.1;have gp : h.aN[q.id.toNat]? = some h.aN[q.id.toNat] := List.getElem?_eq_getElem hj;rw [gp] at hx;have hx : x = if h.aN[q.id.toNat] = -1 ∧ h.todo = [] then 17 else 0 := hx
   have jj := bB (hg.aN.aN _ (List.getElem_mem hj));refine ⟨h.aN[q.id.toNat], op, gp, ?_⟩;cbv;refine Br.split (fun p1 => ?_) (fun p1 => ?_) <;> cbv
   · have p1 : h.aN[q.id.toNat] = -1 := by have p1 : (h.aN[q.id.toNat] == -1) = true := p1; simpa using p1
     refine Br.split (fun p2 => ?_) (fun p2 => ?_) <;> cbv
     · have p2 : (((h.todo.length : Nat) : Int) == 0) = true := p2;refine ⟨?_, trivial⟩;exact (hx.trans (if_pos ⟨p1, KL p2⟩)).symm
     · have p2 : (((h.todo.length : Nat) : Int) == 0) = false := p2;refine ⟨?_, trivial⟩;exact (hx.trans (if_neg fun z => KM p2 z.2)).symm
   · have p1 : ¬ h.aN[q.id.toNat] = -1 := by have p1 : (h.aN[q.id.toNat] == -1) = false := p1; simpa using p1
     refine ⟨?_, trivial⟩;exact (hx.trans (if_neg fun z => p1 z.1)).symm
 have c7 : ¬ q.kind = 7 := by have c7 : (q.kind == 7) = false := c7; simpa using c7
 exfalso; omega
def dB (w : List (List aA)) (now : Int) : List aA := (bC w).filter fun p => decide (p.tm ≤ now)
def sD (c : a_) (now : Int) : List Int := (dB c.spoke now).map fun p => p.pid
def bX (h : ai) (k : Int) : List Int := if cC h k = true then sD (aC h k) h.now else []
theorem nq (w : List (List aA)) : (bC w).length ≤ 10 := by
 rcases hb : br w with _ | _
 · rw [DY hb]; simp
 · rw [DX hb, jy]; exact (z5 hb).dn
theorem nE (w : List (List aA)) (now : Int) : (dB w now).length ≤ 10 := Nat.le_trans (List.length_filter_le _ _) (nq w)
theorem rm {α : Type} {q : α → Bool} {l : List α} {i : Nat} (h : i < l.length) (hq : q l[i] = true) : (l.take i).filter q ++ [l[i]] = (l.take (i + 1)).filter q := by
 rw [List.take_add_one, List.getElem?_eq_getElem h, List.filter_append]; simp [hq]
theorem rq {α : Type} {q : α → Bool} {l : List α} {i : Nat} (h : i < l.length) (hq : q l[i] = false) : (l.take i).filter q = (l.take (i + 1)).filter q := by
 rw [List.take_add_one, List.getElem?_eq_getElem h, List.filter_append]; simp [hq]
theorem ir {α : Type} {l : List α} {d : α} {i : Nat} (h : i < l.length) : l.getD ((i : Int)).toNat d = l[i] := by rw [Int.toNat_natCast, List.getD_eq_getElem?_getD, List.getElem?_eq_getElem h]; rfl
set_option maxHeartbeats 1000000 in
theorem Eu (w : List (List aA)) (hw : eC w) (now : Int) (x : List aA) (hx : x = dB w now) : Spec Tryz.prog 172 [kG w, iA now] (aE (lR .aF fun _ => x)) := by
 have dn := nq w;refine aH ay Tryz.func172 rfl rfl (fr := true) (fun _ => by kernel_rfl) fun P hP hA => ?_;cbv;refine ag.by hP (z6 w hw (bC w) rfl) ?_;cbv;refine aT.by (X := Nat) (fun i => [(1, iA now), (5, oN 0), (6, oN 1), (7, nT fun _ => i)]) (fun i => [(0, aQ .aF fun _ => ((bC w).take i).filter fun p => decide (p.tm ≤ now)), (1, aQ .aF fun _ => bC w)]) (fun i => i ≤ (bC w).length) (fun i _ => (bC w).length - i) 0 (Nat.zero_le _) ?_ ?_
 · cbv
   repeat' first | exact trivial | refine ⟨rfl, ?_⟩ | fail
 · intro i hi;cbv;refine Br.dec (fun h2 => ?_) (fun h2 => ?_) <;> cbv
   rotate_left
   · have h2 : (bC w).length ≤ i := by simp at h2; omega
     refine ⟨?_, trivial⟩;show ((bC w).take i).filter (fun p => decide (p.tm ≤ now)) = x;rw [List.take_of_length_le h2, hx]; rfl
   have h2 : i < (bC w).length := by simpa using h2
   have gi : (bC w).getD ((i : Int)).toNat default = (bC w)[i] := ir h2;have oi : 0 ≤ (i : Int) ∧ (i : Int) < ((bC w).length : Int) := by omega
   have ob : (List.length (((bC w).take i).filter fun p => decide (p.tm ≤ now)) + 1) * 16 ≤ 140737488355328 := by
     have := List.length_filter_le (fun p : aA => decide (p.tm ≤ now)) ((bC w).take i);rw [List.length_take] at this;omega
   have yes : ((bC w).getD ((i : Int)).toNat default).tm ≤ now → (((bC w).take i).filter fun p => decide (p.tm ≤ now)) ++ [(bC w).getD ((i : Int)).toNat default] = ((bC w).take (i + 1)).filter fun p => decide (p.tm ≤ now) := fun q => by
     rw [gi] at q ⊢; exact rm h2 (decide_eq_true q)
   have no : ¬ ((bC w).getD ((i : Int)).toNat default).tm ≤ now → (((bC w).take i).filter fun p => decide (p.tm ≤ now)) = ((bC w).take (i + 1)).filter fun p => decide (p.tm ≤ now) := fun q => by
     rw [gi] at q; exact rq h2 (decide_eq_false q)
   refine ⟨oi, ?_⟩;cbv;refine Br.dec (fun h3 => ?_) (fun h3 => ?_) <;> cbv
   · refine ⟨oi, ?_⟩;cbv;refine ⟨ob, ?_⟩;cbv;refine Ar.exact (by (try simp only [nc] at *); omega) (by (try simp only [nc] at *); omega) ?_;cbv;refine aJ.by (i + 1) ?_ ?_ ?_
     · show (bC w).length - (i + 1) < (bC w).length - i;omega
     · exact h2
     · cbv
       repeat' first | exact trivial | refine ⟨rfl, ?_⟩ | fail
       refine ⟨yes h3, ?_⟩
       repeat' first | exact trivial | refine ⟨rfl, ?_⟩ | fail
   · refine Ar.exact (by (try simp only [nc] at *); omega) (by (try simp only [nc] at *); omega) ?_;cbv;refine aJ.by (i + 1) ?_ ?_ ?_
     · show (bC w).length - (i + 1) < (bC w).length - i;omega
     · exact h2
     · cbv
       repeat' first | exact trivial | refine ⟨rfl, ?_⟩ | fail
       refine ⟨no h3, ?_⟩
       repeat' first | exact trivial | refine ⟨rfl, ?_⟩ | fail
set_option maxHeartbeats 1000000 in
theorem EB (h : ai) (hs : bh h) (n : Nat) (hn : n < h.cabins.length) (x : List Int) (hx : x = sD h.cabins[n] h.now) : Spec Tryz.prog 120 [dk h, nT fun _ => n] (aE (lR .int fun _ => x)) := by
 refine aH ay Tryz.func120 rfl rfl (fr := true) (fun _ => by kernel_rfl) fun P hP hA => ?_;cbv;refine ⟨h.cabins[n], by simp, get_cast h.cabins hn, ?_⟩;cbv;refine ag.by hP (Eu h.cabins[n].spoke (eC.cf hs.2.2.1 hn) h.now (dB h.cabins[n].spoke h.now) rfl) ?_;cbv;refine aT.by (X := Nat) (fun i => [(5, oN 0), (6, oN 1), (7, nT fun _ => i)]) (fun i => [(0, aQ .int fun _ => ((dB h.cabins[n].spoke h.now).take i).map fun p => p.pid), (1, aQ .aF fun _ => dB h.cabins[n].spoke h.now)]) (fun i => i ≤ (dB h.cabins[n].spoke h.now).length) (fun i _ => (dB h.cabins[n].spoke h.now).length - i) 0 (Nat.zero_le _) ?_ ?_
 · cbv
   repeat' first | exact trivial | refine ⟨rfl, ?_⟩ | fail
 · intro i hi;cbv;refine Br.dec (fun h2 => ?_) (fun h2 => ?_) <;> cbv
   rotate_left
   · have h2 : (dB h.cabins[n].spoke h.now).length ≤ i := by simp at h2; omega
     refine ⟨?_, trivial⟩;show ((dB h.cabins[n].spoke h.now).take i).map (fun p => p.pid) = x;rw [List.take_of_length_le h2, hx]; rfl
   have h2 : i < (dB h.cabins[n].spoke h.now).length := by simpa using h2
   have dn := nE h.cabins[n].spoke h.now;have gi : (dB h.cabins[n].spoke h.now).getD ((i : Int)).toNat default = (dB h.cabins[n].spoke h.now)[i] := ir h2;have oi : 0 ≤ (i : Int) ∧ (i : Int) < ((dB h.cabins[n].spoke h.now).length : Int) := by omega
   have ob : (List.length (((dB h.cabins[n].spoke h.now).take i).map fun p => p.pid) + 1) * 8 ≤ 140737488355328 := by
     rw [List.length_map, List.length_take]; omega
   have st : (((dB h.cabins[n].spoke h.now).take i).map fun p => p.pid) ++ [((dB h.cabins[n].spoke h.now).getD ((i : Int)).toNat default).pid] = ((dB h.cabins[n].spoke h.now).take (i + 1)).map fun p => p.pid := by
     rw [gi, List.take_add_one, List.getElem?_eq_getElem h2, List.map_append]; rfl
   refine ⟨oi, ?_⟩;cbv;refine ⟨ob, ?_⟩;cbv;refine Ar.exact (by (try simp only [nc] at *); omega) (by (try simp only [nc] at *); omega) ?_;cbv;refine aJ.by (i + 1) ?_ ?_ ?_
   · show (dB h.cabins[n].spoke h.now).length - (i + 1) < (dB h.cabins[n].spoke h.now).length - i;omega
   · exact h2
   · cbv
     repeat' first | exact trivial | refine ⟨rfl, ?_⟩ | fail
     refine ⟨st, ?_⟩
     repeat' first | exact trivial | refine ⟨rfl, ?_⟩ | fail
theorem EC (h : ai) (k : Int) (hs : bh h) (x : List Int) (hx : x = bX h k) : Spec Tryz.prog 52 [dk h, iA k] (aE (lR .int fun _ => x)) := by
 refine aH ay Tryz.func52 rfl rfl (fr := true) (fun _ => by kernel_rfl) fun P hP hA => ?_;cbv;refine ag.by hP (z_ h k hs (cC h k) rfl) ?_;cbv;refine Br.split (fun kc => ?_) (fun kc => ?_) <;> cbv
 · have kc : (!cC h k) = true := kc;obtain rfl : x = [] := hx.trans (if_neg (by intro q; rw [q] at kc; cases kc))
   repeat' first | exact trivial | refine ⟨rfl, ?_⟩ | fail
 have kc : (!cC h k) = false := kc;have kc : cC h k = true := by simpa using kc
 have kk := Bool.and_eq_true_iff.1 kc;obtain ⟨n, hn, rfl, ec⟩ := xD kk.2;refine ag.by hP (EB h hs n hn x (hx.trans ((if_pos kc).trans (by rw [ec])))) ?_;cbv
 repeat' first | exact trivial | refine ⟨rfl, ?_⟩ | fail
set_option maxHeartbeats 1000000 in
theorem ED (w : List (List aA)) (hw : eC w) (now : Int) (x : List aA) (hx : x = dB w now) : Spec Tryz.prog 118 [kG w, iA now] (aE (lR .aF fun _ => x)) := by
 have dn := nq w;refine aH ay Tryz.func118 rfl rfl (fr := true) (fun _ => by kernel_rfl) fun P hP hA => ?_;cbv;refine ag.by hP (Jq w hw (bC w) rfl) ?_;cbv;refine aT.by (X := Nat) (fun i => [(1, iA now), (5, oN 0), (9, oN 1), (10, nT fun _ => (bC w).length), (11, nT fun _ => i)]) (fun i => [(0, aQ .aF fun _ => ((bC w).take i).filter fun p => decide (p.tm ≤ now)), (1, aQ .aF fun _ => bC w)]) (fun i => i ≤ (bC w).length) (fun i _ => (bC w).length - i) 0 (Nat.zero_le _) ?_ ?_
 · cbv
   repeat' first | exact trivial | refine ⟨rfl, ?_⟩ | fail
 · intro i hi;cbv;refine Br.dec (fun h2 => ?_) (fun h2 => ?_) <;> cbv
   rotate_left
   · have h2 : (bC w).length ≤ i := by simp at h2; omega
     refine ⟨?_, trivial⟩;show ((bC w).take i).filter (fun p => decide (p.tm ≤ now)) = x;rw [List.take_of_length_le h2, hx]; rfl
   have h2 : i < (bC w).length := by simpa using h2
   have gi : (bC w).getD ((i : Int)).toNat default = (bC w)[i] := ir h2;have oi : 0 ≤ (i : Int) ∧ (i : Int) < ((bC w).length : Int) := by omega
   have ob : (List.length (((bC w).take i).filter fun p => decide (p.tm ≤ now)) + 1) * 16 ≤ 140737488355328 := by
     have := List.length_filter_le (fun p : aA => decide (p.tm ≤ now)) ((bC w).take i);rw [List.length_take] at this;omega
   have yes : ((bC w).getD ((i : Int)).toNat default).tm ≤ now → (((bC w).take i).filter fun p => decide (p.tm ≤ now)) ++ [(bC w).getD ((i : Int)).toNat default] = ((bC w).take (i + 1)).filter fun p => decide (p.tm ≤ now) := fun q => by
     rw [gi] at q ⊢; exact rm h2 (decide_eq_true q)
   have no : ¬ ((bC w).getD ((i : Int)).toNat default).tm ≤ now → (((bC w).take i).filter fun p => decide (p.tm ≤ now)) = ((bC w).take (i + 1)).filter fun p => decide (p.tm ≤ now) := fun q => by
     rw [gi] at q; exact rq h2 (decide_eq_false q)
   refine ⟨oi, ?_⟩;cbv;refine Br.dec (fun h3 => ?_) (fun h3 => ?_) <;> cbv
   · refine ⟨ob, ?_⟩;cbv;refine Ar.exact (by (try simp only [nc] at *); omega) (by (try simp only [nc] at *); omega) ?_;cbv;refine aJ.by (i + 1) ?_ ?_ ?_
     · show (bC w).length - (i + 1) < (bC w).length - i;omega
     · exact h2
     · cbv
       repeat' first | exact trivial | refine ⟨rfl, ?_⟩ | fail
       refine ⟨yes h3, ?_⟩
       repeat' first | exact trivial | refine ⟨rfl, ?_⟩ | fail
   · refine Ar.exact (by (try simp only [nc] at *); omega) (by (try simp only [nc] at *); omega) ?_;cbv;refine aJ.by (i + 1) ?_ ?_ ?_
     · show (bC w).length - (i + 1) < (bC w).length - i;omega
     · exact h2
     · cbv
       repeat' first | exact trivial | refine ⟨rfl, ?_⟩ | fail
       refine ⟨no h3, ?_⟩
       repeat' first | exact trivial | refine ⟨rfl, ?_⟩ | fail
set_option maxHeartbeats 1000000 in
theorem nG (h : ai) (k : Int) (hs : bh h) (x : List Int) (hx : x = bX h k) : Spec Tryz.prog 50 [dk h, iA k] (aE (lR .int fun _ => x)) := by
 refine aH ay Tryz.func50 rfl rfl (fr := true) (fun _ => by kernel_rfl) fun P hP hA => ?_;cbv;refine ag.by hP (po h k hs (cC h k) rfl) ?_;cbv;refine Br.split (fun kc => ?_) (fun kc => ?_) <;> cbv
 · have kc : (!cC h k) = true := kc;obtain rfl : x = [] := hx.trans (if_neg (by intro q; rw [q] at kc; cases kc))
   repeat' first | exact trivial | refine ⟨rfl, ?_⟩ | fail
 have kc : (!cC h k) = false := kc;have kc : cC h k = true := by simpa using kc
 have kk := Bool.and_eq_true_iff.1 kc;obtain ⟨n, hn, rfl, ec⟩ := xD kk.2;have hx := hx.trans ((if_pos kc).trans (by rw [ec]));refine ⟨h.cabins[n], by simp, get_cast h.cabins hn, ?_⟩;cbv;refine ag.by hP (ED h.cabins[n].spoke (eC.cf hs.2.2.1 hn) h.now (dB h.cabins[n].spoke h.now) rfl) ?_;cbv;refine aT.by (X := Nat) (fun i => [(5, oN 0), (20, oN 1), (21, nT fun _ => (dB h.cabins[n].spoke h.now).length), (22, nT fun _ => i)]) (fun i => [(0, aQ .int fun _ => ((dB h.cabins[n].spoke h.now).take i).map fun p => p.pid), (1, aQ .aF fun _ => dB h.cabins[n].spoke h.now)]) (fun i => i ≤ (dB h.cabins[n].spoke h.now).length) (fun i _ => (dB h.cabins[n].spoke h.now).length - i) 0 (Nat.zero_le _) ?_ ?_
 · cbv
   repeat' first | exact trivial | refine ⟨rfl, ?_⟩ | fail
 · intro i hi;cbv;refine Br.dec (fun h2 => ?_) (fun h2 => ?_) <;> cbv
   rotate_left
   · have h2 : (dB h.cabins[n].spoke h.now).length ≤ i := by simp at h2; omega
     refine ⟨?_, trivial⟩;show ((dB h.cabins[n].spoke h.now).take i).map (fun p => p.pid) = x;rw [List.take_of_length_le h2, hx]; rfl
   have h2 : i < (dB h.cabins[n].spoke h.now).length := by simpa using h2
   have dn := nE h.cabins[n].spoke h.now;have gi : (dB h.cabins[n].spoke h.now).getD ((i : Int)).toNat default = (dB h.cabins[n].spoke h.now)[i] := ir h2;have oi : 0 ≤ (i : Int) ∧ (i : Int) < ((dB h.cabins[n].spoke h.now).length : Int) := by omega
   have ob : (List.length (((dB h.cabins[n].spoke h.now).take i).map fun p => p.pid) + 1) * 8 ≤ 140737488355328 := by
     rw [List.length_map, List.length_take]; omega
   have st : (((dB h.cabins[n].spoke h.now).take i).map fun p => p.pid) ++ [((dB h.cabins[n].spoke h.now).getD ((i : Int)).toNat default).pid] = ((dB h.cabins[n].spoke h.now).take (i + 1)).map fun p => p.pid := by
     rw [gi, List.take_add_one, List.getElem?_eq_getElem h2, List.map_append]; rfl
   refine ⟨oi, ?_⟩;cbv;refine ⟨ob, ?_⟩;cbv;refine Ar.exact (by (try simp only [nc] at *); omega) (by (try simp only [nc] at *); omega) ?_;cbv;refine aJ.by (i + 1) ?_ ?_ ?_
   · show (dB h.cabins[n].spoke h.now).length - (i + 1) < (dB h.cabins[n].spoke h.now).length - i;omega
   · exact h2
   · cbv
     repeat' first | exact trivial | refine ⟨rfl, ?_⟩ | fail
     refine ⟨st, ?_⟩
     repeat' first | exact trivial | refine ⟨rfl, ?_⟩ | fail
def dS (h : ai) (now : Int) (i : Nat) : List Entry := (List.range i).flatMap fun k : Nat => cH h.rules h.ae (k : Int) now
def e_ (h : ai) (now : Int) : Bool := aW h && aj now h.now 1000000
def mG (h : ai) (now : Int) : List Entry := if e_ h now = true then dS h now h.cabins.length else []
theorem jg (h : ai) (now : Int) (i : Nat) : dS h now i ++ cH h.rules h.ae (i : Int) now = dS h now (i + 1) := by
 rw [dS, dS, List.range_succ, List.flatMap_append]; simp
theorem jN {h : ai} (hg : HG h) {k : Nat} (hk : k < h.cabins.length) (now : Int) : (fx h.rules (k : Int) now h.ae).length ≤ 10 := by
 have h1 := (hg.at_ hk).dn;have h2 := (dO hg.rules).room;exact D7 (by omega)
theorem mH {h : ai} (hg : HG h) (now : Int) : ∀ i, i ≤ h.cabins.length → (dS h now i).length ≤ 10 * i
 | 0, _ => by simp [dS]
 | i + 1, hi => by
   have ih := mH hg now i (by omega);have h1 := jN hg (show i < h.cabins.length by omega) now;rw [← jg, List.length_append, cH, jy];omega
set_option maxHeartbeats 1000000 in
theorem ER (h : ai) (now : Int) (hs : bh h) (x : List Entry) (hx : x = mG h now) : Spec Tryz.prog 36 [dk h, iA now] (aE (lR .aD fun _ => x)) := by
 have s1 := hs.1;have s2 := hs.2.1;refine aH ay Tryz.func36 rfl rfl (fr := true) (fun _ => by kernel_rfl) fun P hP hA => ?_;cbv;refine ag.by hP (f_ h hs (aW h) rfl) ?_;cbv;refine Br.split (fun k0 => ?_) (fun k0 => ?_) <;> cbv
 · have k0 := kM (h := h) k0;obtain rfl : x = [] := hx.trans (if_neg (by rw [e_, k0]; simp))
   repeat' first | exact trivial | refine ⟨rfl, ?_⟩ | fail
 have k0 := lv (h := h) k0;refine ag.by hP (da now h.now 1000000) ?_;cbv;refine Br.split (fun k1 => ?_) (fun k1 => ?_) <;> cbv
 · have k1 : (!aj now h.now 1000000) = true := k1;have k1 : aj now h.now 1000000 = false := by simpa using k1
   obtain rfl : x = [] := hx.trans (if_neg (by rw [e_, k1]; simp))
   repeat' first | exact trivial | refine ⟨rfl, ?_⟩ | fail
 have k1 : (!aj now h.now 1000000) = false := k1;have k1 : aj now h.now 1000000 = true := by simpa using k1
 have hx := hx.trans (if_pos (by rw [e_, k0, k1]; rfl));have hg := cI.1 k0;have hc := (dO hg.rules).len;have fh := hg.fy;refine aT.by (X := Nat) (fun i => [(1, iA now), (2, pN 0), (5, oN 1), (6, nT fun _ => i)]) (fun i => [(0, .box (iq h)), (1, aQ .aD fun _ => dS h now i)]) (fun i => i ≤ h.cabins.length) (fun i _ => h.cabins.length - i) 0 (Nat.zero_le _) ?_ ?_
 · cbv
   repeat' first | exact trivial | refine ⟨rfl, ?_⟩ | fail
 · intro i hi;cbv;refine Br.dec (fun h2 => ?_) (fun h2 => ?_) <;> cbv
   rotate_left
   · have h2 : h.cabins.length ≤ i := by simp at h2; omega
     have e : i = h.cabins.length := Nat.le_antisymm hi h2;refine ⟨?_, trivial⟩;show dS h now i = x;rw [e, hx]
   have h2 : i < h.cabins.length := by simpa using h2
   have q1 := jN hg h2 now;have q2 := mH hg now i hi
   have ob : ((dS h now i).length + (cH h.rules h.ae (i : Int) now).length) * 32 ≤ 140737488355328 := by
     rw [cH, jy]; omega
   refine ag.by hP (zY h.rules h.ae (i : Int) now s1 s2) ?_;cbv;refine ⟨ob, ?_⟩;cbv;refine Ar.exact (by (try simp only [nc] at *); omega) (by (try simp only [nc] at *); omega) ?_;cbv;refine aJ.by (i + 1) ?_ ?_ ?_
   · show h.cabins.length - (i + 1) < h.cabins.length - i;omega
   · exact h2
   · cbv
     repeat' first | exact trivial | refine ⟨rfl, ?_⟩ | fail
     refine ⟨jg h now i, ?_⟩
     repeat' first | exact trivial | refine ⟨rfl, ?_⟩ | fail
set_option maxHeartbeats 1000000 in
theorem ES (h : ai) (now : Int) (hs : bh h) (x : List Entry) (hx : x = mG h now) : Spec Tryz.prog 35 [dk h, iA now] (aE (lR .aD fun _ => x)) := by
 have s1 := hs.1;have s2 := hs.2.1;refine aH ay Tryz.func35 rfl rfl (fr := true) (fun _ => by kernel_rfl) fun P hP hA => ?_;cbv;refine ag.by hP (r_ h hs (aW h) rfl) ?_;cbv;refine Br.split (fun k0 => ?_) (fun k0 => ?_) <;> cbv
 · have k0 := kM (h := h) k0;obtain rfl : x = [] := hx.trans (if_neg (by rw [e_, k0]; simp))
   repeat' first | exact trivial | refine ⟨rfl, ?_⟩ | fail
 have k0 := lv (h := h) k0;refine ag.by hP (cV now h.now 1000000) ?_;cbv;refine Br.split (fun k1 => ?_) (fun k1 => ?_) <;> cbv
 · have k1 : (!aj now h.now 1000000) = true := k1;have k1 : aj now h.now 1000000 = false := by simpa using k1
   obtain rfl : x = [] := hx.trans (if_neg (by rw [e_, k1]; simp))
   repeat' first | exact trivial | refine ⟨rfl, ?_⟩ | fail
 have k1 : (!aj now h.now 1000000) = false := k1;have k1 : aj now h.now 1000000 = true := by simpa using k1
 have hx := hx.trans (if_pos (by rw [e_, k0, k1]; rfl));have hg := cI.1 k0;have hc := (dO hg.rules).len;have fh := hg.fy;refine aT.by (X := Nat) (fun i => [(1, iA now), (2, pN 0), (5, oN 1), (19, nT fun _ => h.cabins.length), (20, nT fun _ => i)]) (fun i => [(0, .box (iq h)), (1, aQ .aD fun _ => dS h now i)]) (fun i => i ≤ h.cabins.length) (fun i _ => h.cabins.length - i) 0 (Nat.zero_le _) ?_ ?_
 · cbv
   repeat' first | exact trivial | refine ⟨rfl, ?_⟩ | fail
 · intro i hi;cbv;refine Br.dec (fun h2 => ?_) (fun h2 => ?_) <;> cbv
   rotate_left
   · have h2 : h.cabins.length ≤ i := by simp at h2; omega
     have e : i = h.cabins.length := Nat.le_antisymm hi h2;refine ⟨?_, trivial⟩;show dS h now i = x;rw [e, hx]
   have h2 : i < h.cabins.length := by simpa using h2
   have q1 := jN hg h2 now;have q2 := mH hg now i hi
   have ob : ((dS h now i).length + (cH h.rules h.ae (i : Int) now).length) * 32 ≤ 140737488355328 := by
     rw [cH, jy]; omega
   refine ag.by hP (DT h.rules h.ae (i : Int) now s1 s2 q1) ?_;cbv;refine ⟨ob, ?_⟩;cbv;refine Ar.exact (by (try simp only [nc] at *); omega) (by (try simp only [nc] at *); omega) ?_;cbv;refine aJ.by (i + 1) ?_ ?_ ?_
   · show h.cabins.length - (i + 1) < h.cabins.length - i;omega
   · exact h2
   · cbv
     repeat' first | exact trivial | refine ⟨rfl, ?_⟩ | fail
     refine ⟨jg h now i, ?_⟩
     repeat' first | exact trivial | refine ⟨rfl, ?_⟩ | fail
end Go.Proofs.YtehpbaiclfilaaaGreat

