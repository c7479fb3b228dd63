/- Parts of a proof. No conditions. -/

import Derived.Test.YtehpbaiclfilaaaGreatG13
set_option linter.unusedSimpArgs false
set_option linter.unusedVariables false
namespace Go.Proofs.YtehpbaiclfilaaaGreat
open Go
set_option maxRecDepth 100000
def aC (h : ai) (k : Int) : a_ := (h.cabins[k.toNat]?).getD default
def cC (h : ai) (k : Int) : Bool := aW h && aj k 0 ((h.cabins.length : Int) - 1)
def fS (c : a_) : Int := c.ah.aU - c.ah.tied
def la (h : ai) (k : Int) : Int := if cC h k = true then fS (aC h k) else -1
theorem xD {h : ai} {k : Int} (hk : aj k 0 ((h.cabins.length : Int) - 1) = true) : ∃ i : Nat, ∃ hi : i < h.cabins.length, k = (i : Int) ∧ aC h (i : Int) = h.cabins[i] := by
 obtain ⟨h0, h1⟩ := bB hk;refine ⟨k.toNat, by omega, by omega, ?_⟩;rw [aC, Int.toNat_natCast, List.getElem?_eq_getElem (by omega)]; rfl
structure Qx (x : bA) : Prop where
 total : 1 ≤ x.total ∧ x.total ≤ 60
 free : 0 ≤ x.free ∧ x.free ≤ x.total
 held : 0 ≤ x.held ∧ x.held ≤ x.total
 aU : 0 ≤ x.aU ∧ x.aU ≤ x.total
 sum : x.free + x.held + x.aU = x.total
 tied : 0 ≤ x.tied ∧ x.tied ≤ x.aU
theorem sd {x : bA} (h : aZ x = true) : Qx x := by
 simp only [aZ, Bool.and_eq_true, decide_eq_true_eq] at h;obtain ⟨a, b, c, d, e, f⟩ := h;exact ⟨bB a, bB b, bB c, bB d, e, bB f⟩
structure Qy (h : ai) (k : Nat) (c : a_) : Prop where
 total : c.ah.total = h.rules.ah.getD k 0
 eD : aZ c.ah = true
 q : dJ c.row = true
 w : br c.spoke = true
 dn : ((aV (bx (k : Int)) h.ae : Nat) : Int) ≤ h.rules.room
 row : c.row = cH h.rules h.ae (k : Int) h.now
 pins : bC c.spoke = gF h.ae (k : Int)
 held : c.ah.held = ((aV (cp (k : Int)) h.ae : Nat) : Int)
 tied : c.ah.tied = ((aV (cz (k : Int)) h.ae : Nat) : Int)
theorem HG.at_ {h : ai} (hg : HG h) {k : Nat} (hk : k < h.cabins.length) : Qy h k h.cabins[k] := by
 have hc := hg.cab k _ (List.getElem?_eq_getElem hk);simp only [iC, fQ, im, Bool.and_eq_true, decide_eq_true_eq, beq_iff_eq] at hc;obtain ⟨a, b, ⟨c, d, e⟩, f, g, i, j⟩ := hc;exact ⟨a, c, d, e, b, f, g, i, j⟩
theorem D8 (h : ai) (k : Int) (hk : cC h k = true) (x : Int) (hx : x = fS (aC h k)) : Spec Tryz.prog 85 [dk h, iA k] (aE (iR fun _ => x)) := by
 refine aH ay Tryz.func85 rfl rfl (fr := true) (fun _ => by kernel_rfl) fun P hP hA => ?_;have hk := Bool.and_eq_true_iff.1 hk;obtain ⟨i, hi, rfl, e⟩ := xD hk.2;have hl := sd ((cI.1 hk.1).at_ hi).eD;obtain ⟨t0, t1⟩ := hl.total;obtain ⟨s0, s1⟩ := hl.aU;obtain ⟨u0, u1⟩ := hl.tied;cbv;refine ⟨h.cabins[i], by simp, get_cast h.cabins hi, ?_⟩;cbv;refine ⟨h.cabins[i], by simp, get_cast h.cabins hi, ?_⟩;cbv;refine Ar.exact (by (try simp only [nc] at *); omega) (by (try simp only [nc] at *); omega) ?_;cbv;refine ⟨?_, trivial⟩;exact (hx.trans (by rw [e]; rfl)).symm
theorem D9 (h : ai) (k : Int) (hk : cC h k = true) (x : Int) (hx : x = fS (aC h k)) : Spec Tryz.prog 68 [dk h, iA k] (aE (iR fun _ => x)) := by
 refine aH ay Tryz.func68 rfl rfl (fr := true) (fun _ => by kernel_rfl) fun P hP hA => ?_;have hk := Bool.and_eq_true_iff.1 hk;obtain ⟨i, hi, rfl, e⟩ := xD hk.2;have hl := sd ((cI.1 hk.1).at_ hi).eD;obtain ⟨t0, t1⟩ := hl.total;obtain ⟨s0, s1⟩ := hl.aU;obtain ⟨u0, u1⟩ := hl.tied;cbv;refine ⟨h.cabins[i], by simp, get_cast h.cabins hi, ?_⟩;cbv;refine ⟨h.cabins[i], by simp, get_cast h.cabins hi, ?_⟩;cbv;refine Ar.exact (by (try simp only [nc] at *); omega) (by (try simp only [nc] at *); omega) ?_;cbv;refine ⟨?_, trivial⟩;exact (hx.trans (by rw [e]; rfl)).symm
theorem EB (h : ai) (k : Int) (hs : bh h) (x : Int) (hx : x = la h k) : Spec Tryz.prog 43 [dk h, iA k] (aE (iR fun _ => x)) := by
 refine aH ay Tryz.func43 rfl rfl (fr := true) (fun _ => by kernel_rfl) fun P hP hA => ?_;have hc : h.cabins.length ≤ 1048576 := hs.2.2.1.1;have no : cC h k = false → x = -1 := fun e => hx.trans (by rw [la, e]; rfl);cbv;refine ag.by hP (f_ h hs (aW h) rfl) ?_;cbv;refine Br.split (fun k0 => ?_) (fun k0 => ?_) <;> cbv
 · refine ⟨?_, trivial⟩;have k0 : (!aW h) = true := k0;exact (no (by rw [cC]; revert k0; cases aW h <;> intro k0 <;> simp at k0 ⊢)).symm
 have k0 : (!aW h) = false := k0;have k0 : aW h = true := by simpa using k0
 refine Ar.exact (by (try simp only [nc] at *); omega) (by (try simp only [nc] at *); omega) ?_;cbv;refine ag.by hP (da k 0 ((h.cabins.length : Int) - 1)) ?_;cbv;refine Br.split (fun k1 => ?_) (fun k1 => ?_) <;> cbv
 · refine ⟨?_, trivial⟩;have k1 : (!aj k 0 ((h.cabins.length : Int) - 1)) = true := k1;have k1 : aj k 0 ((h.cabins.length : Int) - 1) = false := by simpa using k1
   exact (no (by rw [cC, k0, k1]; rfl)).symm
 have k1 : (!aj k 0 ((h.cabins.length : Int) - 1)) = false := k1;have k1 : aj k 0 ((h.cabins.length : Int) - 1) = true := by simpa using k1
 have kk : cC h k = true := by rw [cC, k0, k1]; rfl
 refine ag.by hP (D8 h k kk x (hx.trans (if_pos kk))) ?_;cbv
 repeat' first | exact trivial | refine ⟨rfl, ?_⟩ | fail
theorem EC (h : ai) (k : Int) (hs : bh h) (x : Int) (hx : x = la h k) : Spec Tryz.prog 42 [dk h, iA k] (aE (iR fun _ => x)) := by
 refine aH ay Tryz.func42 rfl rfl (fr := true) (fun _ => by kernel_rfl) fun P hP hA => ?_;have hc : h.cabins.length ≤ 1048576 := hs.2.2.1.1;have no : cC h k = false → x = -1 := fun e => hx.trans (by rw [la, e]; rfl);cbv;refine ag.by hP (r_ h hs (aW h) rfl) ?_;cbv;refine Br.split (fun k0 => ?_) (fun k0 => ?_) <;> cbv
 · refine ⟨?_, trivial⟩;have k0 : (!aW h) = true := k0;exact (no (by rw [cC]; revert k0; cases aW h <;> intro k0 <;> simp at k0 ⊢)).symm
 have k0 : (!aW h) = false := k0;have k0 : aW h = true := by simpa using k0
 refine ag.by hP (nk k (h.cabins.length : Int) (by omega) (by omega)) ?_;cbv;refine Br.split (fun k1 => ?_) (fun k1 => ?_) <;> cbv
 · refine ⟨?_, trivial⟩;have k1 : (!aj k 0 ((h.cabins.length : Int) - 1)) = true := k1;have k1 : aj k 0 ((h.cabins.length : Int) - 1) = false := by simpa using k1
   exact (no (by rw [cC, k0, k1]; rfl)).symm
 have k1 : (!aj k 0 ((h.cabins.length : Int) - 1)) = false := k1;have k1 : aj k 0 ((h.cabins.length : Int) - 1) = true := by simpa using k1
 have kk : cC h k = true := by rw [cC, k0, k1]; rfl
 refine ag.by hP (D9 h k kk x (hx.trans (if_pos kk))) ?_;cbv
 repeat' first | exact trivial | refine ⟨rfl, ?_⟩ | fail
theorem ED {a b : bp} (h0 : a.ah = b.ah) (h1 : a.cm = b.cm) (h2 : a.room = b.room) (h3 : a.size = b.size) (h4 : a.period = b.period) (h5 : a.ck = b.ck) (h6 : a.rest = b.rest) (h7 : a.tries = b.tries) (h8 : a.bP = b.bP) : a = b := by
 cases a; cases b; simp_all
def mI (a b : bp) : Bool := decide (a.ah = b.ah) && ((a.cm == b.cm) && ((a.room == b.room) && ((a.size == b.size) && ((a.period == b.period) && ((a.ck == b.ck) && ((a.rest == b.rest) && ((a.tries == b.tries) && (a.bP == b.bP))))))))
theorem xW {a b : bp} : mI a b = decide (a = b) := by
 rw [Bool.eq_iff_iff];simp only [mI, Bool.and_eq_true, decide_eq_true_eq, beq_iff_eq]
 constructor
 · intro ⟨h0, h1, h2, h3, h4, h5, h6, h7, h8⟩; exact ED h0 h1 h2 h3 h4 h5 h6 h7 h8
 · intro h; subst h; exact ⟨rfl, rfl, rfl, rfl, rfl, rfl, rfl, rfl, rfl⟩
def pw (a b : List (List aA)) : Bool := br a && (br b && decide (bC a = bC b))
def sb (a b : bA) : Bool := (a.total == b.total) && ((a.free == b.free) && ((a.held == b.held) && ((a.aU == b.aU) && (a.tied == b.tied))))
def om (a b : a_) : Bool := im a && (im b && (sb a.ah b.ah && (decide (a.row = b.row) && pw a.spoke b.spoke)))
theorem ER (a b : bp) (r : Bool) (hr : r = mI a b) : Spec Tryz.prog 103 [gu a, gu b] (aE (bR fun _ => r)) := by
 refine aH ay Tryz.func103 rfl rfl (fr := true) (fun _ => by kernel_rfl) fun P hP hA => ?_;cbv
 repeat (refine Pz.mk ?_; cbv)
 repeat' first
  | (refine ag.by hP (vT a.ah b.ah) ?_; cbv; repeat (refine Pz.mk ?_; cbv))
  | (refine Br.split (fun h => ?_) (fun h => ?_) <;> (cbv; repeat (refine Pz.mk ?_; cbv)))
  | fail
 all_goals refine ⟨?_, trivial⟩
 all_goals simp_all [mI]
theorem ES (a b : List (List aA)) (ha : eC a) (hb : eC b) (r : Bool) (hr : r = pw a b) : Spec Tryz.prog 158 [kG a, kG b] (aE (bR fun _ => r)) := by
 refine aH ay Tryz.func158 rfl rfl (fr := true) (fun _ => by kernel_rfl) fun P hP hA => ?_;cbv
 repeat' first
  | (refine ag.by hP (vq a ha (br a) rfl) ?_; cbv)
  | (refine ag.by hP (vq b hb (br b) rfl) ?_; cbv)
  | (refine ag.by hP (z6 a ha (bC a) rfl) ?_; cbv)
  | (refine ag.by hP (z6 b hb (bC b) rfl) ?_; cbv)
  | (refine ag.by hP (I6 (bC a) (bC b)) ?_; cbv)
  | (refine Br.split (fun h => ?_) (fun h => ?_) <;> cbv)
  | fail
 all_goals refine ⟨?_, trivial⟩
 all_goals simp_all [pw]
theorem EV (a b : a_) (ha : eC a.spoke) (hb : eC b.spoke) (r : Bool) (hr : r = om a b) : Spec Tryz.prog 105 [eA .cab a, eA .cab b] (aE (bR fun _ => r)) := by
 refine aH ay Tryz.func105 rfl rfl (fr := true) (fun _ => by kernel_rfl) fun P hP hA => ?_;cbv
 repeat' first
  | (refine ag.by hP (DZ a ha (im a) rfl) ?_; cbv)
  | (refine ag.by hP (DZ b hb (im b) rfl) ?_; cbv)
  | (refine ag.by hP (I5 a.row b.row) ?_; cbv)
  | (refine ag.by hP (ES a.spoke b.spoke ha hb (pw a.spoke b.spoke) rfl) ?_; cbv)
  | (refine Br.split (fun h => ?_) (fun h => ?_) <;> cbv)
  | fail
 all_goals refine ⟨?_, trivial⟩
 all_goals simp_all [om, sb]
def pd (a b : List a_) : Bool := decide (a.length = b.length) && (List.zipWith om a b).all id
theorem EW {α : Type} {f : α → α → Bool} {a b : List α} {i : Nat} (h : i < a.length) (h' : i < b.length) (e : f a[i] b[i] = false) : (List.zipWith f a b).all id = false := by
 rw [List.all_eq_false];refine ⟨f a[i] b[i], ?_, by simp [e]⟩;have hl : i < (List.zipWith f a b).length := by rw [List.length_zipWith]; omega
 have : (List.zipWith f a b)[i] = f a[i] b[i] := List.getElem_zipWith;exact this ▸ List.getElem_mem hl
theorem xX {α : Type} {f : α → α → Bool} {a b : List α} (hl : a.length = b.length) (hn : ∀ (j : Nat) x, a[j]? = some x → ∀ y, b[j]? = some y → f x y = true) : (List.zipWith f a b).all id = true := by
 rw [List.all_eq_true];intro x hx;obtain ⟨i, hi, e⟩ := List.mem_iff_getElem.1 hx;have h1 : i < a.length := by rw [List.length_zipWith] at hi; omega
 have h2 : i < b.length := by omega
 rw [List.getElem_zipWith] at e;rw [← e];exact hn i _ (List.getElem?_eq_getElem h1) _ (List.getElem?_eq_getElem h2)
def jN (a b : ai) : Bool := aW a && (aW b && (mI a.rules b.rules && ((a.now == b.now) && ((a.aw == b.aw) && (decide (a.ae = b.ae) && (decide (a.todo = b.todo) && (decide (a.aN = b.aN) && pd a.cabins b.cabins)))))))
def ca (h : ai) (id : Int) : au := (h.ae[(aP h.ae id).toNat]?).getD default
def fv (h : ai) (id : Int) : Bool := aW h && decide (0 ≤ aP h.ae id)
def placeOf (h : ai) (id : Int) : Int := if fv h id = true then dm (aC h (ca h id).cab).row id else -1
def e_ (h : ai) (id : Int) : Bool := fv h id && ((ca h id).st == 2)
def nq (h : ai) (id : Int) : aA := if e_ h id = true then ⟨(ca h id).bW, id⟩ else default
structure D_ (h : ai) (id : Int) (i : Nat) (c : Nat) : Prop where
 lt : i < h.ae.length
 at_ : aP h.ae id = (i : Int)
 az : ca h id = h.ae[i]
 id : h.ae[i].id = id
 ok : bF h.rules h.ae[i] h.now = true
 cab : h.ae[i].cab = (c : Int)
 clt : c < h.cabins.length
 JA : aC h (c : Int) = h.cabins[c]
theorem known {h : ai} {id : Int} (hg : HG h) (hk : 0 ≤ aP h.ae id) : ∃ i c, D_ h id i c := by
 rcases hO (fun p : au => p.id == id) h.ae with ⟨e, _⟩ | ⟨i, hi, e, e1, _⟩
 · have : aP h.ae id = -1 := e;omega
 · have e : aP h.ae id = (i : Int) := e;have ok := (hg.ae.ok _ (List.getElem_mem hi)).1;have JB := ok;simp only [bF, Bool.and_eq_true] at JB;obtain ⟨_, _, _, hc, _⟩ := JB;obtain ⟨c0, c1⟩ := bB hc;have hl := hg.fy;refine ⟨i, h.ae[i].cab.toNat, hi, e, ?_, beq_iff_eq.1 e1, ok, by omega, by omega, ?_⟩
   · rw [ca, e, Int.toNat_natCast, List.getElem?_eq_getElem hi]; rfl
   · rw [aC, Int.toNat_natCast, List.getElem?_eq_getElem (by omega)]; rfl
theorem unknown {h : ai} {id : Int} (hk : aP h.ae id < 0 ∨ aW h = false) : fv h id = false := by
 rcases hk with hk | hk
 · rw [fv, decide_eq_false (by omega)]; simp
 · rw [fv, hk]; rfl
theorem vU {R : bp} {p : au} {now : Int} (h : bF R p now = true) : 0 ≤ p.bW ∧ p.bW ≤ now + 8 := by
 simp only [bF, Bool.and_eq_true, Bool.or_eq_true] at h;obtain ⟨h1, _, _, _, _, _, _, _, _, _, _, hu⟩ := h;have hr := dO h1;have a := hr.rest;have b := hr.ck;rcases hu with ⟨_, hu⟩ | ⟨_, hu⟩
 · have := bB hu; omega
 · have := bB hu; omega
structure ql where
 st : Int
 cab : Int
 lvl : Int
 place : Int
 left : Int
 asked : Int
deriving DecidableEq, Inhabited
def xY (x : Unit → ql) : List Sh := [.int .i64 fun _ => (x ()).st, .int .i64 fun _ => (x ()).cab, .int .i64 fun _ => (x ()).lvl, .int .i64 fun _ => (x ()).place, .int .i64 fun _ => (x ()).left, .int .i64 fun _ => (x ()).asked]
def yl (x : Unit → aA) : List Sh := [.int .i64 fun _ => (x ()).tm, .int .i64 fun _ => (x ()).pid]
def vV (h : ai) (id : Int) (p : au) : ql := ⟨p.st, p.cab, fO h.rules p h.now, placeOf h id, if p.bW - h.now > 0 then p.bW - h.now else 0, p.asked⟩
def kj (h : ai) (id : Int) : ql := if fv h id = true then vV h id (ca h id) else default
theorem Ec (h : ai) (id : Int) (hs : bh h) (x : Int) (hx : x = placeOf h id) : Spec Tryz.prog 33 [dk h, iA id] (aE (iR fun _ => x)) := by
 refine aH ay Tryz.func33 rfl rfl (fr := true) (fun _ => by kernel_rfl) fun P hP hA => ?_;cbv;refine ag.by hP (oP h id (aP h.ae id) rfl) ?_;cbv;refine ag.by hP (f_ h hs (aW h) rfl) ?_;cbv;refine Br.split (fun k0 => ?_) (fun k0 => ?_) <;> cbv
 · have k0 : (!aW h) = true := k0;have k0 : aW h = false := by simpa using k0
   have kn := unknown (id := id) (Or.inr k0);refine ⟨?_, trivial⟩;exact (hx.trans (by rw [placeOf, kn]; rfl)).symm
 have k0 : (!aW h) = false := k0;have k0 : aW h = true := by simpa using k0
 refine Br.dec (fun n0 => ?_) (fun n0 => ?_) <;> cbv
 · have n0 : aP h.ae id < 0 := n0;have kn := unknown (Or.inl n0);refine ⟨?_, trivial⟩;exact (hx.trans (by rw [placeOf, kn]; rfl)).symm
 have n0 : ¬ aP h.ae id < 0 := n0;have hg := cI.1 k0;have kn : fv h id = true := by rw [fv, k0, decide_eq_true (by omega)]; rfl
 obtain ⟨i, c, g⟩ := known hg (by omega : 0 ≤ aP h.ae id);have hi := g.lt;have hc := g.clt;have og : 0 ≤ aP h.ae id := by omega
 have gg : h.ae[(aP h.ae id).toNat]? = some h.ae[i] := by rw [g.at_, Int.toNat_natCast]; exact List.getElem?_eq_getElem hi
 have oc : 0 ≤ h.ae[i].cab := by rw [g.cab]; omega
 have gc : h.cabins[h.ae[i].cab.toNat]? = some h.cabins[c] := by rw [g.cab, Int.toNat_natCast]; exact List.getElem?_eq_getElem hc
 refine ⟨h.ae[i], og, gg, ?_⟩;cbv;refine ⟨h.cabins[c], oc, gc, ?_⟩;cbv;refine ag.by hP (DJ h.cabins[c].row id x (hx.trans (by rw [placeOf, if_pos kn, g.az, g.cab, g.JA]))) ?_;cbv
 repeat' first | exact trivial | refine ⟨rfl, ?_⟩ | fail
theorem EX (h : ai) (id : Int) (hs : bh h) (x : aA) (hx : x = nq h id) (b : Bool) (hb : b = e_ h id) : Spec Tryz.prog 58 [dk h, iA id] (aE (.bc [(true, yl fun _ => x), (false, [.bool fun _ => b])])) := by
 refine aH ay Tryz.func58 rfl rfl (fr := true) (fun _ => by kernel_rfl) fun P hP hA => ?_;cbv;refine ag.by hP (oP h id (aP h.ae id) rfl) ?_;cbv;refine ag.by hP (f_ h hs (aW h) rfl) ?_;cbv;refine Br.split (fun k0 => ?_) (fun k0 => ?_) <;> cbv
 · have k0 : (!aW h) = true := k0;have k0 : aW h = false := by simpa using k0
   have kn := unknown (id := id) (Or.inr k0);have e : e_ h id = false := by rw [e_, kn]; rfl
   obtain rfl : b = false := hb.trans e;obtain rfl : x = default := hx.trans (if_neg (by rw [e]; simp))
   repeat' first | exact trivial | refine ⟨rfl, ?_⟩ | fail
 have k0 : (!aW h) = false := k0;have k0 : aW h = true := by simpa using k0
 refine Br.dec (fun n0 => ?_) (fun n0 => ?_) <;> cbv
 · have n0 : aP h.ae id < 0 := n0;have kn := unknown (Or.inl n0);have e : e_ h id = false := by rw [e_, kn]; rfl
   obtain rfl : b = false := hb.trans e;obtain rfl : x = default := hx.trans (if_neg (by rw [e]; simp))
   repeat' first | exact trivial | refine ⟨rfl, ?_⟩ | fail
 have n0 : ¬ aP h.ae id < 0 := n0;have hg := cI.1 k0;have kn : fv h id = true := by rw [fv, k0, decide_eq_true (by omega)]; rfl
 obtain ⟨i, c, g⟩ := known hg (by omega : 0 ≤ aP h.ae id);have hi := g.lt;have hc := g.clt;have og : 0 ≤ aP h.ae id := by omega
 have gg : h.ae[(aP h.ae id).toNat]? = some h.ae[i] := by rw [g.at_, Int.toNat_natCast]; exact List.getElem?_eq_getElem hi
 have oc : 0 ≤ h.ae[i].cab := by rw [g.cab]; omega
 have gc : h.cabins[h.ae[i].cab.toNat]? = some h.cabins[c] := by rw [g.cab, Int.toNat_natCast]; exact List.getElem?_eq_getElem hc
 refine ⟨h.ae[i], og, gg, ?_⟩;cbv;refine Br.split (fun k1 => ?_) (fun k1 => ?_) <;> cbv
 · have k1 : (h.ae[i].st != 2) = true := k1;have e : e_ h id = false := by rw [e_, kn, g.az]; simpa using k1
   obtain rfl : b = false := hb.trans e;obtain rfl : x = default := hx.trans (if_neg (by rw [e]; simp))
   repeat' first | exact trivial | refine ⟨rfl, ?_⟩ | fail
 have k1 : (h.ae[i].st != 2) = false := k1;have e : e_ h id = true := by rw [e_, kn, g.az]; simpa using k1
 obtain rfl : b = true := hb.trans e;obtain rfl : x = ⟨h.ae[i].bW, id⟩ := hx.trans ((if_pos e).trans (by rw [g.az]));refine ⟨h.ae[i], og, gg, ?_⟩;cbv
 repeat' first | exact trivial | refine ⟨rfl, ?_⟩ | fail
theorem EY (h : ai) (id : Int) (hs : bh h) (x : ql) (hx : x = kj h id) (b : Bool) (hb : b = fv h id) : Spec Tryz.prog 18 [dk h, iA id] (aE (.bc [(true, xY fun _ => x), (false, [.bool fun _ => b])])) := by
 refine aH ay Tryz.func18 rfl rfl (fr := true) (fun _ => by kernel_rfl) fun P hP hA => ?_;cbv;refine ag.by hP (oP h id (aP h.ae id) rfl) ?_;cbv;refine ag.by hP (f_ h hs (aW h) rfl) ?_;cbv;refine Br.split (fun k0 => ?_) (fun k0 => ?_) <;> cbv
 · have k0 : (!aW h) = true := k0;have k0 : aW h = false := by simpa using k0
   have kn := unknown (id := id) (Or.inr k0);obtain rfl : b = false := hb.trans kn;obtain rfl : x = default := hx.trans (if_neg (by rw [kn]; simp))
   repeat' first | exact trivial | refine ⟨rfl, ?_⟩ | fail
 have k0 : (!aW h) = false := k0;have k0 : aW h = true := by simpa using k0
 refine Br.dec (fun n0 => ?_) (fun n0 => ?_) <;> cbv
 · have n0 : aP h.ae id < 0 := n0;have kn := unknown (Or.inl n0);obtain rfl : b = false := hb.trans kn;obtain rfl : x = default := hx.trans (if_neg (by rw [kn]; simp))
   repeat' first | exact trivial | refine ⟨rfl, ?_⟩ | fail
 have n0 : ¬ aP h.ae id < 0 := n0;have hg := cI.1 k0;have kn : fv h id = true := by rw [fv, k0, decide_eq_true (by omega)]; rfl
 obtain ⟨i, c, g⟩ := known hg (by omega : 0 ≤ aP h.ae id);have hi := g.lt;have hc := g.clt;have og : 0 ≤ aP h.ae id := by omega
 have gg : h.ae[(aP h.ae id).toNat]? = some h.ae[i] := by rw [g.at_, Int.toNat_natCast]; exact List.getElem?_eq_getElem hi
 have oc : 0 ≤ h.ae[i].cab := by rw [g.cab]; omega
 have gc : h.cabins[h.ae[i].cab.toNat]? = some h.cabins[c] := by rw [g.cab, Int.toNat_natCast]; exact List.getElem?_eq_getElem hc
 obtain rfl : b = true := hb.trans kn;have hx := hx.trans (if_pos kn);rw [g.az] at hx;obtain ⟨r1, r2⟩ := (iB g.ok).rV;obtain ⟨u0, u1⟩ := vU g.ok;have hx := hx;obtain rfl : x = vV h id h.ae[i] := hx;have lf : (if 0 > h.ae[i].bW - h.now then 0 else h.ae[i].bW - h.now) = (if h.ae[i].bW - h.now > 0 then h.ae[i].bW - h.now else 0) := by split <;> split <;> omega
 refine ⟨h.ae[i], og, gg, ?_⟩;cbv
 repeat' first
   | exact trivial
   | (refine ag.by hP (DB h.rules h.ae[i] h.now hs.1 (fO h.rules h.ae[i] h.now) rfl) ?_; cbv)
   | (refine ag.by hP (Ec h id hs (placeOf h id) rfl) ?_; cbv)
   | (refine Ar.exact (by omega) (by omega) ?_; cbv)
   | (refine ag.by hP (Dz 0 (h.ae[i].bW - h.now)) ?_; cbv)
   | refine ⟨rfl, ?_⟩
   | refine ⟨lf, ?_⟩
   | fail
theorem se (h : ai) (id : Int) (hs : bh h) (x : Int) (hx : x = placeOf h id) : Spec Tryz.prog 32 [dk h, iA id] (aE (iR fun _ => x)) := by
 refine aH ay Tryz.func32 rfl rfl (fr := true) (fun _ => by kernel_rfl) fun P hP hA => ?_;cbv;refine ag.by hP (jC h id (aP h.ae id) rfl) ?_;cbv;refine Br.dec (fun n0 => ?_) (fun n0 => ?_) <;> cbv
 · have n0 : aP h.ae id < 0 := n0;have kn := unknown (Or.inl n0);refine ⟨?_, trivial⟩;exact (hx.trans (by rw [placeOf, kn]; rfl)).symm
 have n0 : ¬ aP h.ae id < 0 := n0;refine ag.by hP (r_ h hs (aW h) rfl) ?_;cbv;refine Br.split (fun k0 => ?_) (fun k0 => ?_) <;> cbv
 · have k0 : (!aW h) = true := k0;have k0 : aW h = false := by simpa using k0
   have kn := unknown (id := id) (Or.inr k0);refine ⟨?_, trivial⟩;exact (hx.trans (by rw [placeOf, kn]; rfl)).symm
 have k0 : (!aW h) = false := k0;have k0 : aW h = true := by simpa using k0
 have hg := cI.1 k0;have kn : fv h id = true := by rw [fv, k0, decide_eq_true (by omega)]; rfl
 obtain ⟨i, c, g⟩ := known hg (by omega : 0 ≤ aP h.ae id);have hi := g.lt;have hc := g.clt;have og : 0 ≤ aP h.ae id := by omega
 have gg : h.ae[(aP h.ae id).toNat]? = some h.ae[i] := by rw [g.at_, Int.toNat_natCast]; exact List.getElem?_eq_getElem hi
 have oc : 0 ≤ h.ae[i].cab := by rw [g.cab]; omega
 have gc : h.cabins[h.ae[i].cab.toNat]? = some h.cabins[c] := by rw [g.cab, Int.toNat_natCast]; exact List.getElem?_eq_getElem hc
 refine ⟨h.ae[i], og, gg, ?_⟩;cbv;refine ⟨h.cabins[c], oc, gc, ?_⟩;cbv;refine ag.by hP (zS h.cabins[c].row id x (hx.trans (by rw [placeOf, if_pos kn, g.az, g.cab, g.JA]))) ?_;cbv
 repeat' first | exact trivial | refine ⟨rfl, ?_⟩ | fail
theorem ym (h : ai) (id : Int) (hs : bh h) (x : aA) (hx : x = nq h id) (b : Bool) (hb : b = e_ h id) : Spec Tryz.prog 19 [dk h, iA id] (aE (.bc [(true, yl fun _ => x), (false, [.bool fun _ => b])])) := by
 refine aH ay Tryz.func19 rfl rfl (fr := true) (fun _ => by kernel_rfl) fun P hP hA => ?_;cbv;refine ag.by hP (jC h id (aP h.ae id) rfl) ?_;cbv;refine Br.dec (fun n0 => ?_) (fun n0 => ?_) <;> cbv
 · have n0 : aP h.ae id < 0 := n0;have kn := unknown (Or.inl n0);have e : e_ h id = false := by rw [e_, kn]; rfl
   obtain rfl : b = false := hb.trans e;obtain rfl : x = default := hx.trans (if_neg (by rw [e]; simp))
   repeat' first | exact trivial | refine ⟨rfl, ?_⟩ | fail
 have n0 : ¬ aP h.ae id < 0 := n0;refine ag.by hP (r_ h hs (aW h) rfl) ?_;cbv;refine Br.split (fun k0 => ?_) (fun k0 => ?_) <;> cbv
 · have k0 : (!aW h) = true := k0;have k0 : aW h = false := by simpa using k0
   have kn := unknown (id := id) (Or.inr k0);have e : e_ h id = false := by rw [e_, kn]; rfl
   obtain rfl : b = false := hb.trans e;obtain rfl : x = default := hx.trans (if_neg (by rw [e]; simp))
   repeat' first | exact trivial | refine ⟨rfl, ?_⟩ | fail
 have k0 : (!aW h) = false := k0;have k0 : aW h = true := by simpa using k0
 have hg := cI.1 k0;have kn : fv h id = true := by rw [fv, k0, decide_eq_true (by omega)]; rfl
 obtain ⟨i, c, g⟩ := known hg (by omega : 0 ≤ aP h.ae id);have hi := g.lt;have hc := g.clt;have og : 0 ≤ aP h.ae id := by omega
 have gg : h.ae[(aP h.ae id).toNat]? = some h.ae[i] := by rw [g.at_, Int.toNat_natCast]; exact List.getElem?_eq_getElem hi
 have oc : 0 ≤ h.ae[i].cab := by rw [g.cab]; omega
 have gc : h.cabins[h.ae[i].cab.toNat]? = some h.cabins[c] := by rw [g.cab, Int.toNat_natCast]; exact List.getElem?_eq_getElem hc
 refine ⟨h.ae[i], og, gg, ?_⟩;cbv;refine Br.split (fun k1 => ?_) (fun k1 => ?_) <;> cbv
 · have k1 : (h.ae[i].st != 2) = true := k1;have e : e_ h id = false := by rw [e_, kn, g.az]; simpa using k1
   obtain rfl : b = false := hb.trans e;obtain rfl : x = default := hx.trans (if_neg (by rw [e]; simp))
   repeat' first | exact trivial | refine ⟨rfl, ?_⟩ | fail
 have k1 : (h.ae[i].st != 2) = false := k1;have e : e_ h id = true := by rw [e_, kn, g.az]; simpa using k1
 obtain rfl : b = true := hb.trans e;obtain rfl : x = ⟨h.ae[i].bW, id⟩ := hx.trans ((if_pos e).trans (by rw [g.az]));refine ⟨h.ae[i], og, gg, ?_⟩;cbv
 repeat' first | exact trivial | refine ⟨rfl, ?_⟩ | fail
theorem EZ (h : ai) (id : Int) (hs : bh h) (x : ql) (hx : x = kj h id) (b : Bool) (hb : b = fv h id) : Spec Tryz.prog 17 [dk h, iA id] (aE (.bc [(true, xY fun _ => x), (false, [.bool fun _ => b])])) := by
 refine aH ay Tryz.func17 rfl rfl (fr := true) (fun _ => by kernel_rfl) fun P hP hA => ?_;cbv;refine ag.by hP (jC h id (aP h.ae id) rfl) ?_;cbv;refine Br.dec (fun n0 => ?_) (fun n0 => ?_) <;> cbv
 · have n0 : aP h.ae id < 0 := n0;have kn := unknown (Or.inl n0);obtain rfl : b = false := hb.trans kn;obtain rfl : x = default := hx.trans (if_neg (by rw [kn]; simp))
   repeat' first | exact trivial | refine ⟨rfl, ?_⟩ | fail
 have n0 : ¬ aP h.ae id < 0 := n0;refine ag.by hP (r_ h hs (aW h) rfl) ?_;cbv;refine Br.split (fun k0 => ?_) (fun k0 => ?_) <;> cbv
 · have k0 : (!aW h) = true := k0;have k0 : aW h = false := by simpa using k0
   have kn := unknown (id := id) (Or.inr k0);obtain rfl : b = false := hb.trans kn;obtain rfl : x = default := hx.trans (if_neg (by rw [kn]; simp))
   repeat' first | exact trivial | refine ⟨rfl, ?_⟩ | fail
 have k0 : (!aW h) = false := k0;have k0 : aW h = true := by simpa using k0
 have hg := cI.1 k0;have kn : fv h id = true := by rw [fv, k0, decide_eq_true (by omega)]; rfl
 obtain ⟨i, c, g⟩ := known hg (by omega : 0 ≤ aP h.ae id);have hi := g.lt;have hc := g.clt;have og : 0 ≤ aP h.ae id := by omega
 have gg : h.ae[(aP h.ae id).toNat]? = some h.ae[i] := by rw [g.at_, Int.toNat_natCast]; exact List.getElem?_eq_getElem hi
 have oc : 0 ≤ h.ae[i].cab := by rw [g.cab]; omega
 have gc : h.cabins[h.ae[i].cab.toNat]? = some h.cabins[c] := by rw [g.cab, Int.toNat_natCast]; exact List.getElem?_eq_getElem hc
 obtain rfl : b = true := hb.trans kn;have hx := hx.trans (if_pos kn);rw [g.az] at hx;obtain ⟨r1, r2⟩ := (iB g.ok).rV;obtain ⟨u0, u1⟩ := vU g.ok;have hx := hx;obtain rfl : x = vV h id h.ae[i] := hx;have lf : (if 0 > h.ae[i].bW - h.now then 0 else h.ae[i].bW - h.now) = (if h.ae[i].bW - h.now > 0 then h.ae[i].bW - h.now else 0) := by split <;> split <;> omega
 refine ⟨h.ae[i], og, gg, ?_⟩;cbv
 repeat' first
   | exact trivial
   | (refine ag.by hP (DC h.rules h.ae[i] h.now hs.1 (fO h.rules h.ae[i] h.now) rfl) ?_; cbv)
   | (refine ag.by hP (se h id hs (placeOf h id) rfl) ?_; cbv)
   | (refine Ar.exact (by omega) (by omega) ?_; cbv)
   | refine ⟨rfl, ?_⟩
   | refine ⟨lf, ?_⟩
   | fail
end Go.Proofs.YtehpbaiclfilaaaGreat

