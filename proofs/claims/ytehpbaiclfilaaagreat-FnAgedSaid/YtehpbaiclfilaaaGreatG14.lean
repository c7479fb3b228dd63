/- Parts of a proof. No conditions. -/

import Derived.Test.YtehpbaiclfilaaaGreatG13
set_option linter.unusedSimpArgs false
set_option linter.unusedVariables false
namespace Go.Proofs.YtehpbaiclfilaaaGreat
open Go
set_option maxRecDepth 100000
def aC (h : ai) (k : Int) : a_ := (h.cabins[k.toNat]?).getD default
def cC (h : ai) (k : Int) : Bool := aW h && aj k 0 ((h.cabins.length : Int) - 1)
def fS (c : a_) : Int := c.ah.aU - c.ah.tied
theorem xD {h : ai} {k : Int} (hk : aj k 0 ((h.cabins.length : Int) - 1) = true) : ∃ i : Nat, ∃ hi : i < h.cabins.length, k = (i : Int) ∧ aC h (i : Int) = h.cabins[i] := by
 obtain ⟨h0, h1⟩ := bB hk;refine ⟨k.toNat, by omega, by omega, ?_⟩;rw [aC, Int.toNat_natCast, List.getElem?_eq_getElem (by omega)]; rfl
structure Qx (x : bA) : Prop where
 total : 1 ≤ x.total ∧ x.total ≤ 60
 free : 0 ≤ x.free ∧ x.free ≤ x.total
 held : 0 ≤ x.held ∧ x.held ≤ x.total
 aU : 0 ≤ x.aU ∧ x.aU ≤ x.total
 sum : x.free + x.held + x.aU = x.total
 tied : 0 ≤ x.tied ∧ x.tied ≤ x.aU
theorem sd {x : bA} (h : aZ x = true) : Qx x := by
 simp only [aZ, Bool.and_eq_true, decide_eq_true_eq] at h;obtain ⟨a, b, c, d, e, f⟩ := h;exact ⟨bB a, bB b, bB c, bB d, e, bB f⟩
structure Qy (h : ai) (k : Nat) (c : a_) : Prop where
 total : c.ah.total = h.rules.ah.getD k 0
 eD : aZ c.ah = true
 q : dJ c.row = true
 w : br c.spoke = true
 dn : ((aV (bx (k : Int)) h.ae : Nat) : Int) ≤ h.rules.room
 row : c.row = cH h.rules h.ae (k : Int) h.now
 pins : bC c.spoke = gF h.ae (k : Int)
 held : c.ah.held = ((aV (cp (k : Int)) h.ae : Nat) : Int)
 tied : c.ah.tied = ((aV (cz (k : Int)) h.ae : Nat) : Int)
theorem HG.at_ {h : ai} (hg : HG h) {k : Nat} (hk : k < h.cabins.length) : Qy h k h.cabins[k] := by
 have hc := hg.cf k _ (List.getElem?_eq_getElem hk);simp only [iC, fQ, im, Bool.and_eq_true, decide_eq_true_eq, beq_iff_eq] at hc;obtain ⟨a, b, ⟨c, d, e⟩, f, g, i, j⟩ := hc;exact ⟨a, c, d, e, b, f, g, i, j⟩
theorem D8 (h : ai) (k : Int) (hk : cC h k = true) (x : Int) (hx : x = fS (aC h k)) : Spec Tryz.prog 85 [dk h, iA k] (aE (iR fun _ => x)) := by
 refine aH ay Tryz.func85 rfl rfl (fr := true) (fun _ => by kernel_rfl) fun P hP hA => ?_;have hk := Bool.and_eq_true_iff.1 hk;obtain ⟨i, hi, rfl, e⟩ := xD hk.2;have hl := sd ((cI.1 hk.1).at_ hi).eD;obtain ⟨t0, t1⟩ := hl.total;obtain ⟨s0, s1⟩ := hl.aU;obtain ⟨u0, u1⟩ := hl.tied;cbv;refine ⟨h.cabins[i], by simp, get_cast h.cabins hi, ?_⟩;cbv;refine ⟨h.cabins[i], by simp, get_cast h.cabins hi, ?_⟩;cbv;refine Ar.exact (by (try simp only [nc] at *); omega) (by (try simp only [nc] at *); omega) ?_;cbv;refine ⟨?_, trivial⟩;exact (hx.trans (by rw [e]; rfl)).symm
theorem D9 (h : ai) (k : Int) (hk : cC h k = true) (x : Int) (hx : x = fS (aC h k)) : Spec Tryz.prog 68 [dk h, iA k] (aE (iR fun _ => x)) := by
 refine aH ay Tryz.func68 rfl rfl (fr := true) (fun _ => by kernel_rfl) fun P hP hA => ?_;have hk := Bool.and_eq_true_iff.1 hk;obtain ⟨i, hi, rfl, e⟩ := xD hk.2;have hl := sd ((cI.1 hk.1).at_ hi).eD;obtain ⟨t0, t1⟩ := hl.total;obtain ⟨s0, s1⟩ := hl.aU;obtain ⟨u0, u1⟩ := hl.tied;cbv;refine ⟨h.cabins[i], by simp, get_cast h.cabins hi, ?_⟩;cbv;refine ⟨h.cabins[i], by simp, get_cast h.cabins hi, ?_⟩;cbv;refine Ar.exact (by (try simp only [nc] at *); omega) (by (try simp only [nc] at *); omega) ?_;cbv;refine ⟨?_, trivial⟩;exact (hx.trans (by rw [e]; rfl)).symm
end Go.Proofs.YtehpbaiclfilaaaGreat
namespace Go.Proofs.YtehpbaiclfilaaaGreat
open Go
set_option maxRecDepth 100000
def ca (h : ai) (id : Int) : au := (h.ae[(aP h.ae id).toNat]?).getD default
def fv (h : ai) (id : Int) : Bool := aW h && decide (0 ≤ aP h.ae id)
def placeOf (h : ai) (id : Int) : Int := if fv h id = true then dm (aC h (ca h id).cf).row id else -1
structure D_ (h : ai) (id : Int) (i : Nat) (c : Nat) : Prop where
 lt : i < h.ae.length
 at_ : aP h.ae id = (i : Int)
 az : ca h id = h.ae[i]
 id : h.ae[i].id = id
 ok : bF h.rules h.ae[i] h.now = true
 cf : h.ae[i].cf = (c : Int)
 pj : c < h.cabins.length
 JA : aC h (c : Int) = h.cabins[c]
theorem known {h : ai} {id : Int} (hg : HG h) (hk : 0 ≤ aP h.ae id) : ∃ i c, D_ h id i c := by
 rcases hO (fun p : au => p.id == id) h.ae with ⟨e, _⟩ | ⟨i, hi, e, e1, _⟩
 · have : aP h.ae id = -1 := e;omega
 · have e : aP h.ae id = (i : Int) := e;have ok := (hg.ae.ok _ (List.getElem_mem hi)).1;have JB := ok;simp only [bF, Bool.and_eq_true] at JB;obtain ⟨_, _, _, hc, _⟩ := JB;obtain ⟨c0, c1⟩ := bB hc;have hl := hg.fy;refine ⟨i, h.ae[i].cf.toNat, hi, e, ?_, beq_iff_eq.1 e1, ok, by omega, by omega, ?_⟩
   · rw [ca, e, Int.toNat_natCast, List.getElem?_eq_getElem hi]; rfl
   · rw [aC, Int.toNat_natCast, List.getElem?_eq_getElem (by omega)]; rfl
theorem unknown {h : ai} {id : Int} (hk : aP h.ae id < 0 ∨ aW h = false) : fv h id = false := by
 rcases hk with hk | hk
 · rw [fv, decide_eq_false (by omega)]; simp
 · rw [fv, hk]; rfl
theorem Ec (h : ai) (id : Int) (hs : bh h) (x : Int) (hx : x = placeOf h id) : Spec Tryz.prog 33 [dk h, iA id] (aE (iR fun _ => x)) := by
 refine aH ay Tryz.func33 rfl rfl (fr := true) (fun _ => by kernel_rfl) fun P hP hA => ?_;cbv;refine ag.by hP (oP h id (aP h.ae id) rfl) ?_;cbv;refine ag.by hP (f_ h hs (aW h) rfl) ?_;cbv;refine Br.split (fun k0 => ?_) (fun k0 => ?_) <;> cbv
 · have k0 : (!aW h) = true := k0;have k0 : aW h = false := by simpa using k0
   have kn := unknown (id := id) (Or.inr k0);refine ⟨?_, trivial⟩;exact (hx.trans (by rw [placeOf, kn]; rfl)).symm
 have k0 : (!aW h) = false := k0;have k0 : aW h = true := by simpa using k0
 refine Br.dec (fun n0 => ?_) (fun n0 => ?_) <;> cbv
 · have n0 : aP h.ae id < 0 := n0;have kn := unknown (Or.inl n0);refine ⟨?_, trivial⟩;exact (hx.trans (by rw [placeOf, kn]; rfl)).symm
 have n0 : ¬ aP h.ae id < 0 := n0;have hg := cI.1 k0;have kn : fv h id = true := by rw [fv, k0, decide_eq_true (by omega)]; rfl
 obtain ⟨i, c, g⟩ := known hg (by omega : 0 ≤ aP h.ae id);have hi := g.lt;have hc := g.pj;have og : 0 ≤ aP h.ae id := by omega
 have gg : h.ae[(aP h.ae id).toNat]? = some h.ae[i] := by rw [g.at_, Int.toNat_natCast]; exact List.getElem?_eq_getElem hi
 have oc : 0 ≤ h.ae[i].cf := by rw [g.cf]; omega
 have gc : h.cabins[h.ae[i].cf.toNat]? = some h.cabins[c] := by rw [g.cf, Int.toNat_natCast]; exact List.getElem?_eq_getElem hc
 refine ⟨h.ae[i], og, gg, ?_⟩;cbv;refine ⟨h.cabins[c], oc, gc, ?_⟩;cbv;refine ag.by hP (DJ h.cabins[c].row id x (hx.trans (by rw [placeOf, if_pos kn, g.az, g.cf, g.JA]))) ?_;cbv
 repeat' first | exact trivial | refine ⟨rfl, ?_⟩ | fail
theorem se (h : ai) (id : Int) (hs : bh h) (x : Int) (hx : x = placeOf h id) : Spec Tryz.prog 32 [dk h, iA id] (aE (iR fun _ => x)) := by
 refine aH ay Tryz.func32 rfl rfl (fr := true) (fun _ => by kernel_rfl) fun P hP hA => ?_;cbv;refine ag.by hP (jC h id (aP h.ae id) rfl) ?_;cbv;refine Br.dec (fun n0 => ?_) (fun n0 => ?_) <;> cbv
 · have n0 : aP h.ae id < 0 := n0;have kn := unknown (Or.inl n0);refine ⟨?_, trivial⟩;exact (hx.trans (by rw [placeOf, kn]; rfl)).symm
 have n0 : ¬ aP h.ae id < 0 := n0;refine ag.by hP (r_ h hs (aW h) rfl) ?_;cbv;refine Br.split (fun k0 => ?_) (fun k0 => ?_) <;> cbv
 · have k0 : (!aW h) = true := k0;have k0 : aW h = false := by simpa using k0
   have kn := unknown (id := id) (Or.inr k0);refine ⟨?_, trivial⟩;exact (hx.trans (by rw [placeOf, kn]; rfl)).symm
 have k0 : (!aW h) = false := k0;have k0 : aW h = true := by simpa using k0
 have hg := cI.1 k0;have kn : fv h id = true := by rw [fv, k0, decide_eq_true (by omega)]; rfl
 obtain ⟨i, c, g⟩ := known hg (by omega : 0 ≤ aP h.ae id);have hi := g.lt;have hc := g.pj;have og : 0 ≤ aP h.ae id := by omega
 have gg : h.ae[(aP h.ae id).toNat]? = some h.ae[i] := by rw [g.at_, Int.toNat_natCast]; exact List.getElem?_eq_getElem hi
 have oc : 0 ≤ h.ae[i].cf := by rw [g.cf]; omega
 have gc : h.cabins[h.ae[i].cf.toNat]? = some h.cabins[c] := by rw [g.cf, Int.toNat_natCast]; exact List.getElem?_eq_getElem hc
 refine ⟨h.ae[i], og, gg, ?_⟩;cbv;refine ⟨h.cabins[c], oc, gc, ?_⟩;cbv;refine ag.by hP (zS h.cabins[c].row id x (hx.trans (by rw [placeOf, if_pos kn, g.az, g.cf, g.JA]))) ?_;cbv
 repeat' first | exact trivial | refine ⟨rfl, ?_⟩ | fail
end Go.Proofs.YtehpbaiclfilaaaGreat

