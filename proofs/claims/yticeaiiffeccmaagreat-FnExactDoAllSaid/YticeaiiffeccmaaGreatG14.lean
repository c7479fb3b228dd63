/- Parts of a proof. No conditions. -/

import Derived.Test.YticeaiiffeccmaaGreatG13
set_option linter.unusedSimpArgs false
set_option linter.unusedVariables false
namespace Go.Proofs.YticeaiiffeccmaaGreat
open Go
set_option maxRecDepth 100000
def aA (h : an) (k : Int) : bd := (h.cabins[k.toNat]?).getD default
def cL (h : an) (k : Int) : Bool := dG h && aq k 0 ((h.cabins.length : Int) - 1)
def gd (c : bd) : Int := c.aj.bn - c.aj.tied
theorem yn {h : an} {k : Int} (hk : aq k 0 ((h.cabins.length : Int) - 1) = true) : ∃ i : Nat, ∃ hi : i < h.cabins.length, k = (i : Int) ∧ aA h (i : Int) = h.cabins[i] := by
 obtain ⟨h0, h1⟩ := bO hk;refine ⟨k.toNat, by omega, by omega, ?_⟩;rw [aA, Int.toNat_natCast, List.getElem?_eq_getElem (by omega)]; rfl
structure On (x : bA) : Prop where
 total : 1 ≤ x.total ∧ x.total ≤ 60
 free : 0 ≤ x.free ∧ x.free ≤ x.total
 held : 0 ≤ x.held ∧ x.held ≤ x.total
 bn : 0 ≤ x.bn ∧ x.bn ≤ x.total
 sum : x.free + x.held + x.bn = x.total
 tied : 0 ≤ x.tied ∧ x.tied ≤ x.bn
theorem o7 {x : bA} (h : a_ x = true) : On x := by
 simp only [a_, Bool.and_eq_true, decide_eq_true_eq] at h;obtain ⟨a, b, c, d, e, f⟩ := h;exact ⟨bO a, bO b, bO c, bO d, e, bO f⟩
structure Oo (h : an) (k : Nat) (c : bd) : Prop where
 total : c.aj.total = h.rules.aj.getD k 0
 me : a_ c.aj = true
 q : dI c.row = true
 w : bz c.spoke = true
 dq : ((af (bU (k : Int)) h.ae : Nat) : Int) ≤ h.rules.room
 row : c.row = fH h.rules h.ae (k : Int) h.now
 pins : bL c.spoke = gO h.ae (k : Int)
 held : c.aj.held = ((af (cz (k : Int)) h.ae : Nat) : Int)
 tied : c.aj.tied = ((af (cF (k : Int)) h.ae : Nat) : Int)
theorem HG.at_ {h : an} (hg : HG h) {k : Nat} (hk : k < h.cabins.length) : Oo h k h.cabins[k] := by
 have hc := hg.ah k _ (List.getElem?_eq_getElem hk);simp only [iq, fI, kG, Bool.and_eq_true, decide_eq_true_eq, beq_iff_eq] at hc;obtain ⟨a, b, ⟨c, d, e⟩, f, g, i, j⟩ := hc;exact ⟨a, c, d, e, b, f, g, i, j⟩
theorem Ha (h : an) (k : Int) (hk : cL h k = true) (x : Int) (hx : x = gd (aA h k)) : Spec Tryz.prog 136 [cw h, iA k] (aE (iR fun _ => x)) := by
 refine ay au Tryz.func136 rfl rfl (fr := true) (fun _ => by kernel_rfl) fun P hP hA => ?_;have hk := Bool.and_eq_true_iff.1 hk;obtain ⟨i, hi, rfl, e⟩ := yn hk.2;have hl := o7 ((gP.1 hk.1).at_ hi).me;obtain ⟨t0, t1⟩ := hl.total;obtain ⟨s0, s1⟩ := hl.bn;obtain ⟨u0, u1⟩ := hl.tied;cbv;refine ⟨h.cabins[i], by simp, get_cast h.cabins hi, ?_⟩;cbv;refine ⟨h.cabins[i], by simp, get_cast h.cabins hi, ?_⟩;cbv;refine Ar.exact (by (try simp only [nc] at *); omega) (by (try simp only [nc] at *); omega) ?_;cbv;refine ⟨?_, trivial⟩;exact (hx.trans (by rw [e]; rfl)).symm
theorem Hb (h : an) (k : Int) (hk : cL h k = true) (x : Int) (hx : x = gd (aA h k)) : Spec Tryz.prog 143 [cw h, iA k] (aE (iR fun _ => x)) := by
 refine ay au Tryz.func143 rfl rfl (fr := true) (fun _ => by kernel_rfl) fun P hP hA => ?_;have hk := Bool.and_eq_true_iff.1 hk;obtain ⟨i, hi, rfl, e⟩ := yn hk.2;have hl := o7 ((gP.1 hk.1).at_ hi).me;obtain ⟨t0, t1⟩ := hl.total;obtain ⟨s0, s1⟩ := hl.bn;obtain ⟨u0, u1⟩ := hl.tied;cbv;refine ⟨h.cabins[i], by simp, get_cast h.cabins hi, ?_⟩;cbv;refine ⟨h.cabins[i], by simp, get_cast h.cabins hi, ?_⟩;cbv;refine Ar.exact (by (try simp only [nc] at *); omega) (by (try simp only [nc] at *); omega) ?_;cbv;refine ⟨?_, trivial⟩;exact (hx.trans (by rw [e]; rfl)).symm
end Go.Proofs.YticeaiiffeccmaaGreat
namespace Go.Proofs.YticeaiiffeccmaaGreat
open Go
set_option maxRecDepth 100000
def fp (h : an) (id : Int) : aw := (h.ae[(bw h.ae id).toNat]?).getD default
structure BK (h : an) (id : Int) (i : Nat) (c : Nat) : Prop where
 lt : i < h.ae.length
 at_ : bw h.ae id = (i : Int)
 aG : fp h id = h.ae[i]
 id : h.ae[i].id = id
 ok : bD h.rules h.ae[i] h.now = true
 ah : h.ae[i].ah = (c : Int)
 clt : c < h.cabins.length
 Rz : aA h (c : Int) = h.cabins[c]
theorem known {h : an} {id : Int} (hg : HG h) (hk : 0 ≤ bw h.ae id) : ∃ i c, BK h id i c := by
 rcases im (fun p : aw => p.id == id) h.ae with ⟨e, _⟩ | ⟨i, hi, e, e1, _⟩
 · have : bw h.ae id = -1 := e;omega
 · have e : bw h.ae id = (i : Int) := e;have ok := (hg.ae.ok _ (List.getElem_mem hi)).1;have Hc := ok;simp only [bD, Bool.and_eq_true] at Hc;obtain ⟨_, _, _, hc, _⟩ := Hc;obtain ⟨c0, c1⟩ := bO hc;have hl := hg.kI;refine ⟨i, h.ae[i].ah.toNat, hi, e, ?_, beq_iff_eq.1 e1, ok, by omega, by omega, ?_⟩
   · rw [fp, e, Int.toNat_natCast, List.getElem?_eq_getElem hi]; rfl
   · rw [aA, Int.toNat_natCast, List.getElem?_eq_getElem (by omega)]; rfl
end Go.Proofs.YticeaiiffeccmaaGreat

