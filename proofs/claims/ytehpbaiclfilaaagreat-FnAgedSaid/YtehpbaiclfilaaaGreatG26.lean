/- Parts of a proof. No conditions. -/

import Derived.Test.YtehpbaiclfilaaaGreatG25
import Derived.Test.YtehpbaiclfilaaaGreatG22
set_option linter.unusedSimpArgs false
set_option linter.unusedVariables false
namespace Go.Proofs.YtehpbaiclfilaaaGreat
open Go
set_option maxRecDepth 100000
theorem gx {K G : Prop} (f : K → G) (k : K) : G := f k
theorem yc {h : ai} {k : Int} {c1 c2 : a_} : (bI h k c1).cabins.set k.toNat c2 = (bI h k c2).cabins := List.set_set ..
theorem ua {h : ai} {k : Int} {c : a_} (hk : 0 ≤ k ∧ k < (h.cabins.length : Int)) : aC (bI h k c) k = c := by
 show ((h.cabins.set k.toNat c)[k.toNat]?).getD default = c;rw [List.getElem?_set, if_pos rfl, if_pos (by omega)]; rfl
theorem AN {h : ai} {p : au} (q : p.al ≠ -1) : dw h p = bI { h with ae := fo h.ae p.id } p.al (kL (aC h p.al) p.siz) := if_neg q
theorem AO {h : ai} {p : au} (q : p.al = -1) : dw h p = { h with ae := fo h.ae p.id } := if_pos q
theorem yd {h : ai} {p : au} (hf : p.al = -1 ∨ ∃ f, tW h p f) (q : p.al ≠ -1) : 0 ≤ p.al ∧ p.al < (h.cabins.length : Int) := by
 obtain ⟨f, e, l⟩ := hf.resolve_left q;omega
theorem AP {h : ai} {k j : Int} {c : a_} (q : 0 ≤ k ∧ k < (h.cabins.length : Int)) : 0 ≤ k ∧ k < ((bI h j c).cabins.length : Int) := by rw [jK]; exact q
def ye (c : a_) (n : Int) : a_ := { c with ah := bz c.ah n 0 0 0 1 }
def nD (h : ai) (p : au) : ai := if p.al = -1 then h else bI h p.al (ye (aC h p.al) p.siz)
def pc (h : ai) (p : au) : ai := { h with aw := h.aw + 1, ae := fT h.ae p }
def iK (h : ai) (p : au) : ai := EL (pc h p) p
def cZ (h : ai) (p : au) : ai := { nD (iK h p) p with todo := fG h.todo p.cf }
structure gd (h : ai) (p : au) (k : Nat) (c : a_) : Prop where
 hg : HG h
 hk : h.cabins[k]? = some c
 cf : p.cf = (k : Int)
 ok : bF h.rules p h.now = true
 new : aP h.ae p.id < 0
 aw : p.aw = h.aw
 K9 : 1 ≤ h.aw ∧ h.aw ≤ 1000000
 st : p.st = 1
 room : ja h (k : Int) < h.rules.room
 loose : p.al ≠ -1 → p.siz ≤ fS (aC h p.al)
section
variable {h : ai} {p : au} {k : Nat} {c : a_}
theorem gd.sJ (o : gd h p k c) : 0 ≤ p.cf ∧ p.cf < (h.cabins.length : Int) := by
 have := bq o.hk;have := o.cf;omega
theorem gd.al (o : gd h p k c) : p.al = -1 ∨ ∃ f, tW h p f := by
 have h1 := (gb o.ok).al;have h2 := o.hg.fy
 by_cases q : p.al = -1
 · exact .inl q
 · exact .inr ⟨p.al.toNat, by omega, by omega⟩
theorem gd.jL (o : gd h p k c) : aC h p.cf = c := by rw [o.cf]; exact iI o.hk
theorem gd.none (o : gd h p k c) {z : au} (hz : z ∈ h.ae) : z.id ≠ p.id ∧ z.aw ≠ p.aw := by
 refine ⟨fun e => ?_, fun e => ?_⟩
 · obtain ⟨i, hi, e1, _⟩ := sI (iG o.hg.ae) hz;have := o.new;rw [← e, e1] at this;omega
 · have := (o.hg.ae.ok z hz).2;rw [e, o.aw] at this;omega
theorem gd.EO (o : gd h p k c) : sy c.row (cn h.rules p h.now) = bG aY (cn h.rules p h.now) c.row := by
 have r := sB o.hg o.hk;have e := sA o.ok o.st;have h3 := r.bT;have h4 := o.room;have h5 := (dO o.hg.rules).room;have h6 : ja h (k : Int) = ((aV (bx (k : Int)) h.ae : Nat) : Int) := rfl;refine Ky r.pre (by omega) (Ev o.ok o.st) (fun y hy => ?_) (fun y hy => ?_)
 · obtain ⟨z, hz, _, _, e1, _⟩ := r.of y hy;rw [e, e1]; exact (o.none hz).1
 · obtain ⟨z, hz, _, _, _, e1⟩ := r.of y hy;rw [e, e1]; exact (o.none hz).2
end
end Go.Proofs.YtehpbaiclfilaaaGreat

