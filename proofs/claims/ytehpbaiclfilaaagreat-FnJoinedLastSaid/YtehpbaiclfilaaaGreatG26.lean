/- Parts of a proof. No conditions. -/

import Derived.Test.YtehpbaiclfilaaaGreatG25
import Derived.Test.YtehpbaiclfilaaaGreatG22
set_option linter.unusedSimpArgs false
set_option linter.unusedVariables false
namespace Go.Proofs.YtehpbaiclfilaaaGreat
open Go
set_option maxRecDepth 100000
theorem gx {K G : Prop} (f : K → G) (k : K) : G := f k
theorem yc {h : ai} {k : Int} {c1 c2 : a_} : (bI h k c1).cabins.set k.toNat c2 = (bI h k c2).cabins := List.set_set ..
theorem ua {h : ai} {k : Int} {c : a_} (hk : 0 ≤ k ∧ k < (h.cabins.length : Int)) : aC (bI h k c) k = c := by
 show ((h.cabins.set k.toNat c)[k.toNat]?).getD default = c;rw [List.getElem?_set, if_pos rfl, if_pos (by omega)]; rfl
theorem AN {h : ai} {p : au} (q : p.al ≠ -1) : dw h p = bI { h with ae := fo h.ae p.id } p.al (kL (aC h p.al) p.siz) := if_neg q
theorem AO {h : ai} {p : au} (q : p.al = -1) : dw h p = { h with ae := fo h.ae p.id } := if_pos q
def mK (id : Int) : dL := ⟨2, id, 0, 0, 0, 0⟩
def w3 (c : a_) (id : Int) : a_ := { c with row := jq c.row id }
def mH (h : ai) (p : au) : ai := bI h p.cab (w3 (aC h p.cab) p.id)
def nG (h : ai) (p : au) : ai := { dv h p with todo := fG h.todo p.cab }
def pf (h : ai) (p : au) : ai := dw (if p.st = 2 then nG h p else mH h p) p
def j_ (h : ai) (id : Int) : ai := if bM h (mK id) = 0 then pf h (ca h id) else h
theorem Ac {h : ai} {id : Int} (hv : bM h (mK id) = 0) : ∃ i k p c, bJ h i k p c ∧ p.id = id ∧ ca h id = p := by
 obtain ⟨h0, h1, h2⟩ := tZ hv;have hg := cI.1 h0;rw [Ax h0 h2 rfl] at hv
 have hk : 0 ≤ aP h.ae id := by
  have : ¬ aP h.ae (mK id).id < 0 := fun q => by rw [if_pos q] at hv; cases hv
  have e : (mK id).id = id := rfl;rw [e] at this;omega
 obtain ⟨i, k, kn⟩ := known hg hk;exact ⟨i, k, _, _, kn.z_ hg, kn.id, kn.az⟩
theorem nE {h : ai} {q : dL} (k : q.kind = 4 ∨ q.kind = 5) (hv : bM h q = 0) : ∃ i k p c, bJ h i k p c ∧ p.id = q.id ∧ ca h q.id = p ∧ p.st = 2 := by
 obtain ⟨h0, h1, h2⟩ := tZ hv;have hg := cI.1 h0;rw [tS h0 h2 k, tQ] at hv
 have hk : 0 ≤ aP h.ae q.id := by
  have : ¬ aP h.ae q.id < 0 := fun q => by rw [if_pos q] at hv; cases hv
  omega
 rw [if_neg (by omega)] at hv
 have hs : (ca h q.id).st = 2 := by
  by_cases e : (ca h q.id).st = 2
  · exact e
  · rw [if_pos e] at hv; cases hv
 obtain ⟨i, k, kn⟩ := known hg hk;exact ⟨i, k, _, _, kn.z_ hg, kn.id, kn.az, by rw [← kn.az]; exact hs⟩
def fJ (id : Int) : dL := ⟨4, id, 0, 0, 0, 0⟩
def w4 (c : a_) (p : au) : a_ := { c with ah := bz c.ah p.siz 0 (-1) 1 0, spoke := i_ c.spoke (eP p) }
def dS (h : ai) (p : au) : ai := bI h p.cab (w4 (aC h p.cab) p)
def mG (h : ai) (p : au) : ai := if p.al = -1 then dw (dS h p) p else t_ (dw (dS h p) p) p.al p.siz
def lU (h : ai) (id : Int) : ai := if bM h (fJ id) = 0 then mG h (ca h id) else h
def ir (id : Int) : dL := ⟨5, id, 0, 0, 0, 0⟩
def nH (h : ai) (p : au) : ai := { dK h p with todo := fG (dK h p).todo p.cab }
def oF (h : ai) (id : Int) : ai := if bM h (ir id) = 0 then nH h (ca h id) else h
theorem yd {h : ai} {p : au} (hf : p.al = -1 ∨ ∃ f, tW h p f) (q : p.al ≠ -1) : 0 ≤ p.al ∧ p.al < (h.cabins.length : Int) := by
 obtain ⟨f, e, l⟩ := hf.resolve_left q;omega
theorem AP {h : ai} {k j : Int} {c : a_} (q : 0 ≤ k ∧ k < (h.cabins.length : Int)) : 0 ≤ k ∧ k < ((bI h j c).cabins.length : Int) := by rw [jK]; exact q
def kM (id cab al siz aK : Int) : dL := ⟨1, id, cab, al, siz, aK⟩
def fb (h : ai) (id cab al siz aK : Int) : au := ⟨id, cab, al, siz, aK, h.now, h.aw, 1, 0, 0⟩
def ye (c : a_) (n : Int) : a_ := { c with ah := bz c.ah n 0 0 0 1 }
def nD (h : ai) (p : au) : ai := if p.al = -1 then h else bI h p.al (ye (aC h p.al) p.siz)
def pc (h : ai) (p : au) : ai := { h with aw := h.aw + 1, ae := fT h.ae p }
def iK (h : ai) (p : au) : ai := EL (pc h p) p
def cZ (h : ai) (p : au) : ai := { nD (iK h p) p with todo := fG h.todo p.cab }
def oU (h : ai) (id cab al siz aK : Int) : ai := if bM h (kM id cab al siz aK) = 0 then cZ h (fb h id cab al siz aK) else h
structure gd (h : ai) (p : au) (k : Nat) (c : a_) : Prop where
 hg : HG h
 hk : h.cabins[k]? = some c
 cab : p.cab = (k : Int)
 ok : bF h.rules p h.now = true
 new : aP h.ae p.id < 0
 aw : p.aw = h.aw
 K9 : 1 ≤ h.aw ∧ h.aw ≤ 1000000
 st : p.st = 1
 room : ja h (k : Int) < h.rules.room
 loose : p.al ≠ -1 → p.siz ≤ fS (aC h p.al)
theorem tY {h : ai} {id cab al siz aK : Int} (hv : bM h (kM id cab al siz aK) = 0) : ∃ k c, gd h (fb h id cab al siz aK) k c := by
 obtain ⟨h0, h1, h2⟩ := tZ hv;have hg := cI.1 h0;have jr := Ez h2 rfl;rw [EA h0 h2 rfl, xV] at hv
 have no : ∀ {P : Prop} [Decidable P] {a : Int} {b : Int}, a ≠ 0 → (if P then a else b) = 0 → ¬ P ∧ b = 0 := fun {P} _ {a} {b} ha q => by
   by_cases e : P
   · rw [if_pos e] at q; exact (ha q).elim
   · rw [if_neg e] at q; exact ⟨e, q⟩
 obtain ⟨a1, hv⟩ := no (by decide) hv;obtain ⟨a2, hv⟩ := no (by decide) hv;obtain ⟨a3, hv⟩ := no (by decide) hv;obtain ⟨a4, hv⟩ := no (by decide) hv;obtain ⟨a5, hv⟩ := no (by decide) hv;obtain ⟨a6, hv⟩ := no (by decide) hv;obtain ⟨a7, hv⟩ := no (by decide) hv;obtain ⟨a8, hv⟩ := no (by decide) hv;obtain ⟨a9, hv⟩ := no (by decide) hv;obtain ⟨oL, _⟩ := no (by decide) hv;have tt : ∀ {b : Bool}, ¬ b = false → b = true := fun {b} h => by cases b <;> simp_all
 have b1 : jt h cab = true := tt a1;have b1 := bB b1;have b2 : aj al (-1) ((h.cabins.length : Int) - 1) = true := tt a2;have b2 := bB b2;have b3 : al ≠ cab := a3;have b4 : aj siz 1 h.rules.size = true := tt a4;have b5 : ¬ aK ≥ h.rules.cm := a5;have b6 : aj id 1 999 = true := tt a6;have b7 : ¬ aP h.ae id ≥ 0 := a7;have b8 : ¬ ja h cab ≥ h.rules.room := a8;have b9 : ¬ (al ≠ -1 ∧ fS (aC h al) < siz) := a9;have QO : ¬ h.aw > 1000000 := oL;have t0 : 0 ≤ aK := jr.aK.1;have ht := bB hg.aw;have hn := bB hg.now;have hr := dO hg.rules;have q1 := hr.tries;have q2 := hr.rest;have hc := hg.fy;obtain ⟨k, rfl⟩ : ∃ k : Nat, cab = (k : Int) := ⟨cab.toNat, by omega⟩;have hk : k < h.cabins.length := by omega
 refine ⟨k, h.cabins[k], hg, List.getElem?_eq_getElem hk, rfl, ?_, (by show aP h.ae id < 0; omega), rfl, by omega, rfl, by omega, fun q => ?_⟩
 · show (cw h.rules && (aj h.now 0 1000000 && (aj id 1 999 && (aj (k : Int) 0 (h.rules.ah.length - 1) && (aj al (-1) (h.rules.ah.length - 1) && (!(al == (k : Int)) &&
    (aj siz 1 h.rules.size && (aj aK 0 (h.rules.cm - 1) && (aj h.now 0 h.now && (aj h.aw 1 1000000 && (aj 0 0 (h.rules.tries - 1) &&
    (((1 : Int) == 1 && aj 0 0 (h.now + h.rules.rest)) || ((1 : Int) == 2 && aj 0 1 (h.now + h.rules.ck)))))))))))))) = true
   rw [hg.rules, hg.now, b6, b4];simp only [Bool.true_and, aj, Bool.and_eq_true, decide_eq_true_eq, Bool.not_eq_true', beq_eq_false_iff_ne, Bool.or_eq_true];refine ⟨by omega, by omega, b3, by omega, by omega, by omega, by omega, .inl ⟨rfl, by omega, by omega⟩⟩
 · have q : al ≠ -1 := q;have : ¬ fS (aC h al) < siz := fun e => b9 ⟨q, e⟩;show siz ≤ fS (aC h al);omega
section
variable {h : ai} {p : au} {k : Nat} {c : a_}
theorem gd.sJ (o : gd h p k c) : 0 ≤ p.cab ∧ p.cab < (h.cabins.length : Int) := by
 have := bq o.hk;have := o.cab;omega
theorem gd.al (o : gd h p k c) : p.al = -1 ∨ ∃ f, tW h p f := by
 have h1 := (gb o.ok).al;have h2 := o.hg.fy
 by_cases q : p.al = -1
 · exact .inl q
 · exact .inr ⟨p.al.toNat, by omega, by omega⟩
theorem gd.jL (o : gd h p k c) : aC h p.cab = c := by rw [o.cab]; exact iI o.hk
theorem gd.none (o : gd h p k c) {z : au} (hz : z ∈ h.ae) : z.id ≠ p.id ∧ z.aw ≠ p.aw := by
 refine ⟨fun e => ?_, fun e => ?_⟩
 · obtain ⟨i, hi, e1, _⟩ := sI (iG o.hg.ae) hz;have := o.new;rw [← e, e1] at this;omega
 · have := (o.hg.ae.ok z hz).2;rw [e, o.aw] at this;omega
theorem gd.EO (o : gd h p k c) : sy c.row (cn h.rules p h.now) = bG aY (cn h.rules p h.now) c.row := by
 have r := sB o.hg o.hk;have e := sA o.ok o.st;have h3 := r.bT;have h4 := o.room;have h5 := (dO o.hg.rules).room;have h6 : ja h (k : Int) = ((aV (bx (k : Int)) h.ae : Nat) : Int) := rfl;refine Ky r.pre (by omega) (Ev o.ok o.st) (fun y hy => ?_) (fun y hy => ?_)
 · obtain ⟨z, hz, _, _, e1, _⟩ := r.of y hy;rw [e, e1]; exact (o.none hz).1
 · obtain ⟨z, hz, _, _, _, e1⟩ := r.of y hy;rw [e, e1]; exact (o.none hz).2
end
end Go.Proofs.YtehpbaiclfilaaaGreat

