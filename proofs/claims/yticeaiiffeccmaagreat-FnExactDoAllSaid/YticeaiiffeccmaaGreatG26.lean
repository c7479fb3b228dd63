/- Parts of a proof. No conditions. -/

import Derived.Test.YticeaiiffeccmaaGreatG25
import Derived.Test.YticeaiiffeccmaaGreatG22
set_option linter.unusedSimpArgs false
set_option linter.unusedVariables false
namespace Go.Proofs.YticeaiiffeccmaaGreat
open Go
set_option maxRecDepth 100000
theorem fC {K G : Prop} (f : K → G) (k : K) : G := f k
theorem wq {h : an} {k : Int} {c1 c2 : bd} : (bX h k c1).cabins.set k.toNat c2 = (bX h k c2).cabins := List.set_set ..
theorem qK {h : an} {k : Int} {c : bd} (hk : 0 ≤ k ∧ k < (h.cabins.length : Int)) : aA (bX h k c) k = c := by
 show ((h.cabins.set k.toNat c)[k.toNat]?).getD default = c;rw [List.getElem?_set, if_pos rfl, if_pos (by omega)]; rfl
theorem t_ {h : an} {p : aw} (q : p.ak ≠ -1) : eF h p = bX { h with ae := fg h.ae p.id } p.ak (jU (aA h p.ak) p.al) := if_neg q
theorem yM {h : an} {p : aw} (q : p.ak = -1) : eF h p = { h with ae := fg h.ae p.id } := if_pos q
def jg (id : Int) : bF := ⟨2, id, 0, 0, 0, 0⟩
def Qf (c : bd) (id : Int) : bd := { c with row := hZ c.row id }
def kP (h : an) (p : aw) : an := bX h p.ah (Qf (aA h p.ah) p.id)
def mn (h : an) (p : aw) : an := { dg h p with todo := fB h.todo p.ah }
def rY (h : an) (p : aw) : an := eF (if p.st = 2 then mn h p else kP h p) p
def pc (h : an) (id : Int) : an := if aY h (jg id) = 0 then rY h (fp h id) else h
theorem CB {h : an} {id : Int} (hv : aY h (jg id) = 0) : ∃ i k p c, cG h i k p c ∧ p.id = id ∧ fp h id = p := by
 obtain ⟨h0, h1, h2⟩ := ph hv;have hg := gP.1 h0;rw [Cd h0 h2 rfl] at hv
 have hk : 0 ≤ bw h.ae id := by
  have : ¬ bw h.ae (jg id).id < 0 := fun q => by rw [if_pos q] at hv; cases hv
  have e : (jg id).id = id := rfl;rw [e] at this;omega
 obtain ⟨i, k, kn⟩ := known hg hk;exact ⟨i, k, _, _, kn.Im hg, kn.id, kn.aG⟩
theorem tY {h : an} {q : bF} (k : q.kind = 4 ∨ q.kind = 5) (hv : aY h q = 0) : ∃ i k p c, cG h i k p c ∧ p.id = q.id ∧ fp h q.id = p ∧ p.st = 2 := by
 obtain ⟨h0, h1, h2⟩ := ph hv;have hg := gP.1 h0;rw [v_ h0 h2 k, yB] at hv
 have hk : 0 ≤ bw h.ae q.id := by
  have : ¬ bw h.ae q.id < 0 := fun q => by rw [if_pos q] at hv; cases hv
  omega
 rw [if_neg (by omega)] at hv
 have hs : (fp h q.id).st = 2 := by
  by_cases e : (fp h q.id).st = 2
  · exact e
  · rw [if_pos e] at hv; cases hv
 obtain ⟨i, k, kn⟩ := known hg hk;exact ⟨i, k, _, _, kn.Im hg, kn.id, kn.aG, by rw [← kn.aG]; exact hs⟩
def jW (id : Int) : bF := ⟨4, id, 0, 0, 0, 0⟩
def Qg (c : bd) (p : aw) : bd := { c with aj := bW c.aj p.al 0 (-1) 1 0, spoke := h_ c.spoke (dJ p) }
def fq (h : an) (p : aw) : an := bX h p.ah (Qg (aA h p.ah) p)
def tZ (h : an) (p : aw) : an := if p.ak = -1 then eF (fq h p) p else mm (eF (fq h p) p) p.ak p.al
def pd (h : an) (id : Int) : an := if aY h (jW id) = 0 then tZ h (fp h id) else h
def jX (id : Int) : bF := ⟨5, id, 0, 0, 0, 0⟩
def rZ (h : an) (p : aw) : an := { eT h p with todo := fB (eT h p).todo p.ah }
def pf (h : an) (id : Int) : an := if aY h (jX id) = 0 then rZ h (fp h id) else h
theorem r7 {h : an} {p : aw} (hf : p.ak = -1 ∨ ∃ f, jV h p f) (q : p.ak ≠ -1) : 0 ≤ p.ak ∧ p.ak < (h.cabins.length : Int) := by
 obtain ⟨f, e, l⟩ := hf.resolve_left q;omega
theorem r8 {h : an} {k j : Int} {c : bd} (q : 0 ≤ k ∧ k < (h.cabins.length : Int)) : 0 ≤ k ∧ k < ((bX h j c).cabins.length : Int) := by rw [m8]; exact q
def jY (id ah ak al aJ : Int) : bF := ⟨1, id, ah, ak, al, aJ⟩
def db (h : an) (id ah ak al aJ : Int) : aw := ⟨id, ah, ak, al, aJ, h.now, h.aC, 1, 0, 0⟩
def wu (c : bd) (n : Int) : bd := { c with aj := bW c.aj n 0 0 0 1 }
def rX (h : an) (p : aw) : an := if p.ak = -1 then h else bX h p.ak (wu (aA h p.ak) p.al)
def CD (h : an) (p : aw) : an := { h with aC := h.aC + 1, ae := ir h.ae p }
def gk (h : an) (p : aw) : an := tV (CD h p) p
def wv (h : an) (p : aw) : an := { rX (gk h p) p with todo := fB h.todo p.ah }
def pg (h : an) (id ah ak al aJ : Int) : an := if aY h (jY id ah ak al aJ) = 0 then wv h (db h id ah ak al aJ) else h
structure m_ (h : an) (p : aw) (k : Nat) (c : bd) : Prop where
 hg : HG h
 hk : h.cabins[k]? = some c
 ah : p.ah = (k : Int)
 ok : bD h.rules p h.now = true
 new : bw h.ae p.id < 0
 aC : p.aC = h.aC
 IF : 1 ≤ h.aC ∧ h.aC ≤ 1000000
 st : p.st = 1
 room : je h (k : Int) < h.rules.room
 loose : p.ak ≠ -1 → p.al ≤ gd (aA h p.ak)
theorem CC {h : an} {id ah ak al aJ : Int} (hv : aY h (jY id ah ak al aJ) = 0) : ∃ k c, m_ h (db h id ah ak al aJ) k c := by
 obtain ⟨h0, h1, h2⟩ := ph hv;have hg := gP.1 h0;have jr := B8 h2 rfl;rw [Cc h0 h2 rfl, yA] at hv
 have no : ∀ {P : Prop} [Decidable P] {a : Int} {b : Int}, a ≠ 0 → (if P then a else b) = 0 → ¬ P ∧ b = 0 := fun {P} _ {a} {b} ha q => by
   by_cases e : P
   · rw [if_pos e] at q; exact (ha q).elim
   · rw [if_neg e] at q; exact ⟨e, q⟩
 obtain ⟨a1, hv⟩ := no (by decide) hv;obtain ⟨a2, hv⟩ := no (by decide) hv;obtain ⟨a3, hv⟩ := no (by decide) hv;obtain ⟨a4, hv⟩ := no (by decide) hv;obtain ⟨a5, hv⟩ := no (by decide) hv;obtain ⟨a6, hv⟩ := no (by decide) hv;obtain ⟨a7, hv⟩ := no (by decide) hv;obtain ⟨a8, hv⟩ := no (by decide) hv;obtain ⟨a9, hv⟩ := no (by decide) hv;obtain ⟨wg, _⟩ := no (by decide) hv;have tt : ∀ {b : Bool}, ¬ b = false → b = true := fun {b} h => by cases b <;> simp_all
 have b1 : ia h ah = true := tt a1;have b1 := bO b1;have b2 : aq ak (-1) ((h.cabins.length : Int) - 1) = true := tt a2;have b2 := bO b2;have b3 : ak ≠ ah := a3;have b4 : aq al 1 h.rules.size = true := tt a4;have b5 : ¬ aJ ≥ h.rules.cn := a5;have b6 : aq id 1 999 = true := tt a6;have b7 : ¬ bw h.ae id ≥ 0 := a7;have b8 : ¬ je h ah ≥ h.rules.room := a8;have b9 : ¬ (ak ≠ -1 ∧ gd (aA h ak) < al) := a9;have RA : ¬ h.aC > 1000000 := wg;have t0 : 0 ≤ aJ := jr.aJ.1;have ht := bO hg.aC;have hn := bO hg.now;have hr := fo hg.rules;have q1 := hr.tries;have q2 := hr.rest;have hc := hg.kI;obtain ⟨k, rfl⟩ : ∃ k : Nat, ah = (k : Int) := ⟨ah.toNat, by omega⟩;have hk : k < h.cabins.length := by omega
 refine ⟨k, h.cabins[k], hg, List.getElem?_eq_getElem hk, rfl, ?_, (by show bw h.ae id < 0; omega), rfl, by omega, rfl, by omega, fun q => ?_⟩
 · show (cX h.rules && (aq h.now 0 1000000 && (aq id 1 999 && (aq (k : Int) 0 (h.rules.aj.length - 1) && (aq ak (-1) (h.rules.aj.length - 1) && (!(ak == (k : Int)) &&
    (aq al 1 h.rules.size && (aq aJ 0 (h.rules.cn - 1) && (aq h.now 0 h.now && (aq h.aC 1 1000000 && (aq 0 0 (h.rules.tries - 1) &&
    (((1 : Int) == 1 && aq 0 0 (h.now + h.rules.rest)) || ((1 : Int) == 2 && aq 0 1 (h.now + h.rules.cp)))))))))))))) = true
   rw [hg.rules, hg.now, b6, b4];simp only [Bool.true_and, aq, Bool.and_eq_true, decide_eq_true_eq, Bool.not_eq_true', beq_eq_false_iff_ne, Bool.or_eq_true];refine ⟨by omega, by omega, b3, by omega, by omega, by omega, by omega, .inl ⟨rfl, by omega, by omega⟩⟩
 · have q : ak ≠ -1 := q;have : ¬ gd (aA h ak) < al := fun e => b9 ⟨q, e⟩;show al ≤ gd (aA h ak);omega
section
variable {h : an} {p : aw} {k : Nat} {c : bd}
theorem m_.m9 (o : m_ h p k c) : 0 ≤ p.ah ∧ p.ah < (h.cabins.length : Int) := by
 have := bK o.hk;have := o.ah;omega
theorem m_.ak (o : m_ h p k c) : p.ak = -1 ∨ ∃ f, jV h p f := by
 have h1 := (o_ o.ok).ak;have h2 := o.hg.kI
 by_cases q : p.ak = -1
 · exact .inl q
 · exact .inr ⟨p.ak.toNat, by omega, by omega⟩
theorem m_.jB (o : m_ h p k c) : aA h p.ah = c := by rw [o.ah]; exact nU o.hk
theorem m_.none (o : m_ h p k c) {z : aw} (hz : z ∈ h.ae) : z.id ≠ p.id ∧ z.aC ≠ p.aC := by
 refine ⟨fun e => ?_, fun e => ?_⟩
 · obtain ⟨i, hi, e1, _⟩ := Cv (pb o.hg.ae) hz;have := o.new;rw [← e, e1] at this;omega
 · have := (o.hg.ae.ok z hz).2;rw [e, o.aC] at this;omega
theorem m_.Cx (o : m_ h p k c) : qE c.row (dw h.rules p h.now) = bS bp (dw h.rules p h.now) c.row := by
 have r := rS o.hg o.hk;have e := v8 o.ok o.st;have h3 := r.bT;have h4 := o.room;have h5 := (fo o.hg.rules).room;have h6 : je h (k : Int) = ((af (bU (k : Int)) h.ae : Nat) : Int) := rfl;refine HW r.pre (by omega) (B3 o.ok o.st) (fun y hy => ?_) (fun y hy => ?_)
 · obtain ⟨z, hz, _, _, e1, _⟩ := r.of y hy;rw [e, e1]; exact (o.none hz).1
 · obtain ⟨z, hz, _, _, _, e1⟩ := r.of y hy;rw [e, e1]; exact (o.none hz).2
end
end Go.Proofs.YticeaiiffeccmaaGreat

