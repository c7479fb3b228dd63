/- Parts of a proof. No conditions. -/

import Derived.Test.YticeaiiffeccmaaGreatG25
import Derived.Test.YticeaiiffeccmaaGreatG15
import Derived.Test.YticeaiiffeccmaaGreatG16
import Derived.Test.YticeaiiffeccmaaGreatG26
import Derived.Test.YticeaiiffeccmaaGreatG22
set_option linter.unusedSimpArgs false
set_option linter.unusedVariables false
namespace Go.Proofs.YticeaiiffeccmaaGreat
open Go
set_option maxRecDepth 100000
theorem PU {α : Type} {f : α → Int} {l : List α} (hd : l.Pairwise fun a b => f a ≠ f b) {i : Nat} (hi : i < l.length) {z : α} : z ∈ l.take i ++ l.drop (i + 1) ↔ z ∈ l ∧ f z ≠ f l[i] := by
 have pm : l.Perm (l[i] :: (l.take i ++ l.drop (i + 1))) := by
   conv => lhs; rw [yD hi]
   exact List.perm_middle
 obtain ⟨n1, _⟩ := List.pairwise_cons.1 ((pm.pairwise_iff (fun {a b} q e => q e.symm)).1 hd);rw [pm.mem_iff, List.mem_cons]
 constructor
 · intro hz;exact ⟨.inr hz, fun e => n1 z hz e.symm⟩
 · rintro ⟨rfl | hz, hn⟩
   · exact (hn rfl).elim
   · exact hz
theorem yH {α : Type} (l : List α) (a : Int) : (cutAt l a).Sublist l := by
 unfold cutAt; split
 · exact List.Sublist.refl _
 · have h := List.Sublist.append (List.Sublist.refl (l.take a.toNat)) (List.drop_sublist_drop_left l (Nat.le_succ a.toNat))
   rwa [List.take_append_drop] at h
theorem PV {l : List Entry} (hd : l.Pairwise fun a b => a.aV ≠ b.aV) {id : Int} {y : Entry} : y ∈ hZ l id ↔ y ∈ l ∧ y.aV ≠ id := by
 rcases im (fun e : Entry => e.aV == id) l with ⟨e, hn⟩ | ⟨i, hi, e, e1, _⟩
 · have e : cY l id = -1 := e;rw [hZ, cutAt, e, if_pos (by omega)];exact ⟨fun h => ⟨h, fun q => by have := hn y h; simp [q] at this⟩, fun h => h.1⟩
 · have e : cY l id = (i : Int) := e;have e1 : l[i].aV = id := by simpa using e1
   rw [hZ, cutAt, e, if_neg (by omega), Int.toNat_natCast, PU (f := Entry.aV) hd hi, e1]
theorem PW {l : List Entry} {id : Int} {y : Entry} (hy : y ∈ l) (e : y.aV = id) : (hZ l id).length + 1 = l.length := by
 rcases im (fun e : Entry => e.aV == id) l with ⟨_, hn⟩ | ⟨i, hi, e2, _, _⟩
 · have := hn y hy;simp [e] at this
 · have e2 : cY l id = (i : Int) := e2;rw [hZ, cutAt, e2, if_neg (by omega), Int.toNat_natCast, List.length_append, List.length_take, List.length_drop];omega
section
variable {h : an} {i k : Nat} {p : aw} {c : bd}
theorem Cy (o : cG h i k p c) : kN h (k : Int) p = { h with ae := h.ae.set i (gA h p), cabins := h.cabins.set k (tW h c p) } := by
 have e1 : ir h.ae (gA h p) = h.ae.set i (gA h p) := Ik o.at_;rw [kN, e1, show aA h (k : Int) = c from nU o.hk];show ({ h with ae := _, cabins := h.cabins.set ((k : Int)).toNat _ } : an) = _;rw [Int.toNat_natCast]
theorem cG.aH (o : cG h i k p c) (h1 : p.st = 1) : kC h.rules p h.now ∈ c.row := o.row.2 ⟨p, o.mem, o.ah, h1, rfl⟩
theorem cG.offer (o : cG h i k p c) (h1 : p.st = 1) (hC : p.al ≤ c.aj.free) : HG (kN h (k : Int) p) ∧ bz (lp c.spoke (dJ (gA h p))) = true := by
 obtain ⟨hi, ei⟩ := o.lt;have hk := bK o.hk;have g := o.hg.lr o.hk;have r := rS o.hg o.hk;have hd := pb o.hg.ae;have sz := o.al;have hr := fo o.hg.rules;have pn := o_ o.ok;have hn := bO o.hg.now;have ok : bD h.rules (gA h p) h.now = true := PJ o.ok
 have dq : (bf c.spoke).length ≤ 9 := by
   have a1 : (bL c.spoke).length = (bf c.spoke).length := by rw [bL, if_pos g.mg, mz]
   have a2 : (gO h.ae (k : Int)).length = (fA (k : Int) h.ae).length := by rw [gO, mz]
   have a3 := r.bT;have a4 := r.room;have a5 := hr.room;have a6 := List.length_pos_of_mem (o.aH h1);rw [g.pins] at a1;omega
 have PX : eC (dJ (gA h p)) = true := by
   show (aq (h.now + h.rules.cp) 1 1000008 && aq p.id 1 999) = true;have := hr.cp;have := pn.id;simp only [aq, Bool.and_eq_true, decide_eq_true_eq];omega
 have wp := PF g.mg PX (fun q hq e => by
   obtain ⟨z, hz, _, hs, rfl⟩ := o.pins.1 hq;have aX : z ≠ p := fun e => by rw [e, h1] at hs; cases hs
   exact o.one hz aX e) dq
 have ld := PO g.me (n := p.al) (by omega) hC;refine ⟨?_, wp.1⟩;generalize hq : gA h p = q at ok wp;have q1 : q.id = p.id := by rw [← hq]; rfl
 have q2 : q.aC = p.aC := by rw [← hq]; rfl
 have q3 : q.since = p.since := by rw [← hq]; rfl
 have q4 : q.ah = (k : Int) := by rw [← hq]; exact o.ah
 have q5 : q.st = 2 := by rw [← hq]; rfl
 have q6 : q.ak = p.ak := by rw [← hq]; rfl
 have q7 : q.al = p.al := by rw [← hq]; rfl
 have d_ : dF h.rules h.now h.aC (h.ae.set i q) := o.hg.ae.set hi ok (by rw [ei, q1]) (by rw [ei, q2]) (by rw [ei, q3]);have hm : ∀ z, z ∈ h.ae.set i q ↔ z = q ∨ (z ∈ h.ae ∧ z.id ≠ p.id) := fun z => by rw [Ct hd hi, ei]
 rw [Cy o, hq];refine o.hg.next rfl rfl rfl ?_ ?_ rfl rfl d_ fun j c1 hj => ?_
 · show (h.ae.set i q).length ≤ 40;rw [List.length_set]; exact o.hg.dq
 · show (h.cabins.set k _).length = _;rw [List.length_set]
 show nV h.rules h.now (h.ae.set i q) j c1;have hj : (h.cabins.set k (tW h c p))[j]? = some c1 := hj;rw [List.getElem?_set] at hj;have s1 := tU (bU (j : Int)) hi q;have s2 := tU (cz (j : Int)) hi q;have s3 := tU (cF (j : Int)) hi q;have PR : bU (j : Int) q = bU (j : Int) h.ae[i] := by rw [ei, bU, bU, q4, o.ah]
 have PS : cF (j : Int) q = cF (j : Int) h.ae[i] := by rw [ei, cF, cF, kA, kA, q6, q7]
 by_cases ej : k = j
 · subst ej;rw [if_pos rfl, if_pos hk] at hj;cases hj;rw [ei, qH (.inl (by rw [h1]; decide)), yG q5 q4 (by rw [q7]; exact sz), q7] at s2;refine ⟨?_, ?_, ld.2, ?_, by show bz (lp c.spoke (dJ (gA h p))) = true; rw [hq]; exact wp.1, ?_, ?_, ?_⟩
   · show (bW c.aj p.al (-1) 1 0 0).total = _;rw [ld.1]; exact g.total
   · have := g.room; omega
   · refine yE d_ ?_ fun y => ?_
     · show (hZ c.row p.id).Pairwise _;exact r.pre.lt.sublist (yH _ _)
     · show y ∈ hZ c.row p.id ↔ _;rw [PV r.pre.ne, o.row]
       constructor
       · rintro ⟨⟨z, hz, hc, hs, rfl⟩, hn⟩
         exact ⟨z, (hm z).2 (.inr ⟨hz, hn⟩), hc, hs, rfl⟩
       · rintro ⟨z, hz, hc, hs, rfl⟩
         rcases (hm z).1 hz with rfl | ⟨hz, hn⟩
         · rw [q5] at hs; cases hs
         · exact ⟨⟨z, hz, hc, hs, rfl⟩, hn⟩
   · show bL (lp c.spoke (dJ (gA h p))) = _;rw [hq];refine Cu d_ wp.1 fun y => ?_;rw [wp.2, o.pins]
     constructor
     · rintro (rfl | ⟨z, hz, hc, hs, rfl⟩)
       · exact ⟨q, (hm q).2 (.inl rfl), q4, q5, rfl⟩
       · have aX : z ≠ p := fun e => by rw [e, h1] at hs; cases hs
         exact ⟨z, (hm z).2 (.inr ⟨hz, o.one hz aX⟩), hc, hs, rfl⟩
     · rintro ⟨z, hz, hc, hs, rfl⟩
       rcases (hm z).1 hz with rfl | ⟨hz, _⟩
       · exact .inl rfl
       · exact .inr ⟨z, hz, hc, hs, rfl⟩
   · show (bW c.aj p.al (-1) 1 0 0).held = _;rw [ld.1];show c.aj.held + p.al = _;have := g.held;omega
   · show (bW c.aj p.al (-1) 1 0 0).tied = _;rw [ld.1];show c.aj.tied = _;have := g.tied;omega
 · rw [if_neg ej] at hj;have gj := o.hg.lr hj;have aX : ((k : Int)) ≠ (j : Int) := by omega
   rw [ei, qH (.inr (by rw [o.ah]; exact aX)), qH (.inr (by rw [q4]; exact aX))] at s2;refine gj.other o.hg.ae d_ rfl rfl rfl gj.me (fun z hz => ?_) (by omega) (by have := gj.held; omega) (by have := gj.tied; omega);rw [hm]
   constructor
   · rintro (rfl | h)
     · exact (aX (q4.symm.trans hz)).elim
     · exact h.1
   · intro h;exact .inr ⟨h, o.one h fun e => aX (by rw [← o.ah, ← e]; exact hz)⟩
end
theorem PY {h : an} (hg : HG h) {k : Nat} {c : bd} (hk : h.cabins[k]? = some c) (hn : jz h c ≠ 0) : ∃ i p, cG h i k p c ∧ p.st = 1 ∧ p.al ≤ c.aj.free ∧ p.id = jz h c ∧ fp h (jz h c) = p := by
 have g := hg.lr hk;rw [jz] at hn ⊢;rcases im (lj c.aj.free (gW h)) c.row with ⟨e, _⟩ | ⟨j, hj, e, e1, _⟩
 · have e : gV c.row c.aj.free (gW h) = -1 := e;rw [e, if_pos (by omega)] at hn;exact (hn rfl).elim
 · have e : gV c.row c.aj.free (gW h) = (j : Int) := e;rw [e, if_neg (by omega), Int.toNat_natCast, List.getElem?_eq_getElem hj, Option.getD_some];have hm := List.getElem_mem hj;have yw : ∃ z ∈ h.ae, z.ah = (k : Int) ∧ z.st = 1 ∧ c.row[j] = kC h.rules z h.now := (wb hg.ae).1 (by rw [← g.row]; exact hm);obtain ⟨z, hz, hc, hs, ez⟩ := yw;rw [ez] at e1 ⊢
   have e1 : z.al ≤ c.aj.free := by
    simp only [lj, Bool.and_eq_true, decide_eq_true_eq] at e1;exact e1.1
   obtain ⟨i, hi, e2, e3⟩ := Cv (pb hg.ae) hz;refine ⟨i, z, ⟨hg, by rw [List.getElem?_eq_getElem hi, e3], hk, hc, (hg.ae.ok z hz).1, e2⟩, hs, e1, rfl, ?_⟩;show (h.ae[(bw h.ae z.id).toNat]?).getD default = z;rw [e2, Int.toNat_natCast, List.getElem?_eq_getElem hi, e3]; rfl
theorem HG.small {h : an} (hg : HG h) : bh h := by
 have hr := fo hg.rules;have h1 := hr.len;have h2 := hg.dq;have h3 := hg.kI;have h4 := pa hg;have h5 := hg.cC;have h6 := hr.cC;refine ⟨?_, ?_, ⟨?_, fun c hc => ?_⟩, ?_, ?_⟩
 · show _ ≤ 1048576; omega
 · show _ ≤ 1048576; omega
 · show _ ≤ 1048576; omega
 · obtain ⟨k, hk, rfl⟩ := List.getElem_of_mem hc;have r := rS hg (List.getElem?_eq_getElem hk);have a1 := r.bT;have a2 := r.room;have a3 := hr.room;have w := wG r.mg;refine ⟨by show _ ≤ 1048576; omega, by show _ ≤ 1048576; rw [w.len]; omega, fun y hy => ?_⟩
   have : y.length ≤ (h.cabins[k]).spoke.flatten.length := by
    have h2 : ∀ {w : List (List aB)} {l : List aB}, l ∈ w → l.length ≤ w.flatten.length := by
     intro w l hl
     induction w with
     | nil => cases hl
     | cons a w ih =>
       simp only [List.flatten_cons, List.length_append];rcases List.mem_cons.1 hl with rfl | hl
       · omega
       · have := ih hl; omega
    exact h2 hy
   have w2 : (h.cabins[k]).spoke.flatten.length ≤ 10 := w.dq;show _ ≤ 1048576; omega
 · show _ ≤ 1048576; omega
 · show _ ≤ 1048576; omega
def cu : List Int → an → an
 | [], E => E
 | d :: ds, E => cu ds (eT E (fp E d))
def cZ (h : an) (k : Int) : an := cu (br h k) h
theorem Ir : ∀ (ds : List Int) (d : Int) (E : an), cu (ds ++ [d]) E = eT (cu ds E) (fp (cu ds E) d)
 | [], _, _ => rfl
 | x :: ds, d, E => Ir ds d (eT E (fp E x))
theorem Is {ds : List Int} {i : Nat} (hi : i < ds.length) (E : an) : cu (ds.take (i + 1)) E = eT (cu (ds.take i) E) (fp (cu (ds.take i) E) ds[i]) := by
 rw [List.take_add_one, List.getElem?_eq_getElem hi]; exact Ir _ _ _
structure kO (h : an) (k : Nat) (ds : List Int) (E : an) : Prop where
 hg : HG E
 rules : E.rules = h.rules
 now : E.now = h.now
 len : E.cabins.length = h.cabins.length
 todo : E.todo = h.todo
 aF : E.aF = h.aF
 nd : ds.Pairwise fun a b => a ≠ b
 rem : ∀ d ∈ ds, ∃ p ∈ E.ae, p.id = d ∧ p.ah = (k : Int) ∧ p.st = 2
theorem kO.start {h : an} (hg : HG h) {k : Nat} {c : bd} (hk : h.cabins[k]? = some c) : kO h k (rU c h.now) h := by
 have g := hg.lr hk;refine ⟨hg, rfl, rfl, rfl, rfl, rfl, ?_, fun d hd => ?_⟩
 · rw [rU, dy, List.pairwise_map];refine List.Pairwise.filter _ ?_;rw [bL, if_pos g.mg];exact ((Cj (lt := bm) (bf c.spoke)).pairwise_iff (R := fun a b => a.pid ≠ b.pid) (fun {a b} q e => q e.symm)).2 (wG g.mg).ne
 · rw [rU, dy] at hd;obtain ⟨q, hq, rfl⟩ := List.mem_map.1 hd;have hq := (List.mem_filter.1 hq).1;rw [g.pins, rV] at hq;obtain ⟨z, hz, hc, hs, rfl⟩ := hq;exact ⟨z, hz, rfl, hc, hs⟩
theorem kO.at_ {h : an} {k : Nat} {d : Int} {ds : List Int} {E : an} (I : kO h k (d :: ds) E) (hk : k < h.cabins.length) : ∃ i c, cG E i k (fp E d) c ∧ (fp E d).st = 2 ∧ (fp E d).id = d ∧ bw E.ae d = (i : Int) := by
 obtain ⟨p, hp, e1, e2, e3⟩ := I.rem d List.mem_cons_self;obtain ⟨i, hi, e4, e5⟩ := Cv (pb I.hg.ae) hp;rw [e1] at e4
 have ep : fp E d = p := by
  show (E.ae[(bw E.ae d).toNat]?).getD default = p;rw [e4, Int.toNat_natCast, List.getElem?_eq_getElem hi, e5]; rfl
 have bC : k < E.cabins.length := by rw [I.len]; exact hk
 rw [ep];exact ⟨i, E.cabins[k], ⟨I.hg, by rw [List.getElem?_eq_getElem hi, e5], List.getElem?_eq_getElem bC, e2, (I.hg.ae.ok p hp).1, by rw [e1]; exact e4⟩, e3, e1, e4⟩
theorem kO.step {h : an} {k : Nat} {d : Int} {ds : List Int} {E : an} (I : kO h k (d :: ds) E) (hk : k < h.cabins.length) : kO h k ds (eT E (fp E d)) := by
 obtain ⟨i, c, o, h2, lu, _⟩ := I.at_ hk;obtain ⟨k1, k2, k3, k4, k5⟩ := o.ik;obtain ⟨n1, n2⟩ := List.pairwise_cons.1 I.nd;refine ⟨o.Iq h2, k1.trans I.rules, k2.trans I.now, k3.trans I.len, k4.trans I.todo, k5.trans I.aF, n2, fun x hx => ?_⟩;obtain ⟨p, hp, e1, e2, e3⟩ := I.rem x (List.mem_cons_of_mem _ hx);exact ⟨p, o.stay hp (by rw [e1, lu]; exact fun e => n1 x hx e.symm), e1, e2, e3⟩
theorem It {h : an} {k : Nat} (hk : k < h.cabins.length) : ∀ (ds : List Int) (E : an), kO h k ds E → kO h k [] (cu ds E)
 | [], _, I => I
 | d :: ds, E, I => It hk ds (eT E (fp E d)) (I.step hk)
theorem rW {h : an} {k : Int} (hv : cL h k = true) : HG h ∧ ∃ (n : Nat) (c : bd), h.cabins[n]? = some c ∧ k = (n : Int) := by
 simp only [cL, Bool.and_eq_true] at hv;obtain ⟨h1, h2⟩ := hv;have h2 := bO h2;obtain ⟨n, rfl⟩ : ∃ n : Nat, k = (n : Int) := ⟨k.toNat, by omega⟩;have hn : n < h.cabins.length := by omega
 exact ⟨gP.1 h1, n, h.cabins[n], List.getElem?_eq_getElem hn, rfl⟩
theorem Iu {h : an} (hg : HG h) {n : Nat} (hn : n < h.cabins.length) : cL h (n : Int) = true := by
 rw [cL, gP.2 hg];simp only [aq, Bool.and_eq_true, decide_eq_true_eq, true_and];exact ⟨by omega, by omega⟩
theorem wh {h : an} {k : Int} (hv : cL h k = false) : br h k = [] := by rw [br, hv]; rfl
theorem Cz {h : an} {n : Nat} {c : bd} (hg : HG h) (hk : h.cabins[n]? = some c) : br h (n : Int) = rU c h.now := by
 rw [br, if_pos (Iu hg (bK hk)), nU hk]
theorem PZ {h : an} {k : Int} {i : Nat} (hi : i < (br h k).length) : ∃ n : Nat, k = (n : Int) ∧ n < h.cabins.length ∧ kO h n ((br h k).drop i) (cu ((br h k).take i) h) := by
 have hv : cL h k = true := by
  cases e : cL h k with
  | true => rfl
  | false => rw [wh e] at hi; cases hi
 obtain ⟨hg, n, c, hk, rfl⟩ := rW hv;have hn := bK hk;refine ⟨n, rfl, hn, ?_⟩
 have key : ∀ i, i ≤ (br h (n : Int)).length → kO h n ((br h (n : Int)).drop i) (cu ((br h (n : Int)).take i) h) := by
  intro i
  induction i with
  | zero =>
    intro _;rw [Cz hg hk];exact kO.start hg hk
  | succ i ih =>
    intro hi;have I := ih (by omega);rw [← List.getElem_cons_drop (by omega : i < (br h (n : Int)).length)] at I;rw [Is (by omega : i < (br h (n : Int)).length)];exact I.step hn
 exact key i (by omega)
theorem CA {h : an} {n : Nat} (hg : HG h) (hn : n < h.cabins.length) : kO h n [] (cZ h (n : Int)) := by
 have hk := List.getElem?_eq_getElem hn;rw [cZ, Cz hg hk];exact It hn _ _ (kO.start hg hk)
theorem yI {h : an} (hs : bh h) (k : Int) : bh (cZ h k) := by
 cases hv : cL h k with
 | false => rw [cZ, wh hv]; exact hs
 | true =>
   obtain ⟨hg, n, c, hk, rfl⟩ := rW hv;exact (CA hg (bK hk)).hg.small
def dH (h : an) (k : Int) : an := if cM h k = 0 then h else kN h k (fp h (cM h k))
theorem wi {h : an} {n : Nat} {c : bd} (hg : HG h) (hk : h.cabins[n]? = some c) : cM h (n : Int) = jz h c := by
 rw [cM, if_pos (Iu hg (bK hk)), nU hk]
theorem yJ {h : an} {k : Int} (hv : ¬ cM h k = 0) : ∃ (n : Nat) (c : bd) (i : Nat) (p : aw), k = (n : Int) ∧ cG h i n p c ∧ p.st = 1 ∧ p.al ≤ c.aj.free ∧ p.id = cM h k ∧ fp h (cM h k) = p := by
 have hc : cL h k = true := by
  cases e : cL h k with
  | true => rfl
  | false => rw [cM, e] at hv; exact absurd rfl hv
 obtain ⟨hg, n, c, hk, rfl⟩ := rW hc;have e := wi hg hk;rw [e] at hv ⊢;obtain ⟨i, p, h1, h2, h3, h4, h5⟩ := PY hg hk hv;exact ⟨n, c, i, p, rfl, h1, h2, h3, h4, h5⟩
def ek (E : an) (k : Int) : Nat := (aA E k).row.length
def mj : Nat → Int → an → List Int → an × List Int
 | 0, _, E, ids => (E, ids)
 | n + 1, k, E, ids => if cM E k = 0 then (E, ids) else mj n k (dH E k) (ids ++ [cM E k])
def lv (k : Int) (E : an) (ids : List Int) : an × List Int := mj (ek E k + 1) k E ids
def cK (h : an) (k : Int) : an × List Int := lv k (cZ h k) []
theorem wj {k : Int} {E : an} {ids : List Int} (h : cM E k = 0) : lv k E ids = (E, ids) := if_pos h
theorem qI {E : an} {k : Int} (hv : ¬ cM E k = 0) : HG E ∧ HG (dH E k) ∧ (dH E k).rules = E.rules ∧ (dH E k).now = E.now ∧ (dH E k).cabins.length = E.cabins.length ∧ (dH E k).todo = E.todo ∧ (dH E k).aF = E.aF ∧ ek (dH E k) k + 1 = ek E k ∧ ek E k ≤ 10 := by
 obtain ⟨n, c, i, p, rfl, o, st, fr, aV, ep⟩ := yJ hv;have e : dH E (n : Int) = kN E (n : Int) p := by rw [dH, if_neg hv, ep]
 have hk := bK o.hk;rw [e, Cy o];have h1 := (o.offer st fr).1;rw [Cy o] at h1;refine ⟨o.hg, h1, rfl, rfl, List.length_set, rfl, rfl, ?_, ?_⟩
 · have a1 : aA { E with ae := E.ae.set i (gA E p), cabins := E.cabins.set n (tW E c p) } (n : Int) = tW E c p := by
    show ((E.cabins.set n (tW E c p))[((n : Int)).toNat]?).getD default = _;rw [Int.toNat_natCast, List.getElem?_set]; simp [hk]
   rw [ek, a1, ek, nU o.hk];exact PW (o.aH st) rfl
 · rw [ek, nU o.hk];have r := rS o.hg o.hk;have := r.bT;have := r.room;have := (fo o.hg.rules).room;omega
theorem Iv {k : Int} {E : an} {ids : List Int} (hv : ¬ cM E k = 0) : lv k E ids = lv k (dH E k) (ids ++ [cM E k]) := by
 have h1 := (qI hv).2.2.2.2.2.2.2.1;rw [lv, mj, if_neg hv, lv, h1]
theorem Iw {w : List (List aB)} (h : iW w) (p : aB) : iW (h_ w p) := by
 unfold h_; split
 · refine ⟨by rw [List.length_set]; exact h.1, fun x hx => ?_⟩;rcases List.mem_or_eq_of_mem_set hx with q | rfl
   · exact h.2 x q
   · refine Nat.le_trans (yH _ _).length_le ?_;unfold bJ;rw [List.getD_eq_getElem?_getD];cases hq : w[fh p]? with
     | none => exact Nat.zero_le _
     | some l => exact h.2 l (List.mem_of_getElem? hq)
 · exact h
theorem qJ {h : an} (hs : bh h) {k : Int} {c : bd} (hc : fU c) : bh (bX h k c) :=
 ⟨hs.1, hs.2.1, PK hs.2.2.1 hc, hs.2.2.2.1, hs.2.2.2.2⟩
theorem P1 {h : an} (hs : bh h) {l : List aw} (hl : l.length ≤ bc) : bh { h with ae := l } := ⟨hs.1, hl, hs.2.2.1, hs.2.2.2.1, hs.2.2.2.2⟩
theorem wk {h : an} (hs : bh h) {l : List Int} (hl : l.length ≤ bc) : bh { h with todo := l } := ⟨hs.1, hs.2.1, hs.2.2.1, hl, hs.2.2.2.2⟩
theorem lx {h : an} (hs : bh h) (k : Int) : fU (aA h k) := by
 unfold aA;cases q : h.cabins[k.toNat]? with
 | none => exact ⟨Nat.zero_le _, Nat.zero_le _, fun y hy => by cases hy⟩
 | some c => exact hs.2.2.1.2 c (List.mem_of_getElem? q)
theorem P2 {l : List aw} (h : l.length ≤ bc) (id : Int) : (fg l id).length ≤ bc := Nat.le_trans (yH _ _).length_le h
theorem Iy {h : an} (hs : bh h) (p : aw) : bh (eF h p) := by
 rw [eF, kM];have h1 : bh { h with ae := fg h.ae p.id } := P1 hs (P2 hs.2.1 _)
 split
 · exact h1
 · exact qJ h1 ⟨(lx h1 _).1, (lx h1 _).2⟩
theorem P3 (h : an) (p : aw) : (eF h p).todo = h.todo := (mi _ _).2.2.2.2.1
theorem P4 {h : an} (hs : bh h) (p : aw) : bh (dg h p) :=
 qJ hs ⟨(lx hs _).1, Iw (lx hs _).2 _⟩
theorem wm {l : List Int} {n : Nat} (h : l.length ≤ n) (hn : n + 1 ≤ 1048576) (k : Int) : (fB l k).length ≤ bc := by
 have := Iz l k;show _ ≤ 1048576;omega
theorem P5 {h : an} (hs : bh h) (id : Int) : bh (pc h id) := by
 unfold pc; split
 · rename_i hv;obtain ⟨i, k, p, c, o, lu, ep⟩ := CB hv;rw [ep];have ht := pa o.hg;refine Iy ?_ p
   split
   · exact wk (P4 hs p) (wm ht (by decide) _)
   · exact qJ hs ⟨Nat.le_trans (yH _ _).length_le (lx hs _).1, (lx hs _).2⟩
 · exact hs
theorem P6 {h : an} (hs : bh h) (id : Int) : bh (pd h id) := by
 unfold pd; split
 · rename_i hv;obtain ⟨i, k, p, c, o, lu, ep, _⟩ := tY (q := jW id) (.inl rfl) hv;have ep : fp h id = p := ep;rw [ep];have ht := pa o.hg;have h1 : bh (fq h p) := qJ hs ⟨(lx hs _).1, Iw (lx hs _).2 _⟩;have h2 : bh (eF (fq h p) p) := Iy h1 p;have h3 : (eF (fq h p) p).todo.length ≤ 4 := by rw [P3]; exact ht
   unfold tZ; split
   · exact h2
   · exact wk (qJ h2 (k := p.ak) (c := { aA (eF (fq h p) p) p.ak with aj := bW (aA (eF (fq h p) p) p.ak).aj p.al 1 0 (-1) 0 }) (lx h2 p.ak)) (wm h3 (by decide) _)
 · exact hs
theorem P7 {h : an} (hs : bh h) (id : Int) : bh (pf h id) := by
 unfold pf; split
 · rename_i hv;obtain ⟨i, k, p, c, o, lu, ep, st⟩ := tY (q := jX id) (.inr rfl) hv;have ep : fp h id = p := ep;rw [ep];have hg := o.Iq st;exact wk hg.small (wm (pa hg) (by decide) _)
 · exact hs
theorem P8 {h : an} (hs : bh h) (id ah ak al aJ : Int) : bh (pg h id ah ak al aJ) := by
 unfold pg; split
 · rename_i hv;obtain ⟨k, c, o⟩ := CC hv;generalize db h id ah ak al aJ = p at o;have ht := pa o.hg
   have hp : (ir h.ae p).length ≤ bc := by
    have h1 := o.hg.dq;have h2 := HJ h.ae p.id;unfold ir
    split
    · rw [List.length_set]; exact hs.2.1
    · show _ ≤ 1048576;rw [List.length_append, List.length_cons, List.length_take, List.length_drop]; omega
   have hr : (aA h p.ah).row.length ≤ 10 := by
    rw [o.jB];have r := rS o.hg o.hk;have := r.bT;have := r.room;have := (fo o.hg.rules).room;omega
   have h1 : bh (CD h p) := ⟨hs.1, hp, hs.2.2.1, hs.2.2.2.1, hs.2.2.2.2⟩
   have h2 : bh (gk h p) := qJ h1 ⟨by
    show (bS bp _ (aA h p.ah).row).length ≤ 1048576;rw [w7]; omega, (lx hs p.ah).2⟩
   have h3 : bh (rX (gk h p) p) := by
    unfold rX; split
    · exact h2
    · exact qJ h2 ⟨(lx h2 _).1, (lx h2 _).2⟩
   exact wk h3 (wm ht (by decide) _)
 · exact hs
theorem CE {h : an} (hs : bh h) (k : Int) : bh (dH h k) := by
 by_cases hv : cM h k = 0
 · rw [dH, if_pos hv]; exact hs
 · exact (qI hv).2.1.small
theorem wo {h : an} (hs : bh h) (k : Int) : bh (cK h k).1 ∧ (cK h k).2.length ≤ 11 := by
 have h1 := yI hs k
 by_cases hv : cM (cZ h k) k = 0
 · rw [cK, wj hv]; exact ⟨h1, Nat.zero_le _⟩
 · have h2 := (qI hv).2.2.2.2.2.2.2.2;rw [cK, lv]
   have key : ∀ {n : Nat} {E : an} {ids : List Int}, bh E → bh (mj n k E ids).1 ∧ (mj n k E ids).2.length ≤ ids.length + n := by
    intro n
    induction n with
    | zero => intro E ids h; exact ⟨h, by show ids.length ≤ _; omega⟩
    | succ n ih =>
      intro E ids h;unfold mj; split
      · exact ⟨h, by show ids.length ≤ _; omega⟩
      · have := ih (ids := ids ++ [cM E k]) (CE h k);rw [List.length_append, List.length_singleton] at this;exact ⟨this.1, by omega⟩
   have := key (n := ek (cZ h k) k + 1) (ids := []) h1;exact ⟨this.1, by have := this.2; simp only [List.length_nil] at this; omega⟩
end Go.Proofs.YticeaiiffeccmaaGreat

