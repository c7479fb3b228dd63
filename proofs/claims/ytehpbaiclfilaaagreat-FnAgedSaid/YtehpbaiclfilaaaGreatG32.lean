/- Parts of a proof. No conditions. -/

import Derived.Test.YtehpbaiclfilaaaGreatG25
import Derived.Test.YtehpbaiclfilaaaGreatG15
import Derived.Test.YtehpbaiclfilaaaGreatG16
import Derived.Test.YtehpbaiclfilaaaGreatG26
import Derived.Test.YtehpbaiclfilaaaGreatG22
set_option linter.unusedSimpArgs false
set_option linter.unusedVariables false
namespace Go.Proofs.YtehpbaiclfilaaaGreat
open Go
set_option maxRecDepth 100000
theorem SU {α : Type} {f : α → Int} {l : List α} (hd : l.Pairwise fun a b => f a ≠ f b) {i : Nat} (hi : i < l.length) {z : α} : z ∈ l.take i ++ l.drop (i + 1) ↔ z ∈ l ∧ f z ≠ f l[i] := by
 have pm : l.Perm (l[i] :: (l.take i ++ l.drop (i + 1))) := by
   conv => lhs; rw [AD hi]
   exact List.perm_middle
 obtain ⟨n1, _⟩ := List.pairwise_cons.1 ((pm.pairwise_iff (fun {a b} q e => q e.symm)).1 hd);rw [pm.mem_iff, List.mem_cons]
 constructor
 · intro hz;exact ⟨.inr hz, fun e => n1 z hz e.symm⟩
 · rintro ⟨rfl | hz, hn⟩
   · exact (hn rfl).elim
   · exact hz
theorem ya {α : Type} (l : List α) (a : Int) : (cutAt l a).Sublist l := by
 unfold cutAt; split
 · exact List.Sublist.refl _
 · have h := List.Sublist.append (List.Sublist.refl (l.take a.toNat)) (List.drop_sublist_drop_left l (Nat.le_succ a.toNat))
   rwa [List.take_append_drop] at h
theorem KY {l : List Entry} (hd : l.Pairwise fun a b => a.bg ≠ b.bg) {id : Int} {y : Entry} : y ∈ jq l id ↔ y ∈ l ∧ y.bg ≠ id := by
 rcases hO (fun e : Entry => e.bg == id) l with ⟨e, hn⟩ | ⟨i, hi, e, e1, _⟩
 · have e : dm l id = -1 := e;rw [jq, cutAt, e, if_pos (by omega)];exact ⟨fun h => ⟨h, fun q => by have := hn y h; simp [q] at this⟩, fun h => h.1⟩
 · have e : dm l id = (i : Int) := e;have e1 : l[i].bg = id := by simpa using e1
   rw [jq, cutAt, e, if_neg (by omega), Int.toNat_natCast, SU (f := Entry.bg) hd hi, e1]
theorem SV {l : List Entry} {id : Int} {y : Entry} (hy : y ∈ l) (e : y.bg = id) : (jq l id).length + 1 = l.length := by
 rcases hO (fun e : Entry => e.bg == id) l with ⟨_, hn⟩ | ⟨i, hi, e2, _, _⟩
 · have := hn y hy;simp [e] at this
 · have e2 : dm l id = (i : Int) := e2;rw [jq, cutAt, e2, if_neg (by omega), Int.toNat_natCast, List.length_append, List.length_take, List.length_drop];omega
section
variable {h : ai} {i k : Nat} {p : au} {c : a_}
theorem yb (o : bJ h i k p c) : mF h (k : Int) p = { h with ae := h.ae.set i (gH h p), cabins := h.cabins.set k (vM h c p) } := by
 have e1 : fT h.ae (gH h p) = h.ae.set i (gH h p) := J1 o.at_;rw [mF, e1, show aC h (k : Int) = c from iI o.hk];show ({ h with ae := _, cabins := h.cabins.set ((k : Int)).toNat _ } : ai) = _;rw [Int.toNat_natCast]
theorem bJ.aD (o : bJ h i k p c) (h1 : p.st = 1) : eV h.rules p h.now ∈ c.row := o.row.2 ⟨p, o.mem, o.cf, h1, rfl⟩
theorem bJ.offer (o : bJ h i k p c) (h1 : p.st = 1) (iw : p.siz ≤ c.ah.free) : HG (mF h (k : Int) p) ∧ br (kJ c.spoke (eP (gH h p))) = true := by
 obtain ⟨hi, ei⟩ := o.lt;have hk := bq o.hk;have g := o.hg.dR o.hk;have r := sB o.hg o.hk;have hd := iG o.hg.ae;have sz := o.siz;have hr := dO o.hg.rules;have pn := gb o.ok;have hn := bB o.hg.now;have ok : bF h.rules (gH h p) h.now = true := SK o.ok
 have dn : (bd c.spoke).length ≤ 9 := by
   have a1 : (bC c.spoke).length = (bd c.spoke).length := by rw [bC, if_pos g.kh, jy]
   have a2 : (gF h.ae (k : Int)).length = (fP (k : Int) h.ae).length := by rw [gF, jy]
   have a3 := r.bT;have a4 := r.room;have a5 := hr.room;have a6 := List.length_pos_of_mem (o.aD h1);rw [g.pins] at a1;omega
 have SW : eZ (eP (gH h p)) = true := by
   show (aj (h.now + h.rules.ck) 1 1000008 && aj p.id 1 999) = true;have := hr.ck;have := pn.id;simp only [aj, Bool.and_eq_true, decide_eq_true_eq];omega
 have wp := SI g.kh SW (fun q hq e => by
   obtain ⟨z, hz, _, hs, rfl⟩ := o.pins.1 hq;have hne : z ≠ p := fun e => by rw [e, h1] at hs; cases hs
   exact o.one hz hne e) dn
 have ld := SO g.eD (n := p.siz) (by omega) iw;refine ⟨?_, wp.1⟩;generalize hq : gH h p = q at ok wp;have q1 : q.id = p.id := by rw [← hq]; rfl
 have q2 : q.aw = p.aw := by rw [← hq]; rfl
 have q3 : q.since = p.since := by rw [← hq]; rfl
 have q4 : q.cf = (k : Int) := by rw [← hq]; exact o.cf
 have q5 : q.st = 2 := by rw [← hq]; rfl
 have q6 : q.al = p.al := by rw [← hq]; rfl
 have q7 : q.siz = p.siz := by rw [← hq]; rfl
 have cN : cY h.rules h.now h.aw (h.ae.set i q) := o.hg.ae.set hi ok (by rw [ei, q1]) (by rw [ei, q2]) (by rw [ei, q3]);have hm : ∀ z, z ∈ h.ae.set i q ↔ z = q ∨ (z ∈ h.ae ∧ z.id ≠ p.id) := fun z => by rw [xZ hd hi, ei]
 rw [yb o, hq];refine o.hg.next rfl rfl rfl ?_ ?_ rfl rfl cN fun j c1 hj => ?_
 · show (h.ae.set i q).length ≤ 40;rw [List.length_set]; exact o.hg.dn
 · show (h.cabins.set k _).length = _;rw [List.length_set]
 show lZ h.rules h.now (h.ae.set i q) j c1;have hj : (h.cabins.set k (vM h c p))[j]? = some c1 := hj;rw [List.getElem?_set] at hj;have s1 := vL (bx (j : Int)) hi q;have s2 := vL (cp (j : Int)) hi q;have s3 := vL (cz (j : Int)) hi q;have SP : bx (j : Int) q = bx (j : Int) h.ae[i] := by rw [ei, bx, bx, q4, o.cf]
 have SQ : cz (j : Int) q = cz (j : Int) h.ae[i] := by rw [ei, cz, cz, k_, k_, q6, q7]
 by_cases ej : k = j
 · subst ej;rw [if_pos rfl, if_pos hk] at hj;cases hj;rw [ei, nC (.inl (by rw [h1]; decide)), x_ q5 q4 (by rw [q7]; exact sz), q7] at s2;refine ⟨?_, ?_, ld.2, ?_, by show br (kJ c.spoke (eP (gH h p))) = true; rw [hq]; exact wp.1, ?_, ?_, ?_⟩
   · show (bz c.ah p.siz (-1) 1 0 0).total = _;rw [ld.1]; exact g.total
   · have := g.room; omega
   · refine tV cN ?_ fun y => ?_
     · show (jq c.row p.id).Pairwise _;exact r.pre.lt.sublist (ya _ _)
     · show y ∈ jq c.row p.id ↔ _;rw [KY r.pre.ne, o.row]
       constructor
       · rintro ⟨⟨z, hz, hc, hs, rfl⟩, hn⟩
         exact ⟨z, (hm z).2 (.inr ⟨hz, hn⟩), hc, hs, rfl⟩
       · rintro ⟨z, hz, hc, hs, rfl⟩
         rcases (hm z).1 hz with rfl | ⟨hz, hn⟩
         · rw [q5] at hs; cases hs
         · exact ⟨⟨z, hz, hc, hs, rfl⟩, hn⟩
   · show bC (kJ c.spoke (eP (gH h p))) = _;rw [hq];refine AE cN wp.1 fun y => ?_;rw [wp.2, o.pins]
     constructor
     · rintro (rfl | ⟨z, hz, hc, hs, rfl⟩)
       · exact ⟨q, (hm q).2 (.inl rfl), q4, q5, rfl⟩
       · have hne : z ≠ p := fun e => by rw [e, h1] at hs; cases hs
         exact ⟨z, (hm z).2 (.inr ⟨hz, o.one hz hne⟩), hc, hs, rfl⟩
     · rintro ⟨z, hz, hc, hs, rfl⟩
       rcases (hm z).1 hz with rfl | ⟨hz, _⟩
       · exact .inl rfl
       · exact .inr ⟨z, hz, hc, hs, rfl⟩
   · show (bz c.ah p.siz (-1) 1 0 0).held = _;rw [ld.1];show c.ah.held + p.siz = _;have := g.held;omega
   · show (bz c.ah p.siz (-1) 1 0 0).tied = _;rw [ld.1];show c.ah.tied = _;have := g.tied;omega
 · rw [if_neg ej] at hj;have gj := o.hg.dR hj;have hne : ((k : Int)) ≠ (j : Int) := by omega
   rw [ei, nC (.inr (by rw [o.cf]; exact hne)), nC (.inr (by rw [q4]; exact hne))] at s2;refine gj.other o.hg.ae cN rfl rfl rfl gj.eD (fun z hz => ?_) (by omega) (by have := gj.held; omega) (by have := gj.tied; omega);rw [hm]
   constructor
   · rintro (rfl | h)
     · exact (hne (q4.symm.trans hz)).elim
     · exact h.1
   · intro h;exact .inr ⟨h, o.one h fun e => hne (by rw [← o.cf, ← e]; exact hz)⟩
end
theorem SX {h : ai} (hg : HG h) {k : Nat} {c : a_} (hk : h.cabins[k]? = some c) (hn : vz h c ≠ 0) : ∃ i p, bJ h i k p c ∧ p.st = 1 ∧ p.siz ≤ c.ah.free ∧ p.id = vz h c ∧ ca h (vz h c) = p := by
 have g := hg.dR hk;rw [vz] at hn ⊢;rcases hO (sf c.ah.free (lW h)) c.row with ⟨e, _⟩ | ⟨j, hj, e, e1, _⟩
 · have e : lV c.row c.ah.free (lW h) = -1 := e;rw [e, if_pos (by omega)] at hn;exact (hn rfl).elim
 · have e : lV c.row c.ah.free (lW h) = (j : Int) := e;rw [e, if_neg (by omega), Int.toNat_natCast, List.getElem?_eq_getElem hj, Option.getD_some];have hm := List.getElem_mem hj;have oW : ∃ z ∈ h.ae, z.cf = (k : Int) ∧ z.st = 1 ∧ c.row[j] = eV h.rules z h.now := (mE hg.ae).1 (by rw [← g.row]; exact hm);obtain ⟨z, hz, hc, hs, ez⟩ := oW;rw [ez] at e1 ⊢
   have e1 : z.siz ≤ c.ah.free := by
    simp only [sf, Bool.and_eq_true, decide_eq_true_eq] at e1;exact e1.1
   obtain ⟨i, hi, e2, e3⟩ := sI (iG hg.ae) hz;refine ⟨i, z, ⟨hg, by rw [List.getElem?_eq_getElem hi, e3], hk, hc, (hg.ae.ok z hz).1, e2⟩, hs, e1, rfl, ?_⟩;show (h.ae[(aP h.ae z.id).toNat]?).getD default = z;rw [e2, Int.toNat_natCast, List.getElem?_eq_getElem hi, e3]; rfl
theorem HG.small {h : ai} (hg : HG h) : bh h := by
 have hr := dO hg.rules;have h1 := hr.len;have h2 := hg.dn;have h3 := hg.fy;have h4 := tP hg;have h5 := hg.bP;have h6 := hr.bP;refine ⟨?_, ?_, ⟨?_, fun c hc => ?_⟩, ?_, ?_⟩
 · show _ ≤ 1048576; omega
 · show _ ≤ 1048576; omega
 · show _ ≤ 1048576; omega
 · obtain ⟨k, hk, rfl⟩ := List.getElem_of_mem hc;have r := sB hg (List.getElem?_eq_getElem hk);have a1 := r.bT;have a2 := r.room;have a3 := hr.room;have w := wG r.kh;refine ⟨by show _ ≤ 1048576; omega, by show _ ≤ 1048576; rw [w.len]; omega, fun y hy => ?_⟩
   have : y.length ≤ (h.cabins[k]).spoke.flatten.length := by
    have h2 : ∀ {w : List (List aA)} {l : List aA}, l ∈ w → l.length ≤ w.flatten.length := by
     intro w l hl
     induction w with
     | nil => cases hl
     | cons a w ih =>
       simp only [List.flatten_cons, List.length_append];rcases List.mem_cons.1 hl with rfl | hl
       · omega
       · have := ih hl; omega
    exact h2 hy
   have w2 : (h.cabins[k]).spoke.flatten.length ≤ 10 := w.dn;show _ ≤ 1048576; omega
 · show _ ≤ 1048576; omega
 · show _ ≤ 1048576; omega
def eo : List Int → ai → ai
 | [], E => E
 | d :: ds, E => eo ds (dK E (ca E d))
def fI (h : ai) (k : Int) : ai := eo (bX h k) h
theorem sm : ∀ (ds : List Int) (d : Int) (E : ai), eo (ds ++ [d]) E = dK (eo ds E) (ca (eo ds E) d)
 | [], _, _ => rfl
 | x :: ds, d, E => sm ds d (dK E (ca E x))
theorem sE {ds : List Int} {i : Nat} (hi : i < ds.length) (E : ai) : eo (ds.take (i + 1)) E = dK (eo (ds.take i) E) (ca (eo (ds.take i) E) ds[i]) := by
 rw [List.take_add_one, List.getElem?_eq_getElem hi]; exact sm _ _ _
structure ki (h : ai) (k : Nat) (ds : List Int) (E : ai) : Prop where
 hg : HG E
 rules : E.rules = h.rules
 now : E.now = h.now
 len : E.cabins.length = h.cabins.length
 todo : E.todo = h.todo
 aN : E.aN = h.aN
 nd : ds.Pairwise fun a b => a ≠ b
 rem : ∀ d ∈ ds, ∃ p ∈ E.ae, p.id = d ∧ p.cf = (k : Int) ∧ p.st = 2
theorem ki.start {h : ai} (hg : HG h) {k : Nat} {c : a_} (hk : h.cabins[k]? = some c) : ki h k (sD c h.now) h := by
 have g := hg.dR hk;refine ⟨hg, rfl, rfl, rfl, rfl, rfl, ?_, fun d hd => ?_⟩
 · rw [sD, dB, List.pairwise_map];refine List.Pairwise.filter _ ?_;rw [bC, if_pos g.kh];exact ((EF (lt := bm) (bd c.spoke)).pairwise_iff (R := fun a b => a.pid ≠ b.pid) (fun {a b} q e => q e.symm)).2 (wG g.kh).ne
 · rw [sD, dB] at hd;obtain ⟨q, hq, rfl⟩ := List.mem_map.1 hd;have hq := (List.mem_filter.1 hq).1;rw [g.pins, lX] at hq;obtain ⟨z, hz, hc, hs, rfl⟩ := hq;exact ⟨z, hz, rfl, hc, hs⟩
theorem ki.at_ {h : ai} {k : Nat} {d : Int} {ds : List Int} {E : ai} (I : ki h k (d :: ds) E) (hk : k < h.cabins.length) : ∃ i c, bJ E i k (ca E d) c ∧ (ca E d).st = 2 ∧ (ca E d).id = d ∧ aP E.ae d = (i : Int) := by
 obtain ⟨p, hp, e1, e2, e3⟩ := I.rem d List.mem_cons_self;obtain ⟨i, hi, e4, e5⟩ := sI (iG I.hg.ae) hp;rw [e1] at e4
 have ep : ca E d = p := by
  show (E.ae[(aP E.ae d).toNat]?).getD default = p;rw [e4, Int.toNat_natCast, List.getElem?_eq_getElem hi, e5]; rfl
 have bD : k < E.cabins.length := by rw [I.len]; exact hk
 rw [ep];exact ⟨i, E.cabins[k], ⟨I.hg, by rw [List.getElem?_eq_getElem hi, e5], List.getElem?_eq_getElem bD, e2, (I.hg.ae.ok p hp).1, by rw [e1]; exact e4⟩, e3, e1, e4⟩
theorem ki.step {h : ai} {k : Nat} {d : Int} {ds : List Int} {E : ai} (I : ki h k (d :: ds) E) (hk : k < h.cabins.length) : ki h k ds (dK E (ca E d)) := by
 obtain ⟨i, c, o, h2, dQ, _⟩ := I.at_ hk;obtain ⟨k1, k2, k3, k4, k5⟩ := o.fj;obtain ⟨n1, n2⟩ := List.pairwise_cons.1 I.nd;refine ⟨o.AG h2, k1.trans I.rules, k2.trans I.now, k3.trans I.len, k4.trans I.todo, k5.trans I.aN, n2, fun x hx => ?_⟩;obtain ⟨p, hp, e1, e2, e3⟩ := I.rem x (List.mem_cons_of_mem _ hx);exact ⟨p, o.stay hp (by rw [e1, dQ]; exact fun e => n1 x hx e.symm), e1, e2, e3⟩
theorem K1 {h : ai} {k : Nat} (hk : k < h.cabins.length) : ∀ (ds : List Int) (E : ai), ki h k ds E → ki h k [] (eo ds E)
 | [], _, I => I
 | d :: ds, E, I => K1 hk ds (dK E (ca E d)) (I.step hk)
theorem EP {h : ai} {k : Int} (hv : cC h k = true) : HG h ∧ ∃ (n : Nat) (c : a_), h.cabins[n]? = some c ∧ k = (n : Int) := by
 simp only [cC, Bool.and_eq_true] at hv;obtain ⟨h1, h2⟩ := hv;have h2 := bB h2;obtain ⟨n, rfl⟩ : ∃ n : Nat, k = (n : Int) := ⟨k.toNat, by omega⟩;have hn : n < h.cabins.length := by omega
 exact ⟨cI.1 h1, n, h.cabins[n], List.getElem?_eq_getElem hn, rfl⟩
theorem AH {h : ai} (hg : HG h) {n : Nat} (hn : n < h.cabins.length) : cC h (n : Int) = true := by
 rw [cC, cI.2 hg];simp only [aj, Bool.and_eq_true, decide_eq_true_eq, true_and];exact ⟨by omega, by omega⟩
theorem nH {h : ai} {k : Int} (hv : cC h k = false) : bX h k = [] := by rw [bX, hv]; rfl
theorem AI {h : ai} {n : Nat} {c : a_} (hg : HG h) (hk : h.cabins[n]? = some c) : bX h (n : Int) = sD c h.now := by
 rw [bX, if_pos (AH hg (bq hk)), iI hk]
theorem EV {h : ai} {k : Int} {i : Nat} (hi : i < (bX h k).length) : ∃ n : Nat, k = (n : Int) ∧ n < h.cabins.length ∧ ki h n ((bX h k).drop i) (eo ((bX h k).take i) h) := by
 have hv : cC h k = true := by
  cases e : cC h k with
  | true => rfl
  | false => rw [nH e] at hi; cases hi
 obtain ⟨hg, n, c, hk, rfl⟩ := EP hv;have hn := bq hk;refine ⟨n, rfl, hn, ?_⟩
 have key : ∀ i, i ≤ (bX h (n : Int)).length → ki h n ((bX h (n : Int)).drop i) (eo ((bX h (n : Int)).take i) h) := by
  intro i
  induction i with
  | zero =>
    intro _;rw [AI hg hk];exact ki.start hg hk
  | succ i ih =>
    intro hi;have I := ih (by omega);rw [← List.getElem_cons_drop (by omega : i < (bX h (n : Int)).length)] at I;rw [sE (by omega : i < (bX h (n : Int)).length)];exact I.step hn
 exact key i (by omega)
theorem sM {h : ai} {n : Nat} (hg : HG h) (hn : n < h.cabins.length) : ki h n [] (fI h (n : Int)) := by
 have hk := List.getElem?_eq_getElem hn;rw [fI, AI hg hk];exact K1 hn _ _ (ki.start hg hk)
theorem oD {h : ai} (hs : bh h) (k : Int) : bh (fI h k) := by
 cases hv : cC h k with
 | false => rw [fI, nH hv]; exact hs
 | true =>
   obtain ⟨hg, n, c, hk, rfl⟩ := EP hv;exact (sM hg (bq hk)).hg.small
def gI (h : ai) (k : Int) : ai := if eE h k = 0 then h else mF h k (ca h (eE h k))
theorem SZ {h : ai} {n : Nat} {c : a_} (hg : HG h) (hk : h.cabins[n]? = some c) : eE h (n : Int) = vz h c := by
 rw [eE, if_pos (AH hg (bq hk)), iI hk]
theorem ET {h : ai} {k : Int} (hv : ¬ eE h k = 0) : ∃ (n : Nat) (c : a_) (i : Nat) (p : au), k = (n : Int) ∧ bJ h i n p c ∧ p.st = 1 ∧ p.siz ≤ c.ah.free ∧ p.id = eE h k ∧ ca h (eE h k) = p := by
 have hc : cC h k = true := by
  cases e : cC h k with
  | true => rfl
  | false => rw [eE, e] at hv; exact absurd rfl hv
 obtain ⟨hg, n, c, hk, rfl⟩ := EP hc;have e := SZ hg hk;rw [e] at hv ⊢;obtain ⟨i, p, h1, h2, h3, h4, h5⟩ := SX hg hk hv;exact ⟨n, c, i, p, rfl, h1, h2, h3, h4, h5⟩
def hR (E : ai) (k : Int) : Nat := (aC E k).row.length
def gJ : Nat → Int → ai → List Int → ai × List Int
 | 0, _, E, ids => (E, ids)
 | n + 1, k, E, ids => if eE E k = 0 then (E, ids) else gJ n k (gI E k) (ids ++ [eE E k])
def o9 (k : Int) (E : ai) (ids : List Int) : ai × List Int := gJ (hR E k + 1) k E ids
def jc (h : ai) (k : Int) : ai × List Int := o9 k (fI h k) []
theorem sO {k : Int} {E : ai} {ids : List Int} (h : eE E k = 0) : o9 k E ids = (E, ids) := if_pos h
theorem tX {E : ai} {k : Int} (hv : ¬ eE E k = 0) : HG E ∧ HG (gI E k) ∧ (gI E k).rules = E.rules ∧ (gI E k).now = E.now ∧ (gI E k).cabins.length = E.cabins.length ∧ (gI E k).todo = E.todo ∧ (gI E k).aN = E.aN ∧ hR (gI E k) k + 1 = hR E k ∧ hR E k ≤ 10 := by
 obtain ⟨n, c, i, p, rfl, o, st, fr, bg, ep⟩ := ET hv;have e : gI E (n : Int) = mF E (n : Int) p := by rw [gI, if_neg hv, ep]
 have hk := bq o.hk;rw [e, yb o];have h1 := (o.offer st fr).1;rw [yb o] at h1;refine ⟨o.hg, h1, rfl, rfl, List.length_set, rfl, rfl, ?_, ?_⟩
 · have a1 : aC { E with ae := E.ae.set i (gH E p), cabins := E.cabins.set n (vM E c p) } (n : Int) = vM E c p := by
    show ((E.cabins.set n (vM E c p))[((n : Int)).toNat]?).getD default = _;rw [Int.toNat_natCast, List.getElem?_set]; simp [hk]
   rw [hR, a1, hR, iI o.hk];exact SV (o.aD st) rfl
 · rw [hR, iI o.hk];have r := sB o.hg o.hk;have := r.bT;have := r.room;have := (dO o.hg.rules).room;omega
theorem EW {k : Int} {E : ai} {ids : List Int} (hv : ¬ eE E k = 0) : o9 k E ids = o9 k (gI E k) (ids ++ [eE E k]) := by
 have h1 := (tX hv).2.2.2.2.2.2.2.1;rw [o9, gJ, if_neg hv, o9, h1]
theorem EX {h : ai} (hs : bh h) (k : Int) : bh (gI h k) := by
 by_cases hv : eE h k = 0
 · rw [gI, if_pos hv]; exact hs
 · exact (tX hv).2.1.small
theorem EY {h : ai} (hs : bh h) (k : Int) : bh (jc h k).1 ∧ (jc h k).2.length ≤ 11 := by
 have h1 := oD hs k
 by_cases hv : eE (fI h k) k = 0
 · rw [jc, sO hv]; exact ⟨h1, Nat.zero_le _⟩
 · have h2 := (tX hv).2.2.2.2.2.2.2.2;rw [jc, o9]
   have key : ∀ {n : Nat} {E : ai} {ids : List Int}, bh E → bh (gJ n k E ids).1 ∧ (gJ n k E ids).2.length ≤ ids.length + n := by
    intro n
    induction n with
    | zero => intro E ids h; exact ⟨h, by show ids.length ≤ _; omega⟩
    | succ n ih =>
      intro E ids h;unfold gJ; split
      · exact ⟨h, by show ids.length ≤ _; omega⟩
      · have := ih (ids := ids ++ [eE E k]) (EX h k);rw [List.length_append, List.length_singleton] at this;exact ⟨this.1, by omega⟩
   have := key (n := hR (fI h k) k + 1) (ids := []) h1;exact ⟨this.1, by have := this.2; simp only [List.length_nil] at this; omega⟩
end Go.Proofs.YtehpbaiclfilaaaGreat

