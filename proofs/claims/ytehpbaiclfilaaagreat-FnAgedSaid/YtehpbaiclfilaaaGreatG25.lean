/- Parts of a proof. No conditions. -/

import Derived.Test.YtehpbaiclfilaaaGreatG24
import Derived.Test.YtehpbaiclfilaaaGreatG23
import Derived.Test.YtehpbaiclfilaaaGreatG21
import Derived.Test.YtehpbaiclfilaaaGreatG19
set_option linter.unusedSimpArgs false
set_option linter.unusedVariables false
namespace Go.Proofs.YtehpbaiclfilaaaGreat
open Go
set_option maxRecDepth 100000
def eP (p : au) : aA := ⟨p.bW, p.id⟩
theorem EE {α : Type} {lt : α → α → Bool} (h : kA lt) (z : α) : lt z z = false := by
 cases q : lt z z with
 | false => rfl
 | true => have := h.as _ _ q; rw [q] at this; cases this
theorem sG {α : Type} {lt : α → α → Bool} (h : kA lt) : ∀ {a b : List α}, (a.Pairwise fun x y => lt x y = true) → (b.Pairwise fun x y => lt x y = true) → (∀ x, x ∈ a ↔ x ∈ b) → a = b
 | [], [], _, _, _ => rfl
 | [], y :: b, _, _, he => by have := (he y).2 List.mem_cons_self; cases this
 | x :: a, [], _, _, he => by have := (he x).1 List.mem_cons_self; cases this
 | x :: a, y :: b, ha, hb, he => by
   obtain ⟨a1, a2⟩ := List.pairwise_cons.1 ha;obtain ⟨b1, b2⟩ := List.pairwise_cons.1 hb
   have e : x = y := by
     rcases List.mem_cons.1 ((he x).1 List.mem_cons_self) with q | q
     · exact q
     rcases List.mem_cons.1 ((he y).2 List.mem_cons_self) with r | r
     · exact r.symm
     have := h.as _ _ (b1 x q);rw [a1 y r] at this; cases this
   subst e
   congr 1
   refine sG h a2 b2 fun z => ⟨fun hz => ?_, fun hz => ?_⟩
   · rcases List.mem_cons.1 ((he z).1 (List.mem_cons_of_mem _ hz)) with rfl | q
     · have := a1 z hz; rw [EE h] at this; cases this
     · exact q
   · rcases List.mem_cons.1 ((he z).2 (List.mem_cons_of_mem _ hz)) with rfl | q
     · have := b1 z hz; rw [EE h] at this; cases this
     · exact q
theorem KQ {α : Type} {lt : α → α → Bool} {x : α} : ∀ {s : List α}, (fX lt x s).Perm (x :: s)
 | [] => List.Perm.refl _
 | a :: s => by
   rw [fX]; split
   · exact List.Perm.refl _
   · exact ((KQ (s := s)).cons a).trans (List.Perm.swap x a s)
theorem KR {α : Type} {lt : α → α → Bool} {x : α} : ∀ {s : List α}, (bG lt x s).Perm (x :: s)
 | [] => List.Perm.refl _
 | a :: s => by
   rw [bG]; split
   · exact ((KR (s := s)).cons a).trans (List.Perm.swap x a s)
   · exact List.Perm.refl _
theorem EF {α : Type} {lt : α → α → Bool} (l : List α) : (dz lt l).Perm l := by
 obtain ⟨n, hn⟩ : ∃ n, l.length = n := ⟨_, rfl⟩
 induction n generalizing l with
 | zero =>
   have : l = [] := List.length_eq_zero_iff.1 hn;subst this; exact List.Perm.refl _
 | succ n ih =>
   rcases List.eq_nil_or_concat l with rfl | ⟨l', x, rfl⟩
   · exact List.Perm.refl _
   · rw [List.concat_eq_append, s9];exact KQ.trans (((ih l' (by simpa using hn)).cons x).trans (List.perm_append_singleton x l').symm)
theorem EG {α : Type} {lt : α → α → Bool} (h : kA lt) {l : List α} {R : α → α → Prop} (sym : ∀ a b, R a b → R b a) (aS : ∀ a b, lt b a = false → R a b → lt a b = true) (hl : l.Pairwise R) : (dz lt l).Pairwise fun a b => lt a b = true := by
 have h1 := yM h l;have h2 : (dz lt l).Pairwise R := ((EF l).pairwise_iff (fun {a b} => sym a b)).2 hl;exact (h1.and h2).imp fun {a b} q => aS a b q.1 q.2
theorem AB {α : Type} {lt : α → α → Bool} (h : kA lt) {e : α} : ∀ {l : List α}, (l.Pairwise fun a b => lt a b = true) → (∀ y ∈ l, lt y e = false → lt e y = true) → (bG lt e l).Pairwise fun a b => lt a b = true
 | [], _, _ => List.pairwise_singleton _ _
 | a :: s, hl, hn => by
   obtain ⟨l1, l2⟩ := List.pairwise_cons.1 hl;rw [bG]
   split
   · rename_i aL;refine List.pairwise_cons.2 ⟨fun b hb => ?_, AB h l2 fun y hy => hn y (List.mem_cons_of_mem _ hy)⟩;rcases pL.1 hb with rfl | hb
     · exact aL
     · exact l1 b hb
   · rename_i aL;have aL : lt e a = true := hn a List.mem_cons_self (by simpa using aL);refine List.pairwise_cons.2 ⟨fun b hb => ?_, hl⟩;rcases List.mem_cons.1 hb with rfl | hb
     · exact aL
     · exact h.tr _ _ _ aL (l1 b hb)
theorem iG {R : bp} {now aw : Int} {l : List au} (h : cY R now aw l) : l.Pairwise fun a b => a.id ≠ b.id := h.fm.imp fun {a b : au} q => Int.ne_of_lt q
theorem SE {R : bp} {now aw : Int} {l : List au} (h : cY R now aw l) : l.Pairwise fun a b => a.aw ≠ b.aw := h.fair.imp fun {a b} q e => by simp [fR, e] at q
theorem KS {R : bp} {now aw : Int} {l : List au} (h : cY R now aw l) (k : Int) : (fx R k now l).Pairwise fun a b => a.aw ≠ b.aw ∧ a.bg ≠ b.bg := by
 rw [fx, List.pairwise_map, List.pairwise_filter];refine ((SE h).and (iG h)).imp fun {a b} q ha hb => ?_;simp only [Bool.and_eq_true] at ha hb;rw [cn, if_pos ha.1, cn, if_pos hb.1]; exact q
theorem nz {R : bp} {now aw : Int} {l : List au} (h : cY R now aw l) (k : Int) : (cH R l k now).Pairwise fun a b => aY a b = true :=
 EG lD (R := fun a b => a.aw ≠ b.aw ∧ a.bg ≠ b.bg) (fun a b q => ⟨fun e => q.1 e.symm, fun e => q.2 e.symm⟩) (fun a b q1 q2 => At q1 (fun e => q2.1 e.symm)) (KS h k)
theorem mE {R : bp} {now aw : Int} {l : List au} (h : cY R now aw l) {k : Int} {y : Entry} : y ∈ cH R l k now ↔ ∃ z ∈ l, z.cf = k ∧ z.st = 1 ∧ y = eV R z now := by
 rw [cH, wB, fx, List.mem_map]
 constructor
 · rintro ⟨z, hz, rfl⟩
   obtain ⟨z1, z2⟩ := List.mem_filter.1 hz;simp only [Bool.and_eq_true, beq_iff_eq] at z2;have z3 := z2.1;simp only [fu, Bool.and_eq_true, beq_iff_eq] at z3;exact ⟨z, z1, z2.2, z3.2, by rw [cn, if_pos z2.1]⟩
 · rintro ⟨z, hz, hc, hs, rfl⟩
   have e : fu R z now = true := by rw [fu, (h.ok z hz).1, hs]; rfl
   exact ⟨z, List.mem_filter.2 ⟨hz, by rw [e, hc]; simp⟩, by rw [cn, if_pos e]⟩
theorem KU {R : bp} {now aw : Int} {l : List au} (h : cY R now aw l) (k : Int) : gE (cH R l k now) := by
 refine ⟨fun e he => ?_, nz h k, ?_⟩
 · obtain ⟨z, hz, hc, hs, rfl⟩ := (mE h).1 he;have ok := (h.ok z hz).1;have := Ev ok hs
   rwa [sA ok hs] at this
 · have := ((EF (lt := aY) (fx R k now l)).pairwise_iff (R := fun a b => a.aw ≠ b.aw ∧ a.bg ≠ b.bg) (fun {a b} q => ⟨fun e => q.1 e.symm, fun e => q.2 e.symm⟩)).2 (KS h k);exact this.imp fun {a b} q => q.2
theorem lX {l : List au} {k : Int} {y : aA} : y ∈ gF l k ↔ ∃ z ∈ l, z.cf = k ∧ z.st = 2 ∧ y = eP z := by
 rw [gF, wB, fP, List.mem_map]
 constructor
 · rintro ⟨z, hz, rfl⟩
   obtain ⟨z1, z2⟩ := List.mem_filter.1 hz;simp only [Bool.and_eq_true, beq_iff_eq] at z2;exact ⟨z, z1, z2.2, z2.1, rfl⟩
 · rintro ⟨z, hz, hc, hs, rfl⟩
   exact ⟨z, List.mem_filter.2 ⟨hz, by rw [hs, hc]; simp⟩, rfl⟩
theorem EH {a b : aA} (h : bm b a = false) (ht : a.pid ≠ b.pid) : bm a b = true := by
 simp only [bm, Bool.or_eq_false_iff, Bool.and_eq_false_iff, decide_eq_false_iff_not, beq_eq_false_iff_ne] at h;simp only [bm, Bool.or_eq_true, Bool.and_eq_true, decide_eq_true_eq, beq_iff_eq];omega
theorem tT {R : bp} {now aw : Int} {l : List au} (h : cY R now aw l) (k : Int) : (gF l k).Pairwise fun a b => bm a b = true := by
 refine EG jz (R := fun a b => a.pid ≠ b.pid) (fun a b q e => q e.symm) (fun a b q1 q2 => EH q1 q2) ?_;rw [fP, List.pairwise_map, List.pairwise_filter];exact (iG h).imp fun {a b} q _ _ => q
theorem EI {w : List (List aA)} (h : br w = true) {q : aA} : q ∈ bC w ↔ q ∈ bd w := by rw [bC, if_pos h, wB]
theorem SF {w : List (List aA)} (h : br w = true) : (bC w).Pairwise fun a b => bm a b = true := by
 rw [bC, if_pos h];exact EG jz (R := fun a b => a.pid ≠ b.pid) (fun a b q e => q e.symm) (fun a b q1 q2 => EH q1 q2) (wG h).ne
theorem EJ {w : List (List aA)} {k : Nat} (hk : k < w.length) (x : List aA) : bd (w.set k x) = (w.take k).flatten ++ (x ++ (w.drop (k + 1)).flatten) := by
 rw [bd, List.set_eq_take_append_cons_drop, if_pos hk, List.flatten_append, List.flatten_cons]
theorem EK {w : List (List aA)} {k : Nat} (hk : k < w.length) : bd w = (w.take k).flatten ++ (w[k] ++ (w.drop (k + 1)).flatten) := by
 have := EJ hk w[k]
 rwa [List.set_getElem_self hk] at this
theorem SG {w : List (List aA)} (h : br w = true) {p : aA} (hp : p ∈ bd w) : ∃ hk : fU p < w.length, p ∈ w[fU p] := by
 obtain ⟨l, hl, mT⟩ := List.mem_flatten.1 hp;obtain ⟨k, hk, rfl⟩ := List.getElem_of_mem hl;have e := (wG h).at_ k _ (List.getElem?_eq_getElem hk) p mT;have e2 : fU p = k := by rw [fU, e]; rfl
 subst e2;exact ⟨hk, mT⟩
theorem sH {w : List (List aA)} {p : aA} (hk : fU p < w.length) : bL w p = w[fU p] := by
 show w.getD (fU p) [] = _;rw [List.getD_eq_getElem?_getD, List.getElem?_eq_getElem hk]; rfl
theorem SH {w : List (List aA)} (h : br w = true) {p : aA} (hp : p ∈ bd w) : br (i_ w p) = true ∧ ∀ q, q ∈ bd (i_ w p) ↔ q ∈ bd w ∧ q ≠ p := by
 obtain ⟨hk, hm⟩ := SG h hp;have g := wG h;have h1 : 1 ≤ p.tm := Al (g.ok p hp);rcases hO (fun q : aA => decide (q = p)) (bL w p) with ⟨_, e⟩ | ⟨i, hi, e, e1, _⟩
 · have := e p (by rw [sH hk]; exact hm);simp at this
 have e : lr (bL w p) p = (i : Int) := e;have eb : kb w p = true := by rw [Am h h1]; exact decide_eq_true (by omega)
 have e1 : (bL w p)[i] = p := of_decide_eq_true e1;rw [← J8 e eb]
 have hs : bL w p = (bL w p).take i ++ p :: (bL w p).drop (i + 1) := by
   have := List.getElem_cons_drop hi;rw [e1] at this;rw [this, List.take_append_drop]
 have pm : (bd w).Perm (p :: bd (w.set (fU p) ((bL w p).take i ++ (bL w p).drop (i + 1)))) := by
   rw [EJ hk, EK hk, ← sH hk]
   conv => lhs; rw [hs]
   generalize (bL w p).take i = a;generalize (bL w p).drop (i + 1) = b;generalize (w.take (fU p)).flatten = c;generalize (w.drop (fU p + 1)).flatten = d;have e : c ++ (a ++ p :: b ++ d) = (c ++ a) ++ p :: (b ++ d) := by simp
   have e2 : c ++ (a ++ b ++ d) = (c ++ a) ++ (b ++ d) := by simp
   rw [e, e2];exact List.perm_middle
 have ne : (p :: bd (w.set (fU p) ((bL w p).take i ++ (bL w p).drop (i + 1)))).Pairwise fun a b => a.pid ≠ b.pid := (pm.pairwise_iff (fun {a b} q e => q e.symm)).1 g.ne;obtain ⟨n1, n2⟩ := List.pairwise_cons.1 ne
 have sub : ((bL w p).take i ++ (bL w p).drop (i + 1)).Sublist (bL w p) := by
   have h := List.Sublist.append (List.Sublist.refl ((bL w p).take i)) (List.drop_sublist_drop_left (bL w p) (Nat.le_succ i))
   rwa [List.take_append_drop] at h
 refine ⟨J4.2 ⟨by rw [List.length_set]; exact g.len, ?_, fun q hq => g.ok q ((pm.mem_iff).2 (List.mem_cons_of_mem _ hq)), n2, fun j l hl q hq => ?_, fun l hl => ?_⟩, fun q => ?_⟩
 · have := pm.length_eq;have := g.dn;rw [List.length_cons] at *; omega
 · rw [List.getElem?_set] at hl
   split at hl
   · rename_i ej;cases hl;subst ej;refine g.at_ (fU p) (bL w p) (by rw [sH hk]; exact List.getElem?_eq_getElem hk) q (sub.subset hq)
   · exact g.at_ j l hl q hq
 · rcases List.mem_or_eq_of_mem_set hl with q | rfl
   · exact g.fm l q
   · exact (g.fm _ (by rw [sH hk]; exact List.getElem_mem hk)).sublist sub
 · rw [pm.mem_iff, List.mem_cons]
   constructor
   · intro hq;exact ⟨.inr hq, fun e => n1 q hq (by rw [e])⟩
   · rintro ⟨rfl | hq, hn⟩
     · exact (hn rfl).elim
     · exact hq
theorem SI {w : List (List aA)} (h : br w = true) {p : aA} (ok : eZ p = true) (hne : ∀ q ∈ bd w, q.pid ≠ p.pid) (dn : (bd w).length ≤ 9) : br (kJ w p) = true ∧ ∀ q, q ∈ bd (kJ w p) ↔ q = p ∨ q ∈ bd w := by
 have g := wG h;have h1 := Al ok;have hh := vH h h1;have hk := hh.2
 have pm : (bd (eh w p)).Perm (p :: bd w) := by
  rw [eh, EJ hk, EK hk, ← sH hk];refine (List.Perm.append_left _ (List.Perm.append_right _ KR)).trans ?_;rw [List.cons_append];exact List.perm_middle
 have gi : br (eh w p) = true := by
  refine J4.2 ⟨by rw [eh, List.length_set]; exact g.len, ?_, fun q hq => ?_, ?_, fun j l hl q hq => ?_, fun l hl => ?_⟩
  · have := pm.length_eq;rw [List.length_cons] at this; omega
  · rcases List.mem_cons.1 (pm.mem_iff.1 hq) with rfl | hq
    · exact ok
    · exact g.ok q hq
  · refine (pm.pairwise_iff (fun {a b} q e => q e.symm)).2 (List.pairwise_cons.2 ⟨fun q hq e => hne q hq e.symm, g.ne⟩)
  · rw [eh, List.getElem?_set] at hl
    split at hl
    · rename_i ej;cases hl;subst ej;rcases pL.1 hq with rfl | hq
      · show q.tm.tmod 9 = ((q.tm.tmod 9).toNat : Int);have := hh.1.1; omega
      · exact g.at_ (fU p) (bL w p) (by rw [sH hk]; exact List.getElem?_eq_getElem hk) q hq
    · exact g.at_ j l hl q hq
  · rcases List.mem_or_eq_of_mem_set hl with q | rfl
    · exact g.fm l q
    · refine AB jz (g.fm _ (by rw [sH hk]; exact List.getElem_mem hk)) fun y hy q => EH q (fun e => ?_);exact hne y (by rw [EK hk, ← sH hk]; simp [hy]) e.symm
 have eb : gv w p = true := by rw [gv, h, gi, decide_eq_true h1]; rfl
 rw [kJ, if_pos eb];exact ⟨gi, fun q => by rw [pm.mem_iff, List.mem_cons]⟩
theorem AD {α : Type} {l : List α} {i : Nat} (hi : i < l.length) : l = l.take i ++ l[i] :: l.drop (i + 1) := by
 rw [List.getElem_cons_drop hi, List.take_append_drop]
theorem tU {l : List au} (hd : l.Pairwise fun a b => a.id ≠ b.id) {i : Nat} (hi : i < l.length) {z : au} : z ∈ l.take i ++ l.drop (i + 1) ↔ z ∈ l ∧ z.id ≠ l[i].id := by
 have pm : l.Perm (l[i] :: (l.take i ++ l.drop (i + 1))) := by
   conv => lhs; rw [AD hi]
   exact List.perm_middle
 obtain ⟨n1, _⟩ := List.pairwise_cons.1 ((pm.pairwise_iff (fun {a b} q e => q e.symm)).1 hd);rw [pm.mem_iff, List.mem_cons]
 constructor
 · intro hz;exact ⟨.inr hz, fun e => n1 z hz e.symm⟩
 · rintro ⟨rfl | hz, hn⟩
   · exact (hn rfl).elim
   · exact hz
theorem xZ {l : List au} (hd : l.Pairwise fun a b => a.id ≠ b.id) {i : Nat} (hi : i < l.length) {q z : au} : z ∈ l.set i q ↔ z = q ∨ (z ∈ l ∧ z.id ≠ l[i].id) := by
 rw [← tU hd hi, List.set_eq_take_append_cons_drop, if_pos hi, List.mem_append, List.mem_append, List.mem_cons]
 constructor
 · rintro (h | h | h)
   · exact .inr (.inl h)
   · exact .inl h
   · exact .inr (.inr h)
 · rintro (h | h | h)
   · exact .inr (.inl h)
   · exact .inl h
   · exact .inr (.inr h)
theorem nB {α : Type} (f : α → Nat) {l : List α} {i : Nat} (hi : i < l.length) : aV f (l.take i ++ l.drop (i + 1)) + f l[i] = aV f l := by
 conv => rhs; rw [AD hi]
 rw [rW, rW];show _ = _ + (f l[i] + aV f (l.drop (i + 1)));omega
theorem vL {α : Type} (f : α → Nat) {l : List α} {i : Nat} (hi : i < l.length) (q : α) : aV f (l.set i q) + f l[i] = aV f l + f q := by
 rw [← nB f hi, List.set_eq_take_append_cons_drop, if_pos hi, rW, rW];show aV f (l.take i) + (f q + aV f (l.drop (i + 1))) + _ = _;omega
theorem KV {α : Type} {R : α → α → Prop} {l : List α} (h : l.Pairwise R) {i : Nat} (hi : i < l.length) {q : α} (h1 : ∀ x, R x l[i] → R x q) (h2 : ∀ x, R l[i] x → R q x) : (l.set i q).Pairwise R := by
 rw [List.set_eq_take_append_cons_drop, if_pos hi];rw [AD hi, List.pairwise_append, List.pairwise_cons] at h;obtain ⟨a1, ⟨a2, a3⟩, a4⟩ := h;rw [List.pairwise_append, List.pairwise_cons];refine ⟨a1, ⟨fun b hb => h2 b (a2 b hb), a3⟩, fun a ha b hb => ?_⟩;rcases List.mem_cons.1 hb with rfl | hb
 · exact h1 a (a4 a ha _ List.mem_cons_self)
 · exact a4 a ha b (List.mem_cons_of_mem _ hb)
theorem cY.cut {R : bp} {now aw : Int} {l : List au} (h : cY R now aw l) (i : Nat) : cY R now aw (l.take i ++ l.drop (i + 1)) := by
 have sub : (l.take i ++ l.drop (i + 1)).Sublist l := by
  have h := List.Sublist.append (List.Sublist.refl (l.take i)) (List.drop_sublist_drop_left l (Nat.le_succ i))
  rwa [List.take_append_drop] at h
 exact ⟨fun p hp => h.ok p (sub.subset hp), h.fm.sublist sub, h.fair.sublist sub⟩
theorem cY.set {R : bp} {now aw : Int} {l : List au} (h : cY R now aw l) {i : Nat} (hi : i < l.length) {q : au} (ok : bF R q now = true) (e1 : q.id = l[i].id) (e2 : q.aw = l[i].aw) (e3 : q.since = l[i].since) : cY R now aw (l.set i q) := by
 refine ⟨fun p hp => ?_, KV h.fm hi (fun x hx => by rw [e1]; exact hx) (fun x hx => by rw [e1]; exact hx), KV h.fair hi (fun x hx => ?_) (fun x hx => ?_)⟩
 · rcases List.mem_or_eq_of_mem_set hp with hp | rfl
   · exact h.ok p hp
   · exact ⟨ok, by rw [e2]; exact (h.ok _ (List.getElem_mem hi)).2⟩
 · simp only [fR, e2, e3] at hx ⊢; exact hx
 · simp only [fR, e2, e3] at hx ⊢; exact hx
theorem tV {R : bp} {now aw : Int} {l : List au} (h : cY R now aw l) {k : Int} {row : List Entry} (hs : row.Pairwise fun a b => aY a b = true) (hm : ∀ y, y ∈ row ↔ ∃ z ∈ l, z.cf = k ∧ z.st = 1 ∧ y = eV R z now) : row = cH R l k now :=
 sG lD hs (nz h k) fun y => by rw [hm, mE h]
theorem AE {R : bp} {now aw : Int} {l : List au} (h : cY R now aw l) {k : Int} {w : List (List aA)} (hw : br w = true) (hm : ∀ y, y ∈ bd w ↔ ∃ z ∈ l, z.cf = k ∧ z.st = 2 ∧ y = eP z) : bC w = gF l k :=
 sG jz (SF hw) (tT h k) fun y => by rw [EI hw, hm, lX]
def fH (c : a_) (p : au) : a_ := { c with ah := bz c.ah p.siz 1 (-1) 0 0, spoke := i_ c.spoke (eP p) }
def bI (h : ai) (k : Int) (c : a_) : ai := { h with cabins := h.cabins.set k.toNat c }
def dv (h : ai) (p : au) : ai := bI h p.cf (fH (aC h p.cf) p)
def kL (c : a_) (n : Int) : a_ := { c with ah := bz c.ah n 0 0 0 (-1) }
def lY (h : ai) (p : au) : ai := if p.al = -1 then h else bI h p.al (kL (aC h p.al) p.siz)
def dw (h : ai) (p : au) : ai := lY { h with ae := fo h.ae p.id } p
def iH (c : a_) (e : Entry) : a_ := { c with row := bG aY e c.row }
def EL (h : ai) (p : au) : ai := bI h p.cf (iH (aC h p.cf) (cn h.rules p h.now))
def o8 (h : ai) (p : au) : ai := EL { dv h p with ae := fT h.ae (dE h.rules p h.now) } (dE h.rules p h.now)
def dK (h : ai) (p : au) : ai := if iF h.rules p h.now = true then o8 h p else dw (dv h p) p
def gH (h : ai) (p : au) : au := { p with st := 2, bW := h.now + h.rules.ck }
def vM (h : ai) (c : a_) (p : au) : a_ := { c with ah := bz c.ah p.siz (-1) 1 0 0, row := jq c.row p.id, spoke := kJ c.spoke (eP (gH h p)) }
def mF (h : ai) (k : Int) (p : au) : ai := bI { h with ae := fT h.ae (gH h p) } k (vM h (aC h k) p)
theorem jK (h : ai) (k : Int) (c : a_) : (bI h k c).cabins.length = h.cabins.length := List.length_set
structure tW (h : ai) (p : au) (f : Nat) : Prop where
 eq : p.al = (f : Int)
 lt : f < h.cabins.length
theorem tW.of {h h' : ai} {p : au} (hl : h'.cabins.length = h.cabins.length) (hf : p.al = -1 ∨ ∃ f, tW h p f) : p.al = -1 ∨ ∃ f, tW h' p f :=
 hf.elim .inl fun ⟨f, q⟩ => .inr ⟨f, q.eq, by rw [hl]; exact q.lt⟩
theorem iI {h : ai} {k : Nat} {c : a_} (hk : h.cabins[k]? = some c) : aC h (k : Int) = c := by
 show (h.cabins[((k : Int)).toNat]?).getD default = c;rw [Int.toNat_natCast, hk]; rfl
theorem SJ {h : ai} {k : Nat} {c : a_} (hk : k < h.cabins.length) : aC (bI h (k : Int) c) (k : Int) = c := by
 show ((h.cabins.set ((k : Int)).toNat c)[((k : Int)).toNat]?).getD default = c;rw [Int.toNat_natCast, List.getElem?_set]; simp [hk]
theorem EM {h : ai} {k f : Nat} {c : a_} (hne : f ≠ k) : aC (bI h (f : Int) c) (k : Int) = aC h (k : Int) := by
 show ((h.cabins.set ((f : Int)).toNat c)[((k : Int)).toNat]?).getD default = (h.cabins[((k : Int)).toNat]?).getD default;rw [Int.toNat_natCast, Int.toNat_natCast, List.getElem?_set, if_neg hne]
theorem KW {R : bp} {p : au} {now : Int} (h : iF R p now = true) : bF R (dE R p now) now = true := by
 simp only [iF, Bool.and_eq_true, decide_eq_true_eq] at h;obtain ⟨h1, h2, h3⟩ := h;have ha := As h1;have hg := iB h1;have hr := dO hg.rules;have q1 := hr.rest;have q2 := hg.rV;have h4 := h1;simp only [bF, Bool.and_eq_true] at h4 ⊢;obtain ⟨a1, a2, a3, a4, a5, a6, a7, a8, a9, oL, AF, EN⟩ := h4;refine ⟨a1, a2, a3, a4, a5, a6, a7, a8, a9, oL, ?_, ?_⟩
 · show aj (p.asked + 1) 0 (R.tries - 1) = true;simp only [aj, Bool.and_eq_true, decide_eq_true_eq];omega
 · show ((1 : Int) == 1 && aj (now + R.rest) 0 (now + R.rest) || _) = true;rw [Bool.or_eq_true];left;simp only [aj, Bool.and_eq_true, decide_eq_true_eq];exact ⟨rfl, by omega, by omega⟩
theorem SK {h : ai} {p : au} (h1 : bF h.rules p h.now = true) : bF h.rules (gH h p) h.now = true := by
 have hg := iB h1;have hr := dO hg.rules;have q1 := hr.ck;have q2 := hg.rV;have h4 := h1;simp only [bF, Bool.and_eq_true] at h4 ⊢;obtain ⟨a1, a2, a3, a4, a5, a6, a7, a8, a9, oL, AF, EN⟩ := h4;refine ⟨a1, a2, a3, a4, a5, a6, a7, a8, a9, oL, AF, ?_⟩;show (_ || (2 : Int) == 2 && aj (h.now + h.rules.ck) 1 (h.now + h.rules.ck)) = true;rw [Bool.or_eq_true];right;simp only [aj, Bool.and_eq_true, decide_eq_true_eq];exact ⟨rfl, by omega, by omega⟩
theorem sI {l : List au} (hd : l.Pairwise fun a b => a.id ≠ b.id) {p : au} (hp : p ∈ l) : ∃ i, ∃ h : i < l.length, aP l p.id = (i : Int) ∧ l[i] = p := by
 rcases hO (fun q : au => q.id == p.id) l with ⟨_, e⟩ | ⟨i, hi, e, e1, _⟩
 · have := e p hp;simp at this
 · refine ⟨i, hi, e, ?_⟩;obtain ⟨j, hj, rfl⟩ := List.getElem_of_mem hp;have hw := List.pairwise_iff_getElem.1 hd;have e1 : l[i].id = l[j].id := by simpa using e1
   rcases Nat.lt_trichotomy i j with q | rfl | q
   · exact (hw i j hi hj q e1).elim
   · rfl
   · exact (hw j i hj hi q e1.symm).elim
structure bJ (h : ai) (i k : Nat) (p : au) (c : a_) : Prop where
 hg : HG h
 hi : h.ae[i]? = some p
 hk : h.cabins[k]? = some c
 cf : p.cf = (k : Int)
 ok : bF h.rules p h.now = true
 at_ : aP h.ae p.id = (i : Int)
section
variable {h : ai} {i k : Nat} {p : au} {c : a_}
theorem bJ.lt (o : bJ h i k p c) : ∃ hi : i < h.ae.length, h.ae[i] = p := by
 have hi := bq o.hi;have := o.hi;rw [List.getElem?_eq_getElem hi] at this;exact ⟨hi, by simpa using this⟩
theorem bJ.mem (o : bJ h i k p c) : p ∈ h.ae := List.mem_of_getElem? o.hi
theorem bJ.siz (o : bJ h i k p c) : 1 ≤ p.siz ∧ p.siz ≤ 6 := by
 have h1 := (iB o.ok).siz;have h2 := (dO o.hg.rules).size;omega
theorem bJ.one (o : bJ h i k p c) {z : au} (hz : z ∈ h.ae) (hn : z ≠ p) : z.id ≠ p.id := (sC o.hg.ae hz o.mem hn).1
theorem bJ.jL (o : bJ h i k p c) : aC h p.cf = c := by rw [o.cf]; exact iI o.hk
theorem bJ.sJ (o : bJ h i k p c) : 0 ≤ p.cf ∧ p.cf < (h.cabins.length : Int) := by
 have := bq o.hk;have := o.cf;omega
theorem bJ.al (o : bJ h i k p c) : p.al = -1 ∨ ∃ f, tW h p f := by
 have h1 := (gb o.ok).al;have h2 := o.hg.fy
 by_cases q : p.al = -1
 · exact .inl q
 · exact .inr ⟨p.al.toNat, by omega, by omega⟩
end
structure lZ (R : bp) (now : Int) (l : List au) (j : Nat) (c : a_) : Prop where
 total : c.ah.total = R.ah.getD j 0
 room : ((aV (bx (j : Int)) l : Nat) : Int) ≤ R.room
 eD : aZ c.ah = true
 row : c.row = cH R l (j : Int) now
 kh : br c.spoke = true
 pins : bC c.spoke = gF l (j : Int)
 held : c.ah.held = ((aV (cp (j : Int)) l : Nat) : Int)
 tied : c.ah.tied = ((aV (cz (j : Int)) l : Nat) : Int)
theorem HG.dR {h : ai} (hg : HG h) {j : Nat} {c : a_} (hj : h.cabins[j]? = some c) : lZ h.rules h.now h.ae j c := by
 have r := sB hg hj;exact ⟨r.total, r.room, r.eD, r.row, r.kh, r.pins, r.held, r.tied⟩
theorem lZ.at_ {h : ai} {aw : Int} (hr : cw h.rules = true) (hp : cY h.rules h.now aw h.ae) {j : Nat} {c : a_} (g : lZ h.rules h.now h.ae j c) : iC h j c = true := by
 have h1 := (dO hr).room;have h2 := g.room
 have h3 : (cH h.rules h.ae (j : Int) h.now).length ≤ 10 := by
  rw [cH, jy];exact D7 (by omega)
 have h4 : dJ c.row = true := by rw [g.row]; exact xv h3 (KU hp _)
 simp only [iC, fQ, im, Bool.and_eq_true, decide_eq_true_eq, beq_iff_eq];exact ⟨g.total, g.room, ⟨g.eD, h4, g.kh⟩, g.row, g.pins, g.held, g.tied⟩
theorem HG.next {h E : ai} (hg : HG h) (e1 : E.rules = h.rules) (e2 : E.now = h.now) (e3 : E.aw = h.aw) (e4 : E.ae.length ≤ 40) (e5 : E.cabins.length = h.cabins.length) (e6 : E.todo = h.todo) (e7 : E.aN = h.aN)
  (hp : cY h.rules h.now h.aw E.ae) (hc : ∀ (j : Nat) c, E.cabins[j]? = some c → lZ h.rules h.now E.ae j c) : HG E := by
 refine ⟨by rw [e1]; exact hg.rules, by rw [e2]; exact hg.now, by rw [e3]; exact hg.aw, e4, by rw [e5, e1]; exact hg.fy, by rw [e1, e2, e3]; exact hp, by rw [e5, e6, e7]; exact hg.aN, by rw [e7, e1]; exact hg.bP, fun j c hj => ?_⟩;have cN : cY E.rules E.now E.aw E.ae := by rw [e1, e2, e3]; exact hp
 exact lZ.at_ (by rw [e1]; exact hg.rules) cN (by rw [e1, e2]; exact hc j c hj)
theorem lZ.other {R : bp} {now aw : Int} {l l' : List au} {j : Nat} {c c' : a_} (g : lZ R now l j c) (hp : cY R now aw l) (cN : cY R now aw l') (er : c'.row = c.row) (es : c'.spoke = c.spoke) (et : c'.ah.total = c.ah.total) (el : aZ c'.ah = true)
   (hm : ∀ z, z.cf = (j : Int) → (z ∈ l' ↔ z ∈ l)) (z1 : aV (bx (j : Int)) l' ≤ aV (bx (j : Int)) l) (z2 : c'.ah.held = ((aV (cp (j : Int)) l' : Nat) : Int)) (z3 : c'.ah.tied = ((aV (cz (j : Int)) l' : Nat) : Int)) : lZ R now l' j c' := by
 refine ⟨et.trans g.total, by have := g.room; omega, el, ?_, by rw [es]; exact g.kh, ?_, z2, z3⟩
 · rw [er];refine tV cN (by rw [g.row]; exact nz hp _) fun y => ?_;rw [g.row, mE hp];exact ⟨fun ⟨z, a, b, d⟩ => ⟨z, (hm z b).2 a, b, d⟩, fun ⟨z, a, b, d⟩ => ⟨z, (hm z b).1 a, b, d⟩⟩
 · rw [es, g.pins];refine sG jz (tT hp _) (tT cN _) fun y => ?_;rw [lX, lX];exact ⟨fun ⟨z, a, b, d⟩ => ⟨z, (hm z b).2 a, b, d⟩, fun ⟨z, a, b, d⟩ => ⟨z, (hm z b).1 a, b, d⟩⟩
theorem nC {k : Int} {p : au} (h : p.st ≠ 2 ∨ p.cf ≠ k) : cp k p = 0 := by
 rw [cp, if_neg];simp only [mz, Bool.and_eq_true, beq_iff_eq]
 rintro ⟨a, b, _⟩
 rcases h with h | h
 · exact h a
 · exact h b
theorem x_ {k : Int} {p : au} (h1 : p.st = 2) (h2 : p.cf = k) (h3 : 1 ≤ p.siz ∧ p.siz ≤ 6) : cp k p = p.siz.toNat := by
 rw [cp, if_pos];simp only [mz, Bool.and_eq_true, beq_iff_eq, aj, decide_eq_true_eq];exact ⟨h1, h2, h3⟩
theorem vN {k : Int} {p : au} (h : p.al ≠ k) : cz k p = 0 := by
 rw [cz, if_neg];simp only [k_, Bool.and_eq_true, beq_iff_eq];exact fun q => h q.1
theorem vO {k : Int} {p : au} (h2 : p.al = k) (h3 : 1 ≤ p.siz ∧ p.siz ≤ 6) : cz k p = p.siz.toNat := by
 rw [cz, if_pos];simp only [k_, Bool.and_eq_true, beq_iff_eq, aj, decide_eq_true_eq];exact ⟨h2, h3⟩
structure SM (x : bA) : Prop where
 total : 1 ≤ x.total ∧ x.total ≤ 60
 free : 0 ≤ x.free ∧ x.free ≤ x.total
 held : 0 ≤ x.held ∧ x.held ≤ x.total
 aU : 0 ≤ x.aU ∧ x.aU ≤ x.total
 sum : x.free + x.held + x.aU = x.total
 tied : 0 ≤ x.tied ∧ x.tied ≤ x.aU
theorem jM {x : bA} : aZ x = true ↔ SM x := by
 simp only [aZ, Bool.and_eq_true, aj, decide_eq_true_eq];exact ⟨fun ⟨a, b, c, d, e, f⟩ => ⟨a, b, c, d, e, f⟩, fun ⟨a, b, c, d, e, f⟩ => ⟨a, b, c, d, e, f⟩⟩
theorem SN {x : bA} (h : aZ x = true) {n : Int} (hn : 0 ≤ n ∧ n ≤ 60) (hh : n ≤ x.held) : bz x n 1 (-1) 0 0 = ⟨x.total, x.free + n, x.held - n, x.aU, x.tied⟩ ∧ aZ (bz x n 1 (-1) 0 0) = true := by
 obtain ⟨a, b, c, d, e, f⟩ := jM.1 h;have h2 : aZ ⟨x.total, x.free + n, x.held - n, x.aU, x.tied⟩ = true := jM.2 ⟨a, by constructor <;> simp only <;> omega, by constructor <;> simp only <;> omega, d, by simp only; omega, f⟩
 have e1 : bU x n 1 (-1) 0 0 = true := by
  rw [bU, Ae, h, h2]; simp [aj, hn.1, hn.2]
 rw [bz, if_pos e1, Ae];exact ⟨rfl, h2⟩
theorem SO {x : bA} (h : aZ x = true) {n : Int} (hn : 0 ≤ n ∧ n ≤ 60) (hh : n ≤ x.free) : bz x n (-1) 1 0 0 = ⟨x.total, x.free - n, x.held + n, x.aU, x.tied⟩ ∧ aZ (bz x n (-1) 1 0 0) = true := by
 obtain ⟨a, b, c, d, e, f⟩ := jM.1 h;have h2 : aZ ⟨x.total, x.free - n, x.held + n, x.aU, x.tied⟩ = true := jM.2 ⟨a, by constructor <;> simp only <;> omega, by constructor <;> simp only <;> omega, d, by simp only; omega, f⟩
 have e1 : bU x n (-1) 1 0 0 = true := by
  rw [bU, Ad, h, h2]; simp [aj, hn.1, hn.2]
 rw [bz, if_pos e1, Ad];exact ⟨rfl, h2⟩
theorem vP {x : bA} (h : aZ x = true) {n : Int} (hn : 0 ≤ n ∧ n ≤ 60) (hh : n ≤ x.tied) : bz x n 0 0 0 (-1) = ⟨x.total, x.free, x.held, x.aU, x.tied - n⟩ ∧ aZ (bz x n 0 0 0 (-1)) = true := by
 obtain ⟨a, b, c, d, e, f⟩ := jM.1 h;have h2 : aZ ⟨x.total, x.free, x.held, x.aU, x.tied - n⟩ = true := jM.2 ⟨a, b, c, d, e, by constructor <;> simp only <;> omega⟩
 have e1 : bU x n 0 0 0 (-1) = true := by
  rw [bU, Ai, h, h2]; simp [aj, hn.1, hn.2]
 rw [bz, if_pos e1, Ai];exact ⟨rfl, h2⟩
section
variable {h : ai} {i k : Nat} {p : au} {c : a_}
theorem bJ.aF (o : bJ h i k p c) (h2 : p.st = 2) : eP p ∈ bd c.spoke := by
 have g := o.hg.dR o.hk;rw [← EI g.kh, g.pins, lX];exact ⟨p, o.mem, o.cf, h2, rfl⟩
theorem bJ.held (o : bJ h i k p c) (h2 : p.st = 2) : p.siz ≤ c.ah.held := by
 obtain ⟨hi, e⟩ := o.lt;have g := o.hg.dR o.hk;have := nB (cp (k : Int)) hi;rw [e, x_ h2 o.cf o.siz] at this;have h3 := g.held;have h4 := o.siz;omega
theorem bJ.drop (o : bJ h i k p c) (h2 : p.st = 2) : (fH c p).ah = ⟨c.ah.total, c.ah.free + p.siz, c.ah.held - p.siz, c.ah.aU, c.ah.tied⟩ ∧ aZ (fH c p).ah = true ∧ br (fH c p).spoke = true ∧ ∀ q, q ∈ bd (fH c p).spoke ↔ q ∈ bd c.spoke ∧ q ≠ eP p := by
 have g := o.hg.dR o.hk;have h4 := o.siz;have a := SN g.eD (n := p.siz) (by omega) (o.held h2);have b := SH g.kh (o.aF h2);exact ⟨a.1, a.2, b.1, b.2⟩
theorem bJ.pins (o : bJ h i k p c) {y : aA} : y ∈ bd c.spoke ↔ ∃ z ∈ h.ae, z.cf = (k : Int) ∧ z.st = 2 ∧ y = eP z := by
 have g := o.hg.dR o.hk;rw [← EI g.kh, g.pins, lX]
theorem bJ.row (o : bJ h i k p c) {y : Entry} : y ∈ c.row ↔ ∃ z ∈ h.ae, z.cf = (k : Int) ∧ z.st = 1 ∧ y = eV h.rules z h.now := by
 have g := o.hg.dR o.hk;rw [g.row, mE o.hg.ae]
theorem sK (o : bJ h i k p c) : o8 h p = { h with ae := h.ae.set i (dE h.rules p h.now), cabins := h.cabins.set k (iH (fH c p) (cn h.rules (dE h.rules p h.now) h.now)) } := by
 have hk := bq o.hk;have e1 : fT h.ae (dE h.rules p h.now) = h.ae.set i (dE h.rules p h.now) := J1 o.at_;have e2 : dv h p = bI h (k : Int) (fH c p) := by rw [dv, o.jL, o.cf]
 rw [o8, e1, e2];show bI { bI h (k : Int) (fH c p) with ae := _ } p.cf (iH (aC (bI h (k : Int) (fH c p)) p.cf) _) = _;rw [o.cf, SJ hk];show ({ h with ae := _, cabins := (h.cabins.set ((k : Int)).toNat _).set ((k : Int)).toNat _ } : ai) = _;rw [List.set_set, Int.toNat_natCast];rfl
theorem bJ.o8 (o : bJ h i k p c) (h2 : p.st = 2) (hf : iF h.rules p h.now = true) : HG (o8 h p) := by
 obtain ⟨hi, ei⟩ := o.lt;have hk := bq o.hk;have ok := KW hf;have g := o.hg.dR o.hk;have hd := iG o.hg.ae;have dr := o.drop h2;have sz := o.siz;generalize hq : dE h.rules p h.now = q at ok;have q1 : q.id = p.id := by rw [← hq]; rfl
 have q2 : q.aw = p.aw := by rw [← hq]; rfl
 have q3 : q.since = p.since := by rw [← hq]; rfl
 have q4 : q.cf = (k : Int) := by rw [← hq]; exact o.cf
 have q5 : q.st = 1 := by rw [← hq]; rfl
 have q6 : q.al = p.al := by rw [← hq]; rfl
 have q7 : q.siz = p.siz := by rw [← hq]; rfl
 have cN : cY h.rules h.now h.aw (h.ae.set i q) := o.hg.ae.set hi ok (by rw [ei, q1]) (by rw [ei, q2]) (by rw [ei, q3]);have hm : ∀ z, z ∈ h.ae.set i q ↔ z = q ∨ (z ∈ h.ae ∧ z.id ≠ p.id) := fun z => by rw [xZ hd hi, ei]
 have ee : cn h.rules q h.now = eV h.rules q h.now := sA ok q5;rw [sK o, hq, ee];refine o.hg.next rfl rfl rfl ?_ ?_ rfl rfl cN fun j c1 hj => ?_
 · show (h.ae.set i q).length ≤ 40;rw [List.length_set]; exact o.hg.dn
 · show (h.cabins.set k _).length = _;rw [List.length_set]
 show lZ h.rules h.now (h.ae.set i q) j c1;have hj : (h.cabins.set k (iH (fH c p) (eV h.rules q h.now)))[j]? = some c1 := hj;rw [List.getElem?_set] at hj;have s1 := vL (bx (j : Int)) hi q;have s2 := vL (cp (j : Int)) hi q;have s3 := vL (cz (j : Int)) hi q;have SP : bx (j : Int) q = bx (j : Int) h.ae[i] := by rw [ei, bx, bx, q4, o.cf]
 have SQ : cz (j : Int) q = cz (j : Int) h.ae[i] := by rw [ei, cz, cz, k_, k_, q6, q7]
 by_cases ej : k = j
 · subst ej;rw [if_pos rfl, if_pos hk] at hj;cases hj;rw [ei, x_ h2 o.cf sz, nC (.inl (by rw [q5]; decide))] at s2;have hh := o.held h2;refine ⟨?_, ?_, dr.2.1, ?_, dr.2.2.1, ?_, ?_, ?_⟩
   · show (fH c p).ah.total = _;rw [dr.1]; exact g.total
   · have := g.room; omega
   · refine tV cN (AB lD (by show (c.row).Pairwise _; rw [g.row]; exact nz o.hg.ae _) fun y hy hl => At hl fun e => ?_) fun y => ?_
     · obtain ⟨z, hz, hc, hs, rfl⟩ := o.row.1 hy;have hn : z ≠ p := fun e => by rw [e, h2] at hs; cases hs
       have := (sC o.hg.ae hz o.mem hn).2;exact this (by rw [← q2]; exact e)
     · show y ∈ bG aY (eV h.rules q h.now) c.row ↔ _;rw [pL, o.row]
       constructor
       · rintro (rfl | ⟨z, hz, hc, hs, rfl⟩)
         · exact ⟨q, (hm q).2 (.inl rfl), q4, q5, rfl⟩
         · have hn : z ≠ p := fun e => by rw [e, h2] at hs; cases hs
           exact ⟨z, (hm z).2 (.inr ⟨hz, o.one hz hn⟩), hc, hs, rfl⟩
       · rintro ⟨z, hz, hc, hs, rfl⟩
         rcases (hm z).1 hz with rfl | ⟨hz, _⟩
         · exact .inl rfl
         · exact .inr ⟨z, hz, hc, hs, rfl⟩
   · refine AE cN dr.2.2.1 fun y => ?_;rw [show (iH (fH c p) (eV h.rules q h.now)).spoke = (fH c p).spoke from rfl, dr.2.2.2, o.pins]
     constructor
     · rintro ⟨⟨z, hz, hc, hs, rfl⟩, hn⟩
       have hn : z ≠ p := fun e => hn (by rw [e]);exact ⟨z, (hm z).2 (.inr ⟨hz, o.one hz hn⟩), hc, hs, rfl⟩
     · rintro ⟨z, hz, hc, hs, rfl⟩
       rcases (hm z).1 hz with rfl | ⟨hz, hn⟩
       · rw [q5] at hs; cases hs
       · exact ⟨⟨z, hz, hc, hs, rfl⟩, fun e => hn (congrArg aA.pid e)⟩
   · show (fH c p).ah.held = _;rw [dr.1];show c.ah.held - p.siz = _;have := g.held;omega
   · show (fH c p).ah.tied = _;rw [dr.1];show c.ah.tied = _;have := g.tied;omega
 · rw [if_neg ej] at hj;have gj := o.hg.dR hj;have hne : ((k : Int)) ≠ (j : Int) := by omega
   rw [ei, nC (.inr (by rw [o.cf]; exact hne)), nC (.inr (by rw [q4]; exact hne))] at s2;refine gj.other o.hg.ae cN rfl rfl rfl gj.eD (fun z hz => ?_) (by omega) (by have := gj.held; omega) (by have := gj.tied; omega);rw [hm]
   constructor
   · rintro (rfl | h)
     · exact (hne (q4.symm.trans hz)).elim
     · exact h.1
   · intro h;exact .inr ⟨h, o.one h fun e => hne (by rw [← o.cf, ← e]; exact hz)⟩
theorem SR (o : bJ h i k p c) {j : Nat} {c1 : a_} (hj : (dw (dv h p) p).cabins[j]? = some c1) :
   ∃ c0, h.cabins[j]? = some c0 ∧ ((j = k ∧ c0 = c ∧ c1 = fH c p) ∨ (j ≠ k ∧ p.al = (j : Int) ∧ c1 = kL c0 p.siz) ∨ (j ≠ k ∧ p.al ≠ (j : Int) ∧ c1 = c0)) := by
 have hk := bq o.hk;have e2 : dv h p = bI h (k : Int) (fH c p) := by rw [dv, o.jL, o.cf]
 have pn := gb o.ok;have hne : p.al ≠ (k : Int) := by rw [← o.cf]; exact pn.ne
 have base : ∀ {c1}, (h.cabins.set k (fH c p))[j]? = some c1 → ∃ c0, h.cabins[j]? = some c0 ∧ ((j = k ∧ c0 = c ∧ c1 = fH c p) ∨ (j ≠ k ∧ c1 = c0)) := fun {c1} hj => by
   rw [List.getElem?_set] at hj
   by_cases ej : k = j
   · subst ej;rw [if_pos rfl, if_pos hk] at hj;cases hj;exact ⟨c, o.hk, .inl ⟨rfl, rfl, rfl⟩⟩
   · rw [if_neg ej] at hj;exact ⟨c1, hj, .inr ⟨fun e => ej e.symm, rfl⟩⟩
 rw [dw, lY, e2] at hj
 by_cases hf : p.al = -1
 · rw [if_pos hf] at hj;have hj : (h.cabins.set ((k : Int)).toNat (fH c p))[j]? = some c1 := hj;rw [Int.toNat_natCast] at hj;obtain ⟨c0, h1, h2⟩ := base hj;refine ⟨c0, h1, ?_⟩;rcases h2 with h2 | ⟨h2, h3⟩
   · exact .inl h2
   · exact .inr (.inr ⟨h2, by omega, h3⟩)
 · rw [if_neg hf] at hj;have fr := pn.al;obtain ⟨f, ef⟩ : ∃ f : Nat, p.al = (f : Int) := ⟨p.al.toNat, by omega⟩;rw [ef] at hj hne;have hne : k ≠ f := fun e => hne (by rw [e]);have hj : ((h.cabins.set ((k : Int)).toNat (fH c p)).set ((f : Int)).toNat (kL (aC (bI h (k : Int) (fH c p)) (f : Int)) p.siz))[j]? = some c1 := hj;rw [Int.toNat_natCast, Int.toNat_natCast, EM hne, List.getElem?_set] at hj
   by_cases ej : f = j
   · subst ej;rw [if_pos rfl] at hj
     split at hj
     · rename_i hl;rw [List.length_set] at hl;cases hj;refine ⟨h.cabins[f], List.getElem?_eq_getElem hl, .inr (.inl ⟨fun e => hne e.symm, ef, ?_⟩)⟩;rw [iI (List.getElem?_eq_getElem hl)]
     · cases hj
   · rw [if_neg ej] at hj;obtain ⟨c0, h1, h2⟩ := base hj;refine ⟨c0, h1, ?_⟩;rcases h2 with h2 | ⟨h2, h3⟩
     · exact .inl h2
     · exact .inr (.inr ⟨h2, by omega, h3⟩)
theorem sL (h : ai) (p : au) : (lY h p).cabins.length = h.cabins.length := by
 unfold lY; split
 · rfl
 · exact jK _ _ _
theorem iJ (h : ai) (p : au) : (lY h p).rules = h.rules ∧ (lY h p).now = h.now ∧ (lY h p).aw = h.aw ∧ (lY h p).ae = h.ae ∧ (lY h p).todo = h.todo ∧ (lY h p).aN = h.aN := by
 unfold lY; split
 · exact ⟨rfl, rfl, rfl, rfl, rfl, rfl⟩
 · exact ⟨rfl, rfl, rfl, rfl, rfl, rfl⟩
theorem bJ.gone (o : bJ h i k p c) (h2 : p.st = 2) : HG (dw (dv h p) p) := by
 obtain ⟨hi, ei⟩ := o.lt;have hk := bq o.hk;have g := o.hg.dR o.hk;have hd := iG o.hg.ae;have dr := o.drop h2;have sz := o.siz;have pn := gb o.ok
 have ep : (dw (dv h p) p).ae = h.ae.take i ++ h.ae.drop (i + 1) := by
   refine (iJ _ _).2.2.2.1.trans ?_;exact vF o.at_
 have cN : cY h.rules h.now h.aw (h.ae.take i ++ h.ae.drop (i + 1)) := o.hg.ae.cut i;have hm : ∀ z, z ∈ h.ae.take i ++ h.ae.drop (i + 1) ↔ z ∈ h.ae ∧ z.id ≠ p.id := fun z => by rw [tU hd hi, ei]
 refine o.hg.next (iJ _ _).1 (iJ _ _).2.1 (iJ _ _).2.2.1 ?_ ?_ (iJ _ _).2.2.2.2.1 (iJ _ _).2.2.2.2.2 (by rw [ep]; exact cN) fun j c1 hj => ?_
 · rw [ep, List.length_append, List.length_take, List.length_drop];have := o.hg.dn; omega
 · exact (sL _ _).trans (jK _ _ _)
 rw [ep];obtain ⟨c0, cO, h5⟩ := SR o hj;have gj := o.hg.dR cO;have s1 := nB (bx (j : Int)) hi;have s2 := nB (cp (j : Int)) hi;have s3 := nB (cz (j : Int)) hi;rcases h5 with ⟨rfl, rfl, rfl⟩ | ⟨gW, hf, rfl⟩ | ⟨gW, hf, rfl⟩
 · rw [ei, x_ h2 o.cf sz] at s2;rw [ei, vN (by rw [← o.cf]; exact pn.ne)] at s3;have hh := o.held h2;refine ⟨?_, ?_, dr.2.1, ?_, dr.2.2.1, ?_, ?_, ?_⟩
   · rw [dr.1]; exact g.total
   · have := g.room; omega
   · show c0.row = _;refine tV cN (by rw [g.row]; exact nz o.hg.ae _) fun y => ?_;rw [o.row]
     constructor
     · rintro ⟨z, hz, hc, hs, rfl⟩
       have hn : z ≠ p := fun e => by rw [e, h2] at hs; cases hs
       exact ⟨z, (hm z).2 ⟨hz, o.one hz hn⟩, hc, hs, rfl⟩
     · rintro ⟨z, hz, hc, hs, rfl⟩
       exact ⟨z, ((hm z).1 hz).1, hc, hs, rfl⟩
   · refine AE cN dr.2.2.1 fun y => ?_;rw [dr.2.2.2, o.pins]
     constructor
     · rintro ⟨⟨z, hz, hc, hs, rfl⟩, hn⟩
       have hn : z ≠ p := fun e => hn (by rw [e]);exact ⟨z, (hm z).2 ⟨hz, o.one hz hn⟩, hc, hs, rfl⟩
     · rintro ⟨z, hz, hc, hs, rfl⟩
       have := (hm z).1 hz;exact ⟨⟨z, this.1, hc, hs, rfl⟩, fun e => this.2 (congrArg aA.pid e)⟩
   · rw [dr.1];show c0.ah.held - p.siz = _;have := g.held;omega
   · rw [dr.1];show c0.ah.tied = _;have := g.tied;omega
 · have hne : (k : Int) ≠ (j : Int) := by omega
   rw [ei, nC (.inr (by rw [o.cf]; exact hne))] at s2;rw [ei, vO hf sz] at s3;have t1 := gj.tied;have t2 := vP gj.eD (n := p.siz) (by omega) (by omega);refine gj.other o.hg.ae cN rfl rfl (by show (bz c0.ah p.siz 0 0 0 (-1)).total = _; rw [t2.1]) t2.2 (fun z hz => ?_) (by omega) ?_ ?_
   · rw [hm];exact ⟨fun h => h.1, fun h => ⟨h, o.one h fun e => hne (by rw [← o.cf, ← e]; exact hz)⟩⟩
   · show (bz c0.ah p.siz 0 0 0 (-1)).held = _;rw [t2.1];have := gj.held;show c0.ah.held = _;omega
   · show (bz c0.ah p.siz 0 0 0 (-1)).tied = _;rw [t2.1];show c0.ah.tied - p.siz = _;omega
 · have hne : (k : Int) ≠ (j : Int) := by omega
   rw [ei, nC (.inr (by rw [o.cf]; exact hne))] at s2;rw [ei, vN hf] at s3;refine gj.other o.hg.ae cN rfl rfl rfl gj.eD (fun z hz => ?_) (by omega) (by have := gj.held; omega) (by have := gj.tied; omega);rw [hm];exact ⟨fun h => h.1, fun h => ⟨h, o.one h fun e => hne (by rw [← o.cf, ← e]; exact hz)⟩⟩
theorem bJ.AG (o : bJ h i k p c) (h2 : p.st = 2) : HG (dK h p) := by
 unfold dK; split
 · rename_i hf; exact o.o8 h2 hf
 · exact o.gone h2
theorem bJ.stay (o : bJ h i k p c) {z : au} (hz : z ∈ h.ae) (hn : z.id ≠ p.id) : z ∈ (dK h p).ae := by
 obtain ⟨hi, ei⟩ := o.lt;have hd := iG o.hg.ae;unfold dK; split
 · rw [sK o];exact (xZ hd hi).2 (.inr ⟨hz, by rw [ei]; exact hn⟩)
 · rw [show (dw (dv h p) p).ae = h.ae.take i ++ h.ae.drop (i + 1) from (iJ _ _).2.2.2.1.trans (vF o.at_)];exact (tU hd hi).2 ⟨hz, by rw [ei]; exact hn⟩
theorem bJ.fj (o : bJ h i k p c) : (dK h p).rules = h.rules ∧ (dK h p).now = h.now ∧ (dK h p).cabins.length = h.cabins.length ∧ (dK h p).todo = h.todo ∧ (dK h p).aN = h.aN := by
 unfold dK; split
 · rw [sK o];exact ⟨rfl, rfl, List.length_set, rfl, rfl⟩
 · exact ⟨(iJ _ _).1, (iJ _ _).2.1, (sL _ _).trans (jK _ _ _), (iJ _ _).2.2.2.2.1, (iJ _ _).2.2.2.2.2⟩
theorem bJ.EO (o : bJ h i k p c) (h2 : p.st = 2) (hf : iF h.rules p h.now = true) : sy c.row (cn h.rules (dE h.rules p h.now) h.now) = bG aY (cn h.rules (dE h.rules p h.now) h.now) c.row := by
 have r := sB o.hg o.hk;have ok := KW hf;have e := sA ok (rfl : (dE h.rules p h.now).st = 1);have hm : eP p ∈ gF h.ae (k : Int) := lX.2 ⟨p, o.mem, o.cf, h2, rfl⟩
 have hl : 1 ≤ (fP (k : Int) h.ae).length := by
  rw [gF, wB] at hm;exact List.length_pos_of_mem hm
 have h3 := r.bT;have h4 := r.room;have h5 := (dO o.hg.rules).room
 have key : ∀ y ∈ c.row, y.bg ≠ p.id ∧ y.aw ≠ p.aw := fun y hy => by
  obtain ⟨z, hz, hc, hs, rfl⟩ := o.row.1 hy;have hn : z ≠ p := fun e => by rw [e, h2] at hs; cases hs
  exact sC o.hg.ae hz o.mem hn
 refine Ky r.pre (by omega) (Ev ok rfl) (fun y hy => ?_) (fun y hy => ?_)
 · rw [e]; exact (key y hy).1
 · rw [e]; exact (key y hy).2
end
end Go.Proofs.YtehpbaiclfilaaaGreat

