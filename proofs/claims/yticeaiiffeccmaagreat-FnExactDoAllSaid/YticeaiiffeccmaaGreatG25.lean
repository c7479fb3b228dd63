/- Parts of a proof. No conditions. -/

import Derived.Test.YticeaiiffeccmaaGreatG24
import Derived.Test.YticeaiiffeccmaaGreatG23
import Derived.Test.YticeaiiffeccmaaGreatG21
import Derived.Test.YticeaiiffeccmaaGreatG19
set_option linter.unusedSimpArgs false
set_option linter.unusedVariables false
namespace Go.Proofs.YticeaiiffeccmaaGreat
open Go
set_option maxRecDepth 100000
def dJ (p : aw) : aB := ⟨p.cm, p.id⟩
theorem Ib {α : Type} {lt : α → α → Bool} (h : kd lt) (z : α) : lt z z = false := by
 cases q : lt z z with
 | false => rfl
 | true => have := h.as _ _ q; rw [q] at this; cases this
theorem yC {α : Type} {lt : α → α → Bool} (h : kd lt) : ∀ {a b : List α}, (a.Pairwise fun x y => lt x y = true) → (b.Pairwise fun x y => lt x y = true) → (∀ x, x ∈ a ↔ x ∈ b) → a = b
 | [], [], _, _, _ => rfl
 | [], y :: b, _, _, he => by have := (he y).2 List.mem_cons_self; cases this
 | x :: a, [], _, _, he => by have := (he x).1 List.mem_cons_self; cases this
 | x :: a, y :: b, ha, hb, he => by
   obtain ⟨a1, a2⟩ := List.pairwise_cons.1 ha;obtain ⟨b1, b2⟩ := List.pairwise_cons.1 hb
   have e : x = y := by
     rcases List.mem_cons.1 ((he x).1 List.mem_cons_self) with q | q
     · exact q
     rcases List.mem_cons.1 ((he y).2 List.mem_cons_self) with r | r
     · exact r.symm
     have := h.as _ _ (b1 x q);rw [a1 y r] at this; cases this
   subst e
   congr 1
   refine yC h a2 b2 fun z => ⟨fun hz => ?_, fun hz => ?_⟩
   · rcases List.mem_cons.1 ((he z).1 (List.mem_cons_of_mem _ hz)) with rfl | q
     · have := a1 z hz; rw [Ib h] at this; cases this
     · exact q
   · rcases List.mem_cons.1 ((he z).2 (List.mem_cons_of_mem _ hz)) with rfl | q
     · have := b1 z hz; rw [Ib h] at this; cases this
     · exact q
theorem Ic {α : Type} {lt : α → α → Bool} {x : α} : ∀ {s : List α}, (fE lt x s).Perm (x :: s)
 | [] => List.Perm.refl _
 | a :: s => by
   rw [fE]; split
   · exact List.Perm.refl _
   · exact ((Ic (s := s)).cons a).trans (List.Perm.swap x a s)
theorem Ie {α : Type} {lt : α → α → Bool} {x : α} : ∀ {s : List α}, (bS lt x s).Perm (x :: s)
 | [] => List.Perm.refl _
 | a :: s => by
   rw [bS]; split
   · exact ((Ie (s := s)).cons a).trans (List.Perm.swap x a s)
   · exact List.Perm.refl _
theorem Cj {α : Type} {lt : α → α → Bool} (l : List α) : (dk lt l).Perm l := by
 obtain ⟨n, hn⟩ : ∃ n, l.length = n := ⟨_, rfl⟩
 induction n generalizing l with
 | zero =>
   have : l = [] := List.length_eq_zero_iff.1 hn;subst this; exact List.Perm.refl _
 | succ n ih =>
   rcases List.eq_nil_or_concat l with rfl | ⟨l', x, rfl⟩
   · exact List.Perm.refl _
   · rw [List.concat_eq_append, qV];exact Ic.trans (((ih l' (by simpa using hn)).cons x).trans (List.perm_append_singleton x l').symm)
theorem Ck {α : Type} {lt : α → α → Bool} (h : kd lt) {l : List α} {R : α → α → Prop} (sym : ∀ a b, R a b → R b a) (aS : ∀ a b, lt b a = false → R a b → lt a b = true) (hl : l.Pairwise R) : (dk lt l).Pairwise fun a b => lt a b = true := by
 have h1 := w9 h l;have h2 : (dk lt l).Pairwise R := ((Cj l).pairwise_iff (fun {a b} => sym a b)).2 hl;exact (h1.and h2).imp fun {a b} q => aS a b q.1 q.2
theorem Cl {α : Type} {lt : α → α → Bool} (h : kd lt) {e : α} : ∀ {l : List α}, (l.Pairwise fun a b => lt a b = true) → (∀ y ∈ l, lt y e = false → lt e y = true) → (bS lt e l).Pairwise fun a b => lt a b = true
 | [], _, _ => List.pairwise_singleton _ _
 | a :: s, hl, hn => by
   obtain ⟨l1, l2⟩ := List.pairwise_cons.1 hl;rw [bS]
   split
   · rename_i aR;refine List.pairwise_cons.2 ⟨fun b hb => ?_, Cl h l2 fun y hy => hn y (List.mem_cons_of_mem _ hy)⟩;rcases qW.1 hb with rfl | hb
     · exact aR
     · exact l1 b hb
   · rename_i aR;have aR : lt e a = true := hn a List.mem_cons_self (by simpa using aR);refine List.pairwise_cons.2 ⟨fun b hb => ?_, hl⟩;rcases List.mem_cons.1 hb with rfl | hb
     · exact aR
     · exact h.tr _ _ _ aR (l1 b hb)
theorem pb {R : bI} {now aC : Int} {l : List aw} (h : dF R now aC l) : l.Pairwise fun a b => a.id ≠ b.id := h.gb.imp fun {a b : aw} q => Int.ne_of_lt q
theorem PA {R : bI} {now aC : Int} {l : List aw} (h : dF R now aC l) : l.Pairwise fun a b => a.aC ≠ b.aC := h.fair.imp fun {a b} q e => by simp [gx, e] at q
theorem Ig {R : bI} {now aC : Int} {l : List aw} (h : dF R now aC l) (k : Int) : (fe R k now l).Pairwise fun a b => a.aC ≠ b.aC ∧ a.aV ≠ b.aV := by
 rw [fe, List.pairwise_map, List.pairwise_filter];refine ((PA h).and (pb h)).imp fun {a b} q ha hb => ?_;simp only [Bool.and_eq_true] at ha hb;rw [dw, if_pos ha.1, dw, if_pos hb.1]; exact q
theorem wa {R : bI} {now aC : Int} {l : List aw} (h : dF R now aC l) (k : Int) : (fH R l k now).Pairwise fun a b => bp a b = true :=
 Ck oz (R := fun a b => a.aC ≠ b.aC ∧ a.aV ≠ b.aV) (fun a b q => ⟨fun e => q.1 e.symm, fun e => q.2 e.symm⟩) (fun a b q1 q2 => B0 q1 (fun e => q2.1 e.symm)) (Ig h k)
theorem wb {R : bI} {now aC : Int} {l : List aw} (h : dF R now aC l) {k : Int} {y : Entry} : y ∈ fH R l k now ↔ ∃ z ∈ l, z.ah = k ∧ z.st = 1 ∧ y = kC R z now := by
 rw [fH, uE, fe, List.mem_map]
 constructor
 · rintro ⟨z, hz, rfl⟩
   obtain ⟨z1, z2⟩ := List.mem_filter.1 hz;simp only [Bool.and_eq_true, beq_iff_eq] at z2;have z3 := z2.1;simp only [eQ, Bool.and_eq_true, beq_iff_eq] at z3;exact ⟨z, z1, z2.2, z3.2, by rw [dw, if_pos z2.1]⟩
 · rintro ⟨z, hz, hc, hs, rfl⟩
   have e : eQ R z now = true := by rw [eQ, (h.ok z hz).1, hs]; rfl
   exact ⟨z, List.mem_filter.2 ⟨hz, by rw [e, hc]; simp⟩, by rw [dw, if_pos e]⟩
theorem PB {R : bI} {now aC : Int} {l : List aw} (h : dF R now aC l) (k : Int) : ga (fH R l k now) := by
 refine ⟨fun e he => ?_, wa h k, ?_⟩
 · obtain ⟨z, hz, hc, hs, rfl⟩ := (wb h).1 he;have ok := (h.ok z hz).1;have := B3 ok hs
   rwa [v8 ok hs] at this
 · have := ((Cj (lt := bp) (fe R k now l)).pairwise_iff (R := fun a b => a.aC ≠ b.aC ∧ a.aV ≠ b.aV) (fun {a b} q => ⟨fun e => q.1 e.symm, fun e => q.2 e.symm⟩)).2 (Ig h k);exact this.imp fun {a b} q => q.2
theorem rV {l : List aw} {k : Int} {y : aB} : y ∈ gO l k ↔ ∃ z ∈ l, z.ah = k ∧ z.st = 2 ∧ y = dJ z := by
 rw [gO, uE, fA, List.mem_map]
 constructor
 · rintro ⟨z, hz, rfl⟩
   obtain ⟨z1, z2⟩ := List.mem_filter.1 hz;simp only [Bool.and_eq_true, beq_iff_eq] at z2;exact ⟨z, z1, z2.2, z2.1, rfl⟩
 · rintro ⟨z, hz, hc, hs, rfl⟩
   exact ⟨z, List.mem_filter.2 ⟨hz, by rw [hs, hc]; simp⟩, rfl⟩
theorem Cm {a b : aB} (h : bm b a = false) (ht : a.pid ≠ b.pid) : bm a b = true := by
 simp only [bm, Bool.or_eq_false_iff, Bool.and_eq_false_iff, decide_eq_false_iff_not, beq_eq_false_iff_ne] at h;simp only [bm, Bool.or_eq_true, Bool.and_eq_true, decide_eq_true_eq, beq_iff_eq];omega
theorem Cn {R : bI} {now aC : Int} {l : List aw} (h : dF R now aC l) (k : Int) : (gO l k).Pairwise fun a b => bm a b = true := by
 refine Ck jM (R := fun a b => a.pid ≠ b.pid) (fun a b q e => q e.symm) (fun a b q1 q2 => Cm q1 q2) ?_;rw [fA, List.pairwise_map, List.pairwise_filter];exact (pb h).imp fun {a b} q _ _ => q
theorem Co {w : List (List aB)} (h : bz w = true) {q : aB} : q ∈ bL w ↔ q ∈ bf w := by rw [bL, if_pos h, uE]
theorem PC {w : List (List aB)} (h : bz w = true) : (bL w).Pairwise fun a b => bm a b = true := by
 rw [bL, if_pos h];exact Ck jM (R := fun a b => a.pid ≠ b.pid) (fun a b q e => q e.symm) (fun a b q1 q2 => Cm q1 q2) (wG h).ne
theorem Cq {w : List (List aB)} {k : Nat} (hk : k < w.length) (x : List aB) : bf (w.set k x) = (w.take k).flatten ++ (x ++ (w.drop (k + 1)).flatten) := by
 rw [bf, List.set_eq_take_append_cons_drop, if_pos hk, List.flatten_append, List.flatten_cons]
theorem Cr {w : List (List aB)} {k : Nat} (hk : k < w.length) : bf w = (w.take k).flatten ++ (w[k] ++ (w.drop (k + 1)).flatten) := by
 have := Cq hk w[k]
 rwa [List.set_getElem_self hk] at this
theorem PD {w : List (List aB)} (h : bz w = true) {p : aB} (hp : p ∈ bf w) : ∃ hk : fh p < w.length, p ∈ w[fh p] := by
 obtain ⟨l, hl, oq⟩ := List.mem_flatten.1 hp;obtain ⟨k, hk, rfl⟩ := List.getElem_of_mem hl;have e := (wG h).at_ k _ (List.getElem?_eq_getElem hk) p oq;have e2 : fh p = k := by rw [fh, e]; rfl
 subst e2;exact ⟨hk, oq⟩
theorem qG {w : List (List aB)} {p : aB} (hk : fh p < w.length) : bJ w p = w[fh p] := by
 show w.getD (fh p) [] = _;rw [List.getD_eq_getElem?_getD, List.getElem?_eq_getElem hk]; rfl
theorem PE {w : List (List aB)} (h : bz w = true) {p : aB} (hp : p ∈ bf w) : bz (h_ w p) = true ∧ ∀ q, q ∈ bf (h_ w p) ↔ q ∈ bf w ∧ q ≠ p := by
 obtain ⟨hk, hm⟩ := PD h hp;have g := wG h;have h1 : 1 ≤ p.tm := yx (g.ok p hp);rcases im (fun q : aB => decide (q = p)) (bJ w p) with ⟨_, e⟩ | ⟨i, hi, e, e1, _⟩
 · have := e p (by rw [qG hk]; exact hm);simp at this
 have e : jA (bJ w p) p = (i : Int) := e;have eb : gQ w p = true := by rw [tT h h1]; exact decide_eq_true (by omega)
 have e1 : (bJ w p)[i] = p := of_decide_eq_true e1;rw [← BY e eb]
 have hs : bJ w p = (bJ w p).take i ++ p :: (bJ w p).drop (i + 1) := by
   have := List.getElem_cons_drop hi;rw [e1] at this;rw [this, List.take_append_drop]
 have pm : (bf w).Perm (p :: bf (w.set (fh p) ((bJ w p).take i ++ (bJ w p).drop (i + 1)))) := by
   rw [Cq hk, Cr hk, ← qG hk]
   conv => lhs; rw [hs]
   generalize (bJ w p).take i = a;generalize (bJ w p).drop (i + 1) = b;generalize (w.take (fh p)).flatten = c;generalize (w.drop (fh p + 1)).flatten = d;have e : c ++ (a ++ p :: b ++ d) = (c ++ a) ++ p :: (b ++ d) := by simp
   have e2 : c ++ (a ++ b ++ d) = (c ++ a) ++ (b ++ d) := by simp
   rw [e, e2];exact List.perm_middle
 have ne : (p :: bf (w.set (fh p) ((bJ w p).take i ++ (bJ w p).drop (i + 1)))).Pairwise fun a b => a.pid ≠ b.pid := (pm.pairwise_iff (fun {a b} q e => q e.symm)).1 g.ne;obtain ⟨n1, n2⟩ := List.pairwise_cons.1 ne
 have sub : ((bJ w p).take i ++ (bJ w p).drop (i + 1)).Sublist (bJ w p) := by
   have h := List.Sublist.append (List.Sublist.refl ((bJ w p).take i)) (List.drop_sublist_drop_left (bJ w p) (Nat.le_succ i))
   rwa [List.take_append_drop] at h
 refine ⟨HN.2 ⟨by rw [List.length_set]; exact g.len, ?_, fun q hq => g.ok q ((pm.mem_iff).2 (List.mem_cons_of_mem _ hq)), n2, fun j l hl q hq => ?_, fun l hl => ?_⟩, fun q => ?_⟩
 · have := pm.length_eq;have := g.dq;rw [List.length_cons] at *; omega
 · rw [List.getElem?_set] at hl
   split at hl
   · rename_i ej;cases hl;subst ej;refine g.at_ (fh p) (bJ w p) (by rw [qG hk]; exact List.getElem?_eq_getElem hk) q (sub.subset hq)
   · exact g.at_ j l hl q hq
 · rcases List.mem_or_eq_of_mem_set hl with q | rfl
   · exact g.gb l q
   · exact (g.gb _ (by rw [qG hk]; exact List.getElem_mem hk)).sublist sub
 · rw [pm.mem_iff, List.mem_cons]
   constructor
   · intro hq;exact ⟨.inr hq, fun e => n1 q hq (by rw [e])⟩
   · rintro ⟨rfl | hq, hn⟩
     · exact (hn rfl).elim
     · exact hq
theorem PF {w : List (List aB)} (h : bz w = true) {p : aB} (ok : eC p = true) (aX : ∀ q ∈ bf w, q.pid ≠ p.pid) (dq : (bf w).length ≤ 9) : bz (lp w p) = true ∧ ∀ q, q ∈ bf (lp w p) ↔ q = p ∨ q ∈ bf w := by
 have g := wG h;have h1 := yx ok;have hh := rQ h h1;have hk := hh.2
 have pm : (bf (dR w p)).Perm (p :: bf w) := by
  rw [dR, Cq hk, Cr hk, ← qG hk];refine (List.Perm.append_left _ (List.Perm.append_right _ Ie)).trans ?_;rw [List.cons_append];exact List.perm_middle
 have gi : bz (dR w p) = true := by
  refine HN.2 ⟨by rw [dR, List.length_set]; exact g.len, ?_, fun q hq => ?_, ?_, fun j l hl q hq => ?_, fun l hl => ?_⟩
  · have := pm.length_eq;rw [List.length_cons] at this; omega
  · rcases List.mem_cons.1 (pm.mem_iff.1 hq) with rfl | hq
    · exact ok
    · exact g.ok q hq
  · refine (pm.pairwise_iff (fun {a b} q e => q e.symm)).2 (List.pairwise_cons.2 ⟨fun q hq e => aX q hq e.symm, g.ne⟩)
  · rw [dR, List.getElem?_set] at hl
    split at hl
    · rename_i ej;cases hl;subst ej;rcases qW.1 hq with rfl | hq
      · show q.tm.tmod 9 = ((q.tm.tmod 9).toNat : Int);have := hh.1.1; omega
      · exact g.at_ (fh p) (bJ w p) (by rw [qG hk]; exact List.getElem?_eq_getElem hk) q hq
    · exact g.at_ j l hl q hq
  · rcases List.mem_or_eq_of_mem_set hl with q | rfl
    · exact g.gb l q
    · refine Cl jM (g.gb _ (by rw [qG hk]; exact List.getElem_mem hk)) fun y hy q => Cm q (fun e => ?_);exact aX y (by rw [Cr hk, ← qG hk]; simp [hy]) e.symm
 have eb : gf w p = true := by rw [gf, h, gi, decide_eq_true h1]; rfl
 rw [lp, if_pos eb];exact ⟨gi, fun q => by rw [pm.mem_iff, List.mem_cons]⟩
theorem yD {α : Type} {l : List α} {i : Nat} (hi : i < l.length) : l = l.take i ++ l[i] :: l.drop (i + 1) := by
 rw [List.getElem_cons_drop hi, List.take_append_drop]
theorem Cs {l : List aw} (hd : l.Pairwise fun a b => a.id ≠ b.id) {i : Nat} (hi : i < l.length) {z : aw} : z ∈ l.take i ++ l.drop (i + 1) ↔ z ∈ l ∧ z.id ≠ l[i].id := by
 have pm : l.Perm (l[i] :: (l.take i ++ l.drop (i + 1))) := by
   conv => lhs; rw [yD hi]
   exact List.perm_middle
 obtain ⟨n1, _⟩ := List.pairwise_cons.1 ((pm.pairwise_iff (fun {a b} q e => q e.symm)).1 hd);rw [pm.mem_iff, List.mem_cons]
 constructor
 · intro hz;exact ⟨.inr hz, fun e => n1 z hz e.symm⟩
 · rintro ⟨rfl | hz, hn⟩
   · exact (hn rfl).elim
   · exact hz
theorem Ct {l : List aw} (hd : l.Pairwise fun a b => a.id ≠ b.id) {i : Nat} (hi : i < l.length) {q z : aw} : z ∈ l.set i q ↔ z = q ∨ (z ∈ l ∧ z.id ≠ l[i].id) := by
 rw [← Cs hd hi, List.set_eq_take_append_cons_drop, if_pos hi, List.mem_append, List.mem_append, List.mem_cons]
 constructor
 · rintro (h | h | h)
   · exact .inr (.inl h)
   · exact .inl h
   · exact .inr (.inr h)
 · rintro (h | h | h)
   · exact .inr (.inl h)
   · exact .inl h
   · exact .inr (.inr h)
theorem wc {α : Type} (f : α → Nat) {l : List α} {i : Nat} (hi : i < l.length) : af f (l.take i ++ l.drop (i + 1)) + f l[i] = af f l := by
 conv => rhs; rw [yD hi]
 rw [rI, rI];show _ = _ + (f l[i] + af f (l.drop (i + 1)));omega
theorem tU {α : Type} (f : α → Nat) {l : List α} {i : Nat} (hi : i < l.length) (q : α) : af f (l.set i q) + f l[i] = af f l + f q := by
 rw [← wc f hi, List.set_eq_take_append_cons_drop, if_pos hi, rI, rI];show af f (l.take i) + (f q + af f (l.drop (i + 1))) + _ = _;omega
theorem Ih {α : Type} {R : α → α → Prop} {l : List α} (h : l.Pairwise R) {i : Nat} (hi : i < l.length) {q : α} (h1 : ∀ x, R x l[i] → R x q) (h2 : ∀ x, R l[i] x → R q x) : (l.set i q).Pairwise R := by
 rw [List.set_eq_take_append_cons_drop, if_pos hi];rw [yD hi, List.pairwise_append, List.pairwise_cons] at h;obtain ⟨a1, ⟨a2, a3⟩, a4⟩ := h;rw [List.pairwise_append, List.pairwise_cons];refine ⟨a1, ⟨fun b hb => h2 b (a2 b hb), a3⟩, fun a ha b hb => ?_⟩;rcases List.mem_cons.1 hb with rfl | hb
 · exact h1 a (a4 a ha _ List.mem_cons_self)
 · exact a4 a ha b (List.mem_cons_of_mem _ hb)
theorem dF.cut {R : bI} {now aC : Int} {l : List aw} (h : dF R now aC l) (i : Nat) : dF R now aC (l.take i ++ l.drop (i + 1)) := by
 have sub : (l.take i ++ l.drop (i + 1)).Sublist l := by
  have h := List.Sublist.append (List.Sublist.refl (l.take i)) (List.drop_sublist_drop_left l (Nat.le_succ i))
  rwa [List.take_append_drop] at h
 exact ⟨fun p hp => h.ok p (sub.subset hp), h.gb.sublist sub, h.fair.sublist sub⟩
theorem dF.set {R : bI} {now aC : Int} {l : List aw} (h : dF R now aC l) {i : Nat} (hi : i < l.length) {q : aw} (ok : bD R q now = true) (e1 : q.id = l[i].id) (e2 : q.aC = l[i].aC) (e3 : q.since = l[i].since) : dF R now aC (l.set i q) := by
 refine ⟨fun p hp => ?_, Ih h.gb hi (fun x hx => by rw [e1]; exact hx) (fun x hx => by rw [e1]; exact hx), Ih h.fair hi (fun x hx => ?_) (fun x hx => ?_)⟩
 · rcases List.mem_or_eq_of_mem_set hp with hp | rfl
   · exact h.ok p hp
   · exact ⟨ok, by rw [e2]; exact (h.ok _ (List.getElem_mem hi)).2⟩
 · simp only [gx, e2, e3] at hx ⊢; exact hx
 · simp only [gx, e2, e3] at hx ⊢; exact hx
theorem yE {R : bI} {now aC : Int} {l : List aw} (h : dF R now aC l) {k : Int} {row : List Entry} (hs : row.Pairwise fun a b => bp a b = true) (hm : ∀ y, y ∈ row ↔ ∃ z ∈ l, z.ah = k ∧ z.st = 1 ∧ y = kC R z now) : row = fH R l k now :=
 yC oz hs (wa h k) fun y => by rw [hm, wb h]
theorem Cu {R : bI} {now aC : Int} {l : List aw} (h : dF R now aC l) {k : Int} {w : List (List aB)} (hw : bz w = true) (hm : ∀ y, y ∈ bf w ↔ ∃ z ∈ l, z.ah = k ∧ z.st = 2 ∧ y = dJ z) : bL w = gO l k :=
 yC jM (PC hw) (Cn h k) fun y => by rw [Co hw, hm, rV]
def gh (c : bd) (p : aw) : bd := { c with aj := bW c.aj p.al 1 (-1) 0 0, spoke := h_ c.spoke (dJ p) }
def bX (h : an) (k : Int) (c : bd) : an := { h with cabins := h.cabins.set k.toNat c }
def dg (h : an) (p : aw) : an := bX h p.ah (gh (aA h p.ah) p)
def jU (c : bd) (n : Int) : bd := { c with aj := bW c.aj n 0 0 0 (-1) }
def kM (h : an) (p : aw) : an := if p.ak = -1 then h else bX h p.ak (jU (aA h p.ak) p.al)
def eF (h : an) (p : aw) : an := kM { h with ae := fg h.ae p.id } p
def we (c : bd) (e : Entry) : bd := { c with row := bS bp e c.row }
def tV (h : an) (p : aw) : an := bX h p.ah (we (aA h p.ah) (dw h.rules p h.now))
def m7 (h : an) (p : aw) : an := tV { dg h p with ae := ir h.ae (eE h.rules p h.now) } (eE h.rules p h.now)
def eT (h : an) (p : aw) : an := if fb h.rules p h.now = true then m7 h p else eF (dg h p) p
def gA (h : an) (p : aw) : aw := { p with st := 2, cm := h.now + h.rules.cp }
def tW (h : an) (c : bd) (p : aw) : bd := { c with aj := bW c.aj p.al (-1) 1 0 0, row := hZ c.row p.id, spoke := lp c.spoke (dJ (gA h p)) }
def kN (h : an) (k : Int) (p : aw) : an := bX { h with ae := ir h.ae (gA h p) } k (tW h (aA h k) p)
theorem m8 (h : an) (k : Int) (c : bd) : (bX h k c).cabins.length = h.cabins.length := List.length_set
theorem yF {α : Type} (l : List α) (k : Nat) (x : α) : l.set ((k : Int)).toNat x = l.set k x := by rw [Int.toNat_natCast]
structure jV (h : an) (p : aw) (f : Nat) : Prop where
 eq : p.ak = (f : Int)
 lt : f < h.cabins.length
theorem jV.of {h h' : an} {p : aw} (hl : h'.cabins.length = h.cabins.length) (hf : p.ak = -1 ∨ ∃ f, jV h p f) : p.ak = -1 ∨ ∃ f, jV h' p f :=
 hf.elim .inl fun ⟨f, q⟩ => .inr ⟨f, q.eq, by rw [hl]; exact q.lt⟩
theorem nU {h : an} {k : Nat} {c : bd} (hk : h.cabins[k]? = some c) : aA h (k : Int) = c := by
 show (h.cabins[((k : Int)).toNat]?).getD default = c;rw [Int.toNat_natCast, hk]; rfl
theorem PG {h : an} {k : Nat} {c : bd} (hk : k < h.cabins.length) : aA (bX h (k : Int) c) (k : Int) = c := by
 show ((h.cabins.set ((k : Int)).toNat c)[((k : Int)).toNat]?).getD default = c;rw [Int.toNat_natCast, List.getElem?_set]; simp [hk]
theorem PH {h : an} {k f : Nat} {c : bd} (aX : f ≠ k) : aA (bX h (f : Int) c) (k : Int) = aA h (k : Int) := by
 show ((h.cabins.set ((f : Int)).toNat c)[((k : Int)).toNat]?).getD default = (h.cabins[((k : Int)).toNat]?).getD default;rw [Int.toNat_natCast, Int.toNat_natCast, List.getElem?_set, if_neg aX]
theorem Ii {R : bI} {p : aw} {now : Int} (h : fb R p now = true) : bD R (eE R p now) now = true := by
 simp only [fb, Bool.and_eq_true, decide_eq_true_eq] at h;obtain ⟨h1, h2, h3⟩ := h;have ha := BZ h1;have hg := qo h1;have hr := fo hg.rules;have q1 := hr.rest;have q2 := hg.rH;have h4 := h1;simp only [bD, Bool.and_eq_true] at h4 ⊢;obtain ⟨a1, a2, a3, a4, a5, a6, a7, a8, a9, wg, Ij, PI⟩ := h4;refine ⟨a1, a2, a3, a4, a5, a6, a7, a8, a9, wg, ?_, ?_⟩
 · show aq (p.asked + 1) 0 (R.tries - 1) = true;simp only [aq, Bool.and_eq_true, decide_eq_true_eq];omega
 · show ((1 : Int) == 1 && aq (now + R.rest) 0 (now + R.rest) || _) = true;rw [Bool.or_eq_true];left;simp only [aq, Bool.and_eq_true, decide_eq_true_eq];exact ⟨rfl, by omega, by omega⟩
theorem PJ {h : an} {p : aw} (h1 : bD h.rules p h.now = true) : bD h.rules (gA h p) h.now = true := by
 have hg := qo h1;have hr := fo hg.rules;have q1 := hr.cp;have q2 := hg.rH;have h4 := h1;simp only [bD, Bool.and_eq_true] at h4 ⊢;obtain ⟨a1, a2, a3, a4, a5, a6, a7, a8, a9, wg, Ij, PI⟩ := h4;refine ⟨a1, a2, a3, a4, a5, a6, a7, a8, a9, wg, Ij, ?_⟩;show (_ || (2 : Int) == 2 && aq (h.now + h.rules.cp) 1 (h.now + h.rules.cp)) = true;rw [Bool.or_eq_true];right;simp only [aq, Bool.and_eq_true, decide_eq_true_eq];exact ⟨rfl, by omega, by omega⟩
theorem Ik {l : List aw} {q : aw} {i : Nat} (h : bw l q.id = (i : Int)) : ir l q = l.set i q := by
 rw [ir, if_pos (by omega), h, Int.toNat_natCast]
theorem Il {l : List aw} {id : Int} {i : Nat} (h : bw l id = (i : Int)) : fg l id = l.take i ++ l.drop (i + 1) := by
 rw [fg, cutAt, h, if_neg (by omega), Int.toNat_natCast]
theorem Cv {l : List aw} (hd : l.Pairwise fun a b => a.id ≠ b.id) {p : aw} (hp : p ∈ l) : ∃ i, ∃ h : i < l.length, bw l p.id = (i : Int) ∧ l[i] = p := by
 rcases im (fun q : aw => q.id == p.id) l with ⟨_, e⟩ | ⟨i, hi, e, e1, _⟩
 · have := e p hp;simp at this
 · refine ⟨i, hi, e, ?_⟩;obtain ⟨j, hj, rfl⟩ := List.getElem_of_mem hp;have hw := List.pairwise_iff_getElem.1 hd;have e1 : l[i].id = l[j].id := by simpa using e1
   rcases Nat.lt_trichotomy i j with q | rfl | q
   · exact (hw i j hi hj q e1).elim
   · rfl
   · exact (hw j i hj hi q e1.symm).elim
theorem PK {h : an} (hs : jy h.cabins) {k : Int} {c : bd} (hc : fU c) : jy (bX h k c).cabins := by
 refine ⟨by rw [m8]; exact hs.1, fun x hx => ?_⟩;rcases List.mem_or_eq_of_mem_set hx with q | q
 · exact hs.2 x q
 · exact q ▸ hc
structure cG (h : an) (i k : Nat) (p : aw) (c : bd) : Prop where
 hg : HG h
 hi : h.ae[i]? = some p
 hk : h.cabins[k]? = some c
 ah : p.ah = (k : Int)
 ok : bD h.rules p h.now = true
 at_ : bw h.ae p.id = (i : Int)
theorem BK.Im {h : an} {id : Int} {i k : Nat} (kn : BK h id i k) (hg : HG h) : cG h i k (h.ae[i]'kn.lt) (h.cabins[k]'kn.clt) :=
 ⟨hg, List.getElem?_eq_getElem kn.lt, List.getElem?_eq_getElem kn.clt, kn.ah, kn.ok, by rw [kn.id]; exact kn.at_⟩
section
variable {h : an} {i k : Nat} {p : aw} {c : bd}
theorem cG.lt (o : cG h i k p c) : ∃ hi : i < h.ae.length, h.ae[i] = p := by
 have hi := bK o.hi;have := o.hi;rw [List.getElem?_eq_getElem hi] at this;exact ⟨hi, by simpa using this⟩
theorem cG.mem (o : cG h i k p c) : p ∈ h.ae := List.mem_of_getElem? o.hi
theorem cG.al (o : cG h i k p c) : 1 ≤ p.al ∧ p.al ≤ 6 := by
 have h1 := (qo o.ok).al;have h2 := (fo o.hg.rules).size;omega
theorem cG.one (o : cG h i k p c) {z : aw} (hz : z ∈ h.ae) (hn : z ≠ p) : z.id ≠ p.id := (B4 o.hg.ae hz o.mem hn).1
theorem cG.jB (o : cG h i k p c) : aA h p.ah = c := by rw [o.ah]; exact nU o.hk
theorem cG.m9 (o : cG h i k p c) : 0 ≤ p.ah ∧ p.ah < (h.cabins.length : Int) := by
 have := bK o.hk;have := o.ah;omega
theorem cG.ak (o : cG h i k p c) : p.ak = -1 ∨ ∃ f, jV h p f := by
 have h1 := (o_ o.ok).ak;have h2 := o.hg.kI
 by_cases q : p.ak = -1
 · exact .inl q
 · exact .inr ⟨p.ak.toNat, by omega, by omega⟩
end
structure nV (R : bI) (now : Int) (l : List aw) (j : Nat) (c : bd) : Prop where
 total : c.aj.total = R.aj.getD j 0
 room : ((af (bU (j : Int)) l : Nat) : Int) ≤ R.room
 me : a_ c.aj = true
 row : c.row = fH R l (j : Int) now
 mg : bz c.spoke = true
 pins : bL c.spoke = gO l (j : Int)
 held : c.aj.held = ((af (cz (j : Int)) l : Nat) : Int)
 tied : c.aj.tied = ((af (cF (j : Int)) l : Nat) : Int)
theorem HG.lr {h : an} (hg : HG h) {j : Nat} {c : bd} (hj : h.cabins[j]? = some c) : nV h.rules h.now h.ae j c := by
 have r := rS hg hj;exact ⟨r.total, r.room, r.me, r.row, r.mg, r.pins, r.held, r.tied⟩
theorem nV.at_ {h : an} {aC : Int} (hr : cX h.rules = true) (hp : dF h.rules h.now aC h.ae) {j : Nat} {c : bd} (g : nV h.rules h.now h.ae j c) : iq h j c = true := by
 have h1 := (fo hr).room;have h2 := g.room
 have h3 : (fH h.rules h.ae (j : Int) h.now).length ≤ 10 := by
  rw [fH, mz];exact BJ (by omega)
 have h4 : dI c.row = true := by rw [g.row]; exact vz h3 (PB hp _)
 simp only [iq, fI, kG, Bool.and_eq_true, decide_eq_true_eq, beq_iff_eq];exact ⟨g.total, g.room, ⟨g.me, h4, g.mg⟩, g.row, g.pins, g.held, g.tied⟩
theorem HG.next {h E : an} (hg : HG h) (e1 : E.rules = h.rules) (e2 : E.now = h.now) (e3 : E.aC = h.aC) (e4 : E.ae.length ≤ 40) (e5 : E.cabins.length = h.cabins.length) (e6 : E.todo = h.todo) (e7 : E.aF = h.aF)
  (hp : dF h.rules h.now h.aC E.ae) (hc : ∀ (j : Nat) c, E.cabins[j]? = some c → nV h.rules h.now E.ae j c) : HG E := by
 refine ⟨by rw [e1]; exact hg.rules, by rw [e2]; exact hg.now, by rw [e3]; exact hg.aC, e4, by rw [e5, e1]; exact hg.kI, by rw [e1, e2, e3]; exact hp, by rw [e5, e6, e7]; exact hg.aF, by rw [e7, e1]; exact hg.cC, fun j c hj => ?_⟩;have d_ : dF E.rules E.now E.aC E.ae := by rw [e1, e2, e3]; exact hp
 exact nV.at_ (by rw [e1]; exact hg.rules) d_ (by rw [e1, e2]; exact hc j c hj)
theorem nV.other {R : bI} {now aC : Int} {l l' : List aw} {j : Nat} {c c' : bd} (g : nV R now l j c) (hp : dF R now aC l) (d_ : dF R now aC l') (er : c'.row = c.row) (es : c'.spoke = c.spoke) (et : c'.aj.total = c.aj.total) (el : a_ c'.aj = true)
   (hm : ∀ z, z.ah = (j : Int) → (z ∈ l' ↔ z ∈ l)) (z1 : af (bU (j : Int)) l' ≤ af (bU (j : Int)) l) (z2 : c'.aj.held = ((af (cz (j : Int)) l' : Nat) : Int)) (z3 : c'.aj.tied = ((af (cF (j : Int)) l' : Nat) : Int)) : nV R now l' j c' := by
 refine ⟨et.trans g.total, by have := g.room; omega, el, ?_, by rw [es]; exact g.mg, ?_, z2, z3⟩
 · rw [er];refine yE d_ (by rw [g.row]; exact wa hp _) fun y => ?_;rw [g.row, wb hp];exact ⟨fun ⟨z, a, b, d⟩ => ⟨z, (hm z b).2 a, b, d⟩, fun ⟨z, a, b, d⟩ => ⟨z, (hm z b).1 a, b, d⟩⟩
 · rw [es, g.pins];refine yC jM (Cn hp _) (Cn d_ _) fun y => ?_;rw [rV, rV];exact ⟨fun ⟨z, a, b, d⟩ => ⟨z, (hm z b).2 a, b, d⟩, fun ⟨z, a, b, d⟩ => ⟨z, (hm z b).1 a, b, d⟩⟩
theorem qH {k : Int} {p : aw} (h : p.st ≠ 2 ∨ p.ah ≠ k) : cz k p = 0 := by
 rw [cz, if_neg];simp only [l_, Bool.and_eq_true, beq_iff_eq]
 rintro ⟨a, b, _⟩
 rcases h with h | h
 · exact h a
 · exact h b
theorem yG {k : Int} {p : aw} (h1 : p.st = 2) (h2 : p.ah = k) (h3 : 1 ≤ p.al ∧ p.al ≤ 6) : cz k p = p.al.toNat := by
 rw [cz, if_pos];simp only [l_, Bool.and_eq_true, beq_iff_eq, aq, decide_eq_true_eq];exact ⟨h1, h2, h3⟩
theorem Io {k : Int} {p : aw} (h : p.ak ≠ k) : cF k p = 0 := by
 rw [cF, if_neg];simp only [kA, Bool.and_eq_true, beq_iff_eq];exact fun q => h q.1
theorem PL {k : Int} {p : aw} (h2 : p.ak = k) (h3 : 1 ≤ p.al ∧ p.al ≤ 6) : cF k p = p.al.toNat := by
 rw [cF, if_pos];simp only [kA, Bool.and_eq_true, beq_iff_eq, aq, decide_eq_true_eq];exact ⟨h2, h3⟩
structure PM (x : bA) : Prop where
 total : 1 ≤ x.total ∧ x.total ≤ 60
 free : 0 ≤ x.free ∧ x.free ≤ x.total
 held : 0 ≤ x.held ∧ x.held ≤ x.total
 bn : 0 ≤ x.bn ∧ x.bn ≤ x.total
 sum : x.free + x.held + x.bn = x.total
 tied : 0 ≤ x.tied ∧ x.tied ≤ x.bn
theorem tX {x : bA} : a_ x = true ↔ PM x := by
 simp only [a_, Bool.and_eq_true, aq, decide_eq_true_eq];exact ⟨fun ⟨a, b, c, d, e, f⟩ => ⟨a, b, c, d, e, f⟩, fun ⟨a, b, c, d, e, f⟩ => ⟨a, b, c, d, e, f⟩⟩
theorem PN {x : bA} (h : a_ x = true) {n : Int} (hn : 0 ≤ n ∧ n ≤ 60) (hh : n ≤ x.held) : bW x n 1 (-1) 0 0 = ⟨x.total, x.free + n, x.held - n, x.bn, x.tied⟩ ∧ a_ (bW x n 1 (-1) 0 0) = true := by
 obtain ⟨a, b, c, d, e, f⟩ := tX.1 h;have h2 : a_ ⟨x.total, x.free + n, x.held - n, x.bn, x.tied⟩ = true := tX.2 ⟨a, by constructor <;> simp only <;> omega, by constructor <;> simp only <;> omega, d, by simp only; omega, f⟩
 have e1 : bE x n 1 (-1) 0 0 = true := by
  rw [bE, yt, h, h2]; simp [aq, hn.1, hn.2]
 rw [bW, if_pos e1, yt];exact ⟨rfl, h2⟩
theorem PO {x : bA} (h : a_ x = true) {n : Int} (hn : 0 ≤ n ∧ n ≤ 60) (hh : n ≤ x.free) : bW x n (-1) 1 0 0 = ⟨x.total, x.free - n, x.held + n, x.bn, x.tied⟩ ∧ a_ (bW x n (-1) 1 0 0) = true := by
 obtain ⟨a, b, c, d, e, f⟩ := tX.1 h;have h2 : a_ ⟨x.total, x.free - n, x.held + n, x.bn, x.tied⟩ = true := tX.2 ⟨a, by constructor <;> simp only <;> omega, by constructor <;> simp only <;> omega, d, by simp only; omega, f⟩
 have e1 : bE x n (-1) 1 0 0 = true := by
  rw [bE, yr, h, h2]; simp [aq, hn.1, hn.2]
 rw [bW, if_pos e1, yr];exact ⟨rfl, h2⟩
theorem PQ {x : bA} (h : a_ x = true) {n : Int} (hn : 0 ≤ n ∧ n ≤ 60) (hh : n ≤ x.tied) : bW x n 0 0 0 (-1) = ⟨x.total, x.free, x.held, x.bn, x.tied - n⟩ ∧ a_ (bW x n 0 0 0 (-1)) = true := by
 obtain ⟨a, b, c, d, e, f⟩ := tX.1 h;have h2 : a_ ⟨x.total, x.free, x.held, x.bn, x.tied - n⟩ = true := tX.2 ⟨a, b, c, d, e, by constructor <;> simp only <;> omega⟩
 have e1 : bE x n 0 0 0 (-1) = true := by
  rw [bE, yu, h, h2]; simp [aq, hn.1, hn.2]
 rw [bW, if_pos e1, yu];exact ⟨rfl, h2⟩
section
variable {h : an} {i k : Nat} {p : aw} {c : bd}
theorem cG.aI (o : cG h i k p c) (h2 : p.st = 2) : dJ p ∈ bf c.spoke := by
 have g := o.hg.lr o.hk;rw [← Co g.mg, g.pins, rV];exact ⟨p, o.mem, o.ah, h2, rfl⟩
theorem cG.held (o : cG h i k p c) (h2 : p.st = 2) : p.al ≤ c.aj.held := by
 obtain ⟨hi, e⟩ := o.lt;have g := o.hg.lr o.hk;have := wc (cz (k : Int)) hi;rw [e, yG h2 o.ah o.al] at this;have h3 := g.held;have h4 := o.al;omega
theorem cG.drop (o : cG h i k p c) (h2 : p.st = 2) : (gh c p).aj = ⟨c.aj.total, c.aj.free + p.al, c.aj.held - p.al, c.aj.bn, c.aj.tied⟩ ∧ a_ (gh c p).aj = true ∧ bz (gh c p).spoke = true ∧ ∀ q, q ∈ bf (gh c p).spoke ↔ q ∈ bf c.spoke ∧ q ≠ dJ p := by
 have g := o.hg.lr o.hk;have h4 := o.al;have a := PN g.me (n := p.al) (by omega) (o.held h2);have b := PE g.mg (o.aI h2);exact ⟨a.1, a.2, b.1, b.2⟩
theorem cG.pins (o : cG h i k p c) {y : aB} : y ∈ bf c.spoke ↔ ∃ z ∈ h.ae, z.ah = (k : Int) ∧ z.st = 2 ∧ y = dJ z := by
 have g := o.hg.lr o.hk;rw [← Co g.mg, g.pins, rV]
theorem cG.row (o : cG h i k p c) {y : Entry} : y ∈ c.row ↔ ∃ z ∈ h.ae, z.ah = (k : Int) ∧ z.st = 1 ∧ y = kC h.rules z h.now := by
 have g := o.hg.lr o.hk;rw [g.row, wb o.hg.ae]
theorem Cw (o : cG h i k p c) : m7 h p = { h with ae := h.ae.set i (eE h.rules p h.now), cabins := h.cabins.set k (we (gh c p) (dw h.rules (eE h.rules p h.now) h.now)) } := by
 have hk := bK o.hk;have e1 : ir h.ae (eE h.rules p h.now) = h.ae.set i (eE h.rules p h.now) := Ik o.at_;have e2 : dg h p = bX h (k : Int) (gh c p) := by rw [dg, o.jB, o.ah]
 rw [m7, e1, e2];show bX { bX h (k : Int) (gh c p) with ae := _ } p.ah (we (aA (bX h (k : Int) (gh c p)) p.ah) _) = _;rw [o.ah, PG hk];show ({ h with ae := _, cabins := (h.cabins.set ((k : Int)).toNat _).set ((k : Int)).toNat _ } : an) = _;rw [List.set_set, Int.toNat_natCast];rfl
theorem cG.m7 (o : cG h i k p c) (h2 : p.st = 2) (hf : fb h.rules p h.now = true) : HG (m7 h p) := by
 obtain ⟨hi, ei⟩ := o.lt;have hk := bK o.hk;have ok := Ii hf;have g := o.hg.lr o.hk;have hd := pb o.hg.ae;have dr := o.drop h2;have sz := o.al;generalize hq : eE h.rules p h.now = q at ok;have q1 : q.id = p.id := by rw [← hq]; rfl
 have q2 : q.aC = p.aC := by rw [← hq]; rfl
 have q3 : q.since = p.since := by rw [← hq]; rfl
 have q4 : q.ah = (k : Int) := by rw [← hq]; exact o.ah
 have q5 : q.st = 1 := by rw [← hq]; rfl
 have q6 : q.ak = p.ak := by rw [← hq]; rfl
 have q7 : q.al = p.al := by rw [← hq]; rfl
 have d_ : dF h.rules h.now h.aC (h.ae.set i q) := o.hg.ae.set hi ok (by rw [ei, q1]) (by rw [ei, q2]) (by rw [ei, q3]);have hm : ∀ z, z ∈ h.ae.set i q ↔ z = q ∨ (z ∈ h.ae ∧ z.id ≠ p.id) := fun z => by rw [Ct hd hi, ei]
 have ee : dw h.rules q h.now = kC h.rules q h.now := v8 ok q5;rw [Cw o, hq, ee];refine o.hg.next rfl rfl rfl ?_ ?_ rfl rfl d_ fun j c1 hj => ?_
 · show (h.ae.set i q).length ≤ 40;rw [List.length_set]; exact o.hg.dq
 · show (h.cabins.set k _).length = _;rw [List.length_set]
 show nV h.rules h.now (h.ae.set i q) j c1;have hj : (h.cabins.set k (we (gh c p) (kC h.rules q h.now)))[j]? = some c1 := hj;rw [List.getElem?_set] at hj;have s1 := tU (bU (j : Int)) hi q;have s2 := tU (cz (j : Int)) hi q;have s3 := tU (cF (j : Int)) hi q;have PR : bU (j : Int) q = bU (j : Int) h.ae[i] := by rw [ei, bU, bU, q4, o.ah]
 have PS : cF (j : Int) q = cF (j : Int) h.ae[i] := by rw [ei, cF, cF, kA, kA, q6, q7]
 by_cases ej : k = j
 · subst ej;rw [if_pos rfl, if_pos hk] at hj;cases hj;rw [ei, yG h2 o.ah sz, qH (.inl (by rw [q5]; decide))] at s2;have hh := o.held h2;refine ⟨?_, ?_, dr.2.1, ?_, dr.2.2.1, ?_, ?_, ?_⟩
   · show (gh c p).aj.total = _;rw [dr.1]; exact g.total
   · have := g.room; omega
   · refine yE d_ (Cl oz (by show (c.row).Pairwise _; rw [g.row]; exact wa o.hg.ae _) fun y hy hl => B0 hl fun e => ?_) fun y => ?_
     · obtain ⟨z, hz, hc, hs, rfl⟩ := o.row.1 hy;have hn : z ≠ p := fun e => by rw [e, h2] at hs; cases hs
       have := (B4 o.hg.ae hz o.mem hn).2;exact this (by rw [← q2]; exact e)
     · show y ∈ bS bp (kC h.rules q h.now) c.row ↔ _;rw [qW, o.row]
       constructor
       · rintro (rfl | ⟨z, hz, hc, hs, rfl⟩)
         · exact ⟨q, (hm q).2 (.inl rfl), q4, q5, rfl⟩
         · have hn : z ≠ p := fun e => by rw [e, h2] at hs; cases hs
           exact ⟨z, (hm z).2 (.inr ⟨hz, o.one hz hn⟩), hc, hs, rfl⟩
       · rintro ⟨z, hz, hc, hs, rfl⟩
         rcases (hm z).1 hz with rfl | ⟨hz, _⟩
         · exact .inl rfl
         · exact .inr ⟨z, hz, hc, hs, rfl⟩
   · refine Cu d_ dr.2.2.1 fun y => ?_;rw [show (we (gh c p) (kC h.rules q h.now)).spoke = (gh c p).spoke from rfl, dr.2.2.2, o.pins]
     constructor
     · rintro ⟨⟨z, hz, hc, hs, rfl⟩, hn⟩
       have hn : z ≠ p := fun e => hn (by rw [e]);exact ⟨z, (hm z).2 (.inr ⟨hz, o.one hz hn⟩), hc, hs, rfl⟩
     · rintro ⟨z, hz, hc, hs, rfl⟩
       rcases (hm z).1 hz with rfl | ⟨hz, hn⟩
       · rw [q5] at hs; cases hs
       · exact ⟨⟨z, hz, hc, hs, rfl⟩, fun e => hn (congrArg aB.pid e)⟩
   · show (gh c p).aj.held = _;rw [dr.1];show c.aj.held - p.al = _;have := g.held;omega
   · show (gh c p).aj.tied = _;rw [dr.1];show c.aj.tied = _;have := g.tied;omega
 · rw [if_neg ej] at hj;have gj := o.hg.lr hj;have aX : ((k : Int)) ≠ (j : Int) := by omega
   rw [ei, qH (.inr (by rw [o.ah]; exact aX)), qH (.inr (by rw [q4]; exact aX))] at s2;refine gj.other o.hg.ae d_ rfl rfl rfl gj.me (fun z hz => ?_) (by omega) (by have := gj.held; omega) (by have := gj.tied; omega);rw [hm]
   constructor
   · rintro (rfl | h)
     · exact (aX (q4.symm.trans hz)).elim
     · exact h.1
   · intro h;exact .inr ⟨h, o.one h fun e => aX (by rw [← o.ah, ← e]; exact hz)⟩
theorem PT (o : cG h i k p c) {j : Nat} {c1 : bd} (hj : (eF (dg h p) p).cabins[j]? = some c1) :
   ∃ c0, h.cabins[j]? = some c0 ∧ ((j = k ∧ c0 = c ∧ c1 = gh c p) ∨ (j ≠ k ∧ p.ak = (j : Int) ∧ c1 = jU c0 p.al) ∨ (j ≠ k ∧ p.ak ≠ (j : Int) ∧ c1 = c0)) := by
 have hk := bK o.hk;have e2 : dg h p = bX h (k : Int) (gh c p) := by rw [dg, o.jB, o.ah]
 have pn := o_ o.ok;have aX : p.ak ≠ (k : Int) := by rw [← o.ah]; exact pn.ne
 have base : ∀ {c1}, (h.cabins.set k (gh c p))[j]? = some c1 → ∃ c0, h.cabins[j]? = some c0 ∧ ((j = k ∧ c0 = c ∧ c1 = gh c p) ∨ (j ≠ k ∧ c1 = c0)) := fun {c1} hj => by
   rw [List.getElem?_set] at hj
   by_cases ej : k = j
   · subst ej;rw [if_pos rfl, if_pos hk] at hj;cases hj;exact ⟨c, o.hk, .inl ⟨rfl, rfl, rfl⟩⟩
   · rw [if_neg ej] at hj;exact ⟨c1, hj, .inr ⟨fun e => ej e.symm, rfl⟩⟩
 rw [eF, kM, e2] at hj
 by_cases hf : p.ak = -1
 · rw [if_pos hf] at hj;have hj : (h.cabins.set ((k : Int)).toNat (gh c p))[j]? = some c1 := hj;rw [Int.toNat_natCast] at hj;obtain ⟨c0, h1, h2⟩ := base hj;refine ⟨c0, h1, ?_⟩;rcases h2 with h2 | ⟨h2, h3⟩
   · exact .inl h2
   · exact .inr (.inr ⟨h2, by omega, h3⟩)
 · rw [if_neg hf] at hj;have fr := pn.ak;obtain ⟨f, ef⟩ : ∃ f : Nat, p.ak = (f : Int) := ⟨p.ak.toNat, by omega⟩;rw [ef] at hj aX;have aX : k ≠ f := fun e => aX (by rw [e]);have hj : ((h.cabins.set ((k : Int)).toNat (gh c p)).set ((f : Int)).toNat (jU (aA (bX h (k : Int) (gh c p)) (f : Int)) p.al))[j]? = some c1 := hj;rw [Int.toNat_natCast, Int.toNat_natCast, PH aX, List.getElem?_set] at hj
   by_cases ej : f = j
   · subst ej;rw [if_pos rfl] at hj
     split at hj
     · rename_i hl;rw [List.length_set] at hl;cases hj;refine ⟨h.cabins[f], List.getElem?_eq_getElem hl, .inr (.inl ⟨fun e => aX e.symm, ef, ?_⟩)⟩;rw [nU (List.getElem?_eq_getElem hl)]
     · cases hj
   · rw [if_neg ej] at hj;obtain ⟨c0, h1, h2⟩ := base hj;refine ⟨c0, h1, ?_⟩;rcases h2 with h2 | ⟨h2, h3⟩
     · exact .inl h2
     · exact .inr (.inr ⟨h2, by omega, h3⟩)
theorem Ip (h : an) (p : aw) : (kM h p).cabins.length = h.cabins.length := by
 unfold kM; split
 · rfl
 · exact m8 _ _ _
theorem mi (h : an) (p : aw) : (kM h p).rules = h.rules ∧ (kM h p).now = h.now ∧ (kM h p).aC = h.aC ∧ (kM h p).ae = h.ae ∧ (kM h p).todo = h.todo ∧ (kM h p).aF = h.aF := by
 unfold kM; split
 · exact ⟨rfl, rfl, rfl, rfl, rfl, rfl⟩
 · exact ⟨rfl, rfl, rfl, rfl, rfl, rfl⟩
theorem cG.gone (o : cG h i k p c) (h2 : p.st = 2) : HG (eF (dg h p) p) := by
 obtain ⟨hi, ei⟩ := o.lt;have hk := bK o.hk;have g := o.hg.lr o.hk;have hd := pb o.hg.ae;have dr := o.drop h2;have sz := o.al;have pn := o_ o.ok
 have ep : (eF (dg h p) p).ae = h.ae.take i ++ h.ae.drop (i + 1) := by
   refine (mi _ _).2.2.2.1.trans ?_;exact Il o.at_
 have d_ : dF h.rules h.now h.aC (h.ae.take i ++ h.ae.drop (i + 1)) := o.hg.ae.cut i;have hm : ∀ z, z ∈ h.ae.take i ++ h.ae.drop (i + 1) ↔ z ∈ h.ae ∧ z.id ≠ p.id := fun z => by rw [Cs hd hi, ei]
 refine o.hg.next (mi _ _).1 (mi _ _).2.1 (mi _ _).2.2.1 ?_ ?_ (mi _ _).2.2.2.2.1 (mi _ _).2.2.2.2.2 (by rw [ep]; exact d_) fun j c1 hj => ?_
 · rw [ep, List.length_append, List.length_take, List.length_drop];have := o.hg.dq; omega
 · exact (Ip _ _).trans (m8 _ _ _)
 rw [ep];obtain ⟨c0, hG, h5⟩ := PT o hj;have gj := o.hg.lr hG;have s1 := wc (bU (j : Int)) hi;have s2 := wc (cz (j : Int)) hi;have s3 := wc (cF (j : Int)) hi;rcases h5 with ⟨rfl, rfl, rfl⟩ | ⟨oy, hf, rfl⟩ | ⟨oy, hf, rfl⟩
 · rw [ei, yG h2 o.ah sz] at s2;rw [ei, Io (by rw [← o.ah]; exact pn.ne)] at s3;have hh := o.held h2;refine ⟨?_, ?_, dr.2.1, ?_, dr.2.2.1, ?_, ?_, ?_⟩
   · rw [dr.1]; exact g.total
   · have := g.room; omega
   · show c0.row = _;refine yE d_ (by rw [g.row]; exact wa o.hg.ae _) fun y => ?_;rw [o.row]
     constructor
     · rintro ⟨z, hz, hc, hs, rfl⟩
       have hn : z ≠ p := fun e => by rw [e, h2] at hs; cases hs
       exact ⟨z, (hm z).2 ⟨hz, o.one hz hn⟩, hc, hs, rfl⟩
     · rintro ⟨z, hz, hc, hs, rfl⟩
       exact ⟨z, ((hm z).1 hz).1, hc, hs, rfl⟩
   · refine Cu d_ dr.2.2.1 fun y => ?_;rw [dr.2.2.2, o.pins]
     constructor
     · rintro ⟨⟨z, hz, hc, hs, rfl⟩, hn⟩
       have hn : z ≠ p := fun e => hn (by rw [e]);exact ⟨z, (hm z).2 ⟨hz, o.one hz hn⟩, hc, hs, rfl⟩
     · rintro ⟨z, hz, hc, hs, rfl⟩
       have := (hm z).1 hz;exact ⟨⟨z, this.1, hc, hs, rfl⟩, fun e => this.2 (congrArg aB.pid e)⟩
   · rw [dr.1];show c0.aj.held - p.al = _;have := g.held;omega
   · rw [dr.1];show c0.aj.tied = _;have := g.tied;omega
 · have aX : (k : Int) ≠ (j : Int) := by omega
   rw [ei, qH (.inr (by rw [o.ah]; exact aX))] at s2;rw [ei, PL hf sz] at s3;have t1 := gj.tied;have t2 := PQ gj.me (n := p.al) (by omega) (by omega);refine gj.other o.hg.ae d_ rfl rfl (by show (bW c0.aj p.al 0 0 0 (-1)).total = _; rw [t2.1]) t2.2 (fun z hz => ?_) (by omega) ?_ ?_
   · rw [hm];exact ⟨fun h => h.1, fun h => ⟨h, o.one h fun e => aX (by rw [← o.ah, ← e]; exact hz)⟩⟩
   · show (bW c0.aj p.al 0 0 0 (-1)).held = _;rw [t2.1];have := gj.held;show c0.aj.held = _;omega
   · show (bW c0.aj p.al 0 0 0 (-1)).tied = _;rw [t2.1];show c0.aj.tied - p.al = _;omega
 · have aX : (k : Int) ≠ (j : Int) := by omega
   rw [ei, qH (.inr (by rw [o.ah]; exact aX))] at s2;rw [ei, Io hf] at s3;refine gj.other o.hg.ae d_ rfl rfl rfl gj.me (fun z hz => ?_) (by omega) (by have := gj.held; omega) (by have := gj.tied; omega);rw [hm];exact ⟨fun h => h.1, fun h => ⟨h, o.one h fun e => aX (by rw [← o.ah, ← e]; exact hz)⟩⟩
theorem cG.Iq (o : cG h i k p c) (h2 : p.st = 2) : HG (eT h p) := by
 unfold eT; split
 · rename_i hf; exact o.m7 h2 hf
 · exact o.gone h2
theorem cG.stay (o : cG h i k p c) {z : aw} (hz : z ∈ h.ae) (hn : z.id ≠ p.id) : z ∈ (eT h p).ae := by
 obtain ⟨hi, ei⟩ := o.lt;have hd := pb o.hg.ae;unfold eT; split
 · rw [Cw o];exact (Ct hd hi).2 (.inr ⟨hz, by rw [ei]; exact hn⟩)
 · rw [show (eF (dg h p) p).ae = h.ae.take i ++ h.ae.drop (i + 1) from (mi _ _).2.2.2.1.trans (Il o.at_)];exact (Cs hd hi).2 ⟨hz, by rw [ei]; exact hn⟩
theorem cG.ik (o : cG h i k p c) : (eT h p).rules = h.rules ∧ (eT h p).now = h.now ∧ (eT h p).cabins.length = h.cabins.length ∧ (eT h p).todo = h.todo ∧ (eT h p).aF = h.aF := by
 unfold eT; split
 · rw [Cw o];exact ⟨rfl, rfl, List.length_set, rfl, rfl⟩
 · exact ⟨(mi _ _).1, (mi _ _).2.1, (Ip _ _).trans (m8 _ _ _), (mi _ _).2.2.2.2.1, (mi _ _).2.2.2.2.2⟩
theorem cG.Cx (o : cG h i k p c) (h2 : p.st = 2) (hf : fb h.rules p h.now = true) : qE c.row (dw h.rules (eE h.rules p h.now) h.now) = bS bp (dw h.rules (eE h.rules p h.now) h.now) c.row := by
 have r := rS o.hg o.hk;have ok := Ii hf;have e := v8 ok (rfl : (eE h.rules p h.now).st = 1);have hm : dJ p ∈ gO h.ae (k : Int) := rV.2 ⟨p, o.mem, o.ah, h2, rfl⟩
 have hl : 1 ≤ (fA (k : Int) h.ae).length := by
  rw [gO, uE] at hm;exact List.length_pos_of_mem hm
 have h3 := r.bT;have h4 := r.room;have h5 := (fo o.hg.rules).room
 have key : ∀ y ∈ c.row, y.aV ≠ p.id ∧ y.aC ≠ p.aC := fun y hy => by
  obtain ⟨z, hz, hc, hs, rfl⟩ := o.row.1 hy;have hn : z ≠ p := fun e => by rw [e, h2] at hs; cases hs
  exact B4 o.hg.ae hz o.mem hn
 refine HW r.pre (by omega) (B3 ok rfl) (fun y hy => ?_) (fun y hy => ?_)
 · rw [e]; exact (key y hy).1
 · rw [e]; exact (key y hy).2
end
end Go.Proofs.YticeaiiffeccmaaGreat

