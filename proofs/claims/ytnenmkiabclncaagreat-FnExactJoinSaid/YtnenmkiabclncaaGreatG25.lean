/- Parts of a proof. No conditions. -/

import Derived.Test.YtnenmkiabclncaaGreatG24
import Derived.Test.YtnenmkiabclncaaGreatG23
import Derived.Test.YtnenmkiabclncaaGreatG21
import Derived.Test.YtnenmkiabclncaaGreatG19
set_option linter.unusedSimpArgs false
set_option linter.unusedVariables false
namespace Go.Proofs.YtnenmkiabclncaaGreat
open Go
set_option maxRecDepth 100000
def offP (p : Party) : Pin := ⟨p.untl, p.id⟩
theorem swo_irr {α : Type} {lt : α → α → Bool} (h : SWO lt) (z : α) : lt z z = false := by
  cases q : lt z z with
  | false => rfl
  | true => have := h.as _ _ q; rw [q] at this; cases this
theorem strict_ext {α : Type} {lt : α → α → Bool} (h : SWO lt) : ∀ {a b : List α}, (a.Pairwise fun x y => lt x y = true) → (b.Pairwise fun x y => lt x y = true) → (∀ x, x ∈ a ↔ x ∈ b) → a = b
  | [], [], _, _, _ => rfl
  | [], y :: b, _, _, he => by have := (he y).2 List.mem_cons_self; cases this
  | x :: a, [], _, _, he => by have := (he x).1 List.mem_cons_self; cases this
  | x :: a, y :: b, ha, hb, he => by
    obtain ⟨a1, a2⟩ := List.pairwise_cons.1 ha
    obtain ⟨b1, b2⟩ := List.pairwise_cons.1 hb
    have e : x = y := by
      rcases List.mem_cons.1 ((he x).1 List.mem_cons_self) with q | q
      · exact q
      rcases List.mem_cons.1 ((he y).2 List.mem_cons_self) with r | r
      · exact r.symm
      have := h.as _ _ (b1 x q)
      rw [a1 y r] at this; cases this
    subst e
    congr 1
    refine strict_ext h a2 b2 fun z => ⟨fun hz => ?_, fun hz => ?_⟩
    · rcases List.mem_cons.1 ((he z).1 (List.mem_cons_of_mem _ hz)) with rfl | q
      · have := a1 z hz; rw [swo_irr h] at this; cases this
      · exact q
    · rcases List.mem_cons.1 ((he z).2 (List.mem_cons_of_mem _ hz)) with rfl | q
      · have := b1 z hz; rw [swo_irr h] at this; cases this
      · exact q
theorem insR_perm {α : Type} {lt : α → α → Bool} {x : α} : ∀ {s : List α}, (insR lt x s).Perm (x :: s)
  | [] => List.Perm.refl _
  | a :: s => by
    rw [insR]; split
    · exact List.Perm.refl _
    · exact ((insR_perm (s := s)).cons a).trans (List.Perm.swap x a s)
theorem sortR_perm {α : Type} {lt : α → α → Bool} (l : List α) : (sortR lt l).Perm l := by
  obtain ⟨n, hn⟩ : ∃ n, l.length = n := ⟨_, rfl⟩
  induction n generalizing l with
  | zero =>
    have : l = [] := List.length_eq_zero_iff.1 hn
    subst this; exact List.Perm.refl _
  | succ n ih =>
    rcases List.eq_nil_or_concat l with rfl | ⟨l', x, rfl⟩
    · exact List.Perm.refl _
    · rw [List.concat_eq_append, sortR_snoc]
      exact insR_perm.trans (((ih l' (by simpa using hn)).cons x).trans (List.perm_append_singleton x l').symm)
theorem sortR_strict {α : Type} {lt : α → α → Bool} (h : SWO lt) {l : List α} {R : α → α → Prop} (sym : ∀ a b, R a b → R b a) (tot : ∀ a b, lt b a = false → R a b → lt a b = true) (hl : l.Pairwise R) : (sortR lt l).Pairwise fun a b => lt a b = true := by
  have h1 := sortR_srt h l
  have h2 : (sortR lt l).Pairwise R := ((sortR_perm l).pairwise_iff (fun {a b} => sym a b)).2 hl
  exact (h1.and h2).imp fun {a b} q => tot a b q.1 q.2
theorem insL_strict {α : Type} {lt : α → α → Bool} (h : SWO lt) {e : α} : ∀ {l : List α}, (l.Pairwise fun a b => lt a b = true) → (∀ y ∈ l, lt y e = false → lt e y = true) → (insL lt e l).Pairwise fun a b => lt a b = true
  | [], _, _ => List.pairwise_singleton _ _
  | a :: s, hl, hn => by
    obtain ⟨l1, l2⟩ := List.pairwise_cons.1 hl
    rw [insL]
    split
    · rename_i hlt
      refine List.pairwise_cons.2 ⟨fun b hb => ?_, insL_strict h l2 fun y hy => hn y (List.mem_cons_of_mem _ hy)⟩
      rcases insL_mem.1 hb with rfl | hb
      · exact hlt
      · exact l1 b hb
    · rename_i hlt
      have hlt : lt e a = true := hn a List.mem_cons_self (by simpa using hlt)
      refine List.pairwise_cons.2 ⟨fun b hb => ?_, hl⟩
      rcases List.mem_cons.1 hb with rfl | hb
      · exact hlt
      · exact h.tr _ _ _ hlt (l1 b hb)
theorem ids_ne {R : Rules} {now turn : Int} {l : List Party} (h : PtyG R now turn l) : l.Pairwise fun a b => a.id ≠ b.id := h.srt.imp fun {a b : Party} q => Int.ne_of_lt q
theorem turns_ne {R : Rules} {now turn : Int} {l : List Party} (h : PtyG R now turn l) : l.Pairwise fun a b => a.turn ≠ b.turn := h.fair.imp fun {a b} q e => by simp [fairB, e] at q
theorem ents_pw {R : Rules} {now turn : Int} {l : List Party} (h : PtyG R now turn l) (k : Int) : (entsOf R k now l).Pairwise fun a b => a.turn ≠ b.turn ∧ a.eid ≠ b.eid := by
  rw [entsOf, List.pairwise_map, List.pairwise_filter]
  refine ((turns_ne h).and (ids_ne h)).imp fun {a b} q ha hb => ?_
  simp only [Bool.and_eq_true] at ha hb
  rw [entryOf, if_pos ha.1, entryOf, if_pos hb.1]; exact q
theorem queue_strict {R : Rules} {now turn : Int} {l : List Party} (h : PtyG R now turn l) (k : Int) : (queueOf R l k now).Pairwise fun a b => entLt a b = true :=
  sortR_strict entSWO (R := fun a b => a.turn ≠ b.turn ∧ a.eid ≠ b.eid) (fun a b q => ⟨fun e => q.1 e.symm, fun e => q.2 e.symm⟩) (fun a b q1 q2 => entLt_tot q1 (fun e => q2.1 e.symm)) (ents_pw h k)
theorem queue_mem {R : Rules} {now turn : Int} {l : List Party} (h : PtyG R now turn l) {k : Int} {y : Entry} : y ∈ queueOf R l k now ↔ ∃ z ∈ l, z.cab = k ∧ z.st = 1 ∧ y = entAt R z now := by
  rw [queueOf, sortR_mem, entsOf, List.mem_map]
  constructor
  · rintro ⟨z, hz, rfl⟩
    obtain ⟨z1, z2⟩ := List.mem_filter.1 hz
    simp only [Bool.and_eq_true, beq_iff_eq] at z2
    have z3 := z2.1
    simp only [entOkB, Bool.and_eq_true, beq_iff_eq] at z3
    exact ⟨z, z1, z2.2, z3.2, by rw [entryOf, if_pos z2.1]⟩
  · rintro ⟨z, hz, hc, hs, rfl⟩
    have e : entOkB R z now = true := by rw [entOkB, (h.ok z hz).1, hs]; rfl
    exact ⟨z, List.mem_filter.2 ⟨hz, by rw [e, hc]; simp⟩, by rw [entryOf, if_pos e]⟩
theorem queue_pre {R : Rules} {now turn : Int} {l : List Party} (h : PtyG R now turn l) (k : Int) : QPre (queueOf R l k now) := by
  refine ⟨fun e he => ?_, queue_strict h k, ?_⟩
  · obtain ⟨z, hz, hc, hs, rfl⟩ := (queue_mem h).1 he
    have ok := (h.ok z hz).1
    have := entOk_of ok hs
    rwa [entOf_yes ok hs] at this
  · have := ((sortR_perm (lt := entLt) (entsOf R k now l)).pairwise_iff (R := fun a b => a.turn ≠ b.turn ∧ a.eid ≠ b.eid) (fun {a b} q => ⟨fun e => q.1 e.symm, fun e => q.2 e.symm⟩)).2 (ents_pw h k)
    exact this.imp fun {a b} q => q.2
theorem pins_mem {l : List Party} {k : Int} {y : Pin} : y ∈ pinsIn l k ↔ ∃ z ∈ l, z.cab = k ∧ z.st = 2 ∧ y = offP z := by
  rw [pinsIn, sortR_mem, pinsOfP, List.mem_map]
  constructor
  · rintro ⟨z, hz, rfl⟩
    obtain ⟨z1, z2⟩ := List.mem_filter.1 hz
    simp only [Bool.and_eq_true, beq_iff_eq] at z2
    exact ⟨z, z1, z2.2, z2.1, rfl⟩
  · rintro ⟨z, hz, hc, hs, rfl⟩
    exact ⟨z, List.mem_filter.2 ⟨hz, by rw [hs, hc]; simp⟩, rfl⟩
theorem pinLt_tot {a b : Pin} (h : pinLt b a = false) (ht : a.pid ≠ b.pid) : pinLt a b = true := by
  simp only [pinLt, Bool.or_eq_false_iff, Bool.and_eq_false_iff, decide_eq_false_iff_not, beq_eq_false_iff_ne] at h
  simp only [pinLt, Bool.or_eq_true, Bool.and_eq_true, decide_eq_true_eq, beq_iff_eq]
  omega
theorem pins_strict {R : Rules} {now turn : Int} {l : List Party} (h : PtyG R now turn l) (k : Int) : (pinsIn l k).Pairwise fun a b => pinLt a b = true := by
  refine sortR_strict pinSWO (R := fun a b => a.pid ≠ b.pid) (fun a b q e => q e.symm) (fun a b q1 q2 => pinLt_tot q1 q2) ?_
  rw [pinsOfP, List.pairwise_map, List.pairwise_filter]
  exact (ids_ne h).imp fun {a b} q _ _ => q
theorem wpins_mem {w : List (List Pin)} (h : wheelOkB w = true) {q : Pin} : q ∈ wheelPins w ↔ q ∈ allP w := by rw [wheelPins, if_pos h, sortR_mem]
theorem wpins_strict {w : List (List Pin)} (h : wheelOkB w = true) : (wheelPins w).Pairwise fun a b => pinLt a b = true := by
  rw [wheelPins, if_pos h]
  exact sortR_strict pinSWO (R := fun a b => a.pid ≠ b.pid) (fun a b q e => q e.symm) (fun a b q1 q2 => pinLt_tot q1 q2) (wG h).ne
theorem allP_set {w : List (List Pin)} {k : Nat} (hk : k < w.length) (x : List Pin) : allP (w.set k x) = (w.take k).flatten ++ (x ++ (w.drop (k + 1)).flatten) := by
  rw [allP, List.set_eq_take_append_cons_drop, if_pos hk, List.flatten_append, List.flatten_cons]
theorem allP_at {w : List (List Pin)} {k : Nat} (hk : k < w.length) : allP w = (w.take k).flatten ++ (w[k] ++ (w.drop (k + 1)).flatten) := by
  have := allP_set hk w[k]
  rwa [List.set_getElem_self hk] at this
theorem pin_spoke {w : List (List Pin)} (h : wheelOkB w = true) {p : Pin} (hp : p ∈ allP w) : ∃ hk : spN p < w.length, p ∈ w[spN p] := by
  obtain ⟨l, hl, hpl⟩ := List.mem_flatten.1 hp
  obtain ⟨k, hk, rfl⟩ := List.getElem_of_mem hl
  have e := (wG h).at_ k _ (List.getElem?_eq_getElem hk) p hpl
  have e2 : spN p = k := by rw [spN, e]; rfl
  subst e2
  exact ⟨hk, hpl⟩
theorem spOf_get {w : List (List Pin)} {p : Pin} (hk : spN p < w.length) : spOf w p = w[spN p] := by
  show w.getD (spN p) [] = _
  rw [List.getD_eq_getElem?_getD, List.getElem?_eq_getElem hk]; rfl
theorem wCut_ok {w : List (List Pin)} (h : wheelOkB w = true) {p : Pin} (hp : p ∈ allP w) : wheelOkB (wCut w p) = true ∧ ∀ q, q ∈ allP (wCut w p) ↔ q ∈ allP w ∧ q ≠ p := by
  obtain ⟨hk, hm⟩ := pin_spoke h hp
  have g := wG h
  have h1 : 1 ≤ p.tm := tm_of (g.ok p hp)
  rcases atOf_cases (fun q : Pin => decide (q = p)) (spOf w p) with ⟨_, e⟩ | ⟨i, hi, e, e1, _⟩
  · have := e p (by rw [spOf_get hk]; exact hm)
    simp at this
  have e : pinIx (spOf w p) p = (i : Int) := e
  have eb : wCutB w p = true := by rw [wCutB_of h h1]; exact decide_eq_true (by omega)
  have e1 : (spOf w p)[i] = p := of_decide_eq_true e1
  rw [← wCut_at e eb]
  have hs : spOf w p = (spOf w p).take i ++ p :: (spOf w p).drop (i + 1) := by
    have := List.getElem_cons_drop hi
    rw [e1] at this
    rw [this, List.take_append_drop]
  have pm : (allP w).Perm (p :: allP (w.set (spN p) ((spOf w p).take i ++ (spOf w p).drop (i + 1)))) := by
    rw [allP_set hk, allP_at hk, ← spOf_get hk]
    conv => lhs; rw [hs]
    generalize (spOf w p).take i = a
    generalize (spOf w p).drop (i + 1) = b
    generalize (w.take (spN p)).flatten = c
    generalize (w.drop (spN p + 1)).flatten = d
    have e : c ++ (a ++ p :: b ++ d) = (c ++ a) ++ p :: (b ++ d) := by simp
    have e2 : c ++ (a ++ b ++ d) = (c ++ a) ++ (b ++ d) := by simp
    rw [e, e2]
    exact List.perm_middle
  have ne : (p :: allP (w.set (spN p) ((spOf w p).take i ++ (spOf w p).drop (i + 1)))).Pairwise fun a b => a.pid ≠ b.pid := (pm.pairwise_iff (fun {a b} q e => q e.symm)).1 g.ne
  obtain ⟨n1, n2⟩ := List.pairwise_cons.1 ne
  have sub : ((spOf w p).take i ++ (spOf w p).drop (i + 1)).Sublist (spOf w p) := by
    have h := List.Sublist.append (List.Sublist.refl ((spOf w p).take i)) (List.drop_sublist_drop_left (spOf w p) (Nat.le_succ i))
    rwa [List.take_append_drop] at h
  refine ⟨wG_iff.2 ⟨by rw [List.length_set]; exact g.len, ?_, fun q hq => g.ok q ((pm.mem_iff).2 (List.mem_cons_of_mem _ hq)), n2, fun j l hl q hq => ?_, fun l hl => ?_⟩, fun q => ?_⟩
  · have := pm.length_eq
    have := g.few
    rw [List.length_cons] at *; omega
  · rw [List.getElem?_set] at hl
    split at hl
    · rename_i ej
      cases hl
      subst ej
      refine g.at_ (spN p) (spOf w p) (by rw [spOf_get hk]; exact List.getElem?_eq_getElem hk) q (sub.subset hq)
    · exact g.at_ j l hl q hq
  · rcases List.mem_or_eq_of_mem_set hl with q | rfl
    · exact g.srt l q
    · exact (g.srt _ (by rw [spOf_get hk]; exact List.getElem_mem hk)).sublist sub
  · rw [pm.mem_iff, List.mem_cons]
    constructor
    · intro hq
      exact ⟨.inr hq, fun e => n1 q hq (by rw [e])⟩
    · rintro ⟨rfl | hq, hn⟩
      · exact (hn rfl).elim
      · exact hq
theorem take_drop_at {α : Type} {l : List α} {i : Nat} (hi : i < l.length) : l = l.take i ++ l[i] :: l.drop (i + 1) := by
  rw [List.getElem_cons_drop hi, List.take_append_drop]
theorem mem_cut_iff {l : List Party} (hd : l.Pairwise fun a b => a.id ≠ b.id) {i : Nat} (hi : i < l.length) {z : Party} : z ∈ l.take i ++ l.drop (i + 1) ↔ z ∈ l ∧ z.id ≠ l[i].id := by
  have pm : l.Perm (l[i] :: (l.take i ++ l.drop (i + 1))) := by
    conv => lhs; rw [take_drop_at hi]
    exact List.perm_middle
  obtain ⟨n1, _⟩ := List.pairwise_cons.1 ((pm.pairwise_iff (fun {a b} q e => q e.symm)).1 hd)
  rw [pm.mem_iff, List.mem_cons]
  constructor
  · intro hz
    exact ⟨.inr hz, fun e => n1 z hz e.symm⟩
  · rintro ⟨rfl | hz, hn⟩
    · exact (hn rfl).elim
    · exact hz
theorem mem_set_iff {l : List Party} (hd : l.Pairwise fun a b => a.id ≠ b.id) {i : Nat} (hi : i < l.length) {q z : Party} : z ∈ l.set i q ↔ z = q ∨ (z ∈ l ∧ z.id ≠ l[i].id) := by
  rw [← mem_cut_iff hd hi, List.set_eq_take_append_cons_drop, if_pos hi, List.mem_append, List.mem_append, List.mem_cons]
  constructor
  · rintro (h | h | h)
    · exact .inr (.inl h)
    · exact .inl h
    · exact .inr (.inr h)
  · rintro (h | h | h)
    · exact .inr (.inl h)
    · exact .inl h
    · exact .inr (.inr h)
theorem zs_cut {α : Type} (f : α → Nat) {l : List α} {i : Nat} (hi : i < l.length) : zAll f (l.take i ++ l.drop (i + 1)) + f l[i] = zAll f l := by
  conv => rhs; rw [take_drop_at hi]
  rw [zAll_app, zAll_app]
  show _ = _ + (f l[i] + zAll f (l.drop (i + 1)))
  omega
theorem zs_set {α : Type} (f : α → Nat) {l : List α} {i : Nat} (hi : i < l.length) (q : α) : zAll f (l.set i q) + f l[i] = zAll f l + f q := by
  rw [← zs_cut f hi, List.set_eq_take_append_cons_drop, if_pos hi, zAll_app, zAll_app]
  show zAll f (l.take i) + (f q + zAll f (l.drop (i + 1))) + _ = _
  omega
theorem pairwise_set {α : Type} {R : α → α → Prop} {l : List α} (h : l.Pairwise R) {i : Nat} (hi : i < l.length) {q : α} (h1 : ∀ x, R x l[i] → R x q) (h2 : ∀ x, R l[i] x → R q x) : (l.set i q).Pairwise R := by
  rw [List.set_eq_take_append_cons_drop, if_pos hi]
  rw [take_drop_at hi, List.pairwise_append, List.pairwise_cons] at h
  obtain ⟨a1, ⟨a2, a3⟩, a4⟩ := h
  rw [List.pairwise_append, List.pairwise_cons]
  refine ⟨a1, ⟨fun b hb => h2 b (a2 b hb), a3⟩, fun a ha b hb => ?_⟩
  rcases List.mem_cons.1 hb with rfl | hb
  · exact h1 a (a4 a ha _ List.mem_cons_self)
  · exact a4 a ha b (List.mem_cons_of_mem _ hb)
theorem PtyG.cut {R : Rules} {now turn : Int} {l : List Party} (h : PtyG R now turn l) (i : Nat) : PtyG R now turn (l.take i ++ l.drop (i + 1)) := by
  have sub : (l.take i ++ l.drop (i + 1)).Sublist l := by
    have h := List.Sublist.append (List.Sublist.refl (l.take i)) (List.drop_sublist_drop_left l (Nat.le_succ i))
    rwa [List.take_append_drop] at h
  exact ⟨fun p hp => h.ok p (sub.subset hp), h.srt.sublist sub, h.fair.sublist sub⟩
theorem PtyG.set {R : Rules} {now turn : Int} {l : List Party} (h : PtyG R now turn l) {i : Nat} (hi : i < l.length) {q : Party} (ok : partyOkB R q now = true) (e1 : q.id = l[i].id) (e2 : q.turn = l[i].turn) (e3 : q.since = l[i].since) : PtyG R now turn (l.set i q) := by
  refine ⟨fun p hp => ?_, pairwise_set h.srt hi (fun x hx => by rw [e1]; exact hx) (fun x hx => by rw [e1]; exact hx), pairwise_set h.fair hi (fun x hx => ?_) (fun x hx => ?_)⟩
  · rcases List.mem_or_eq_of_mem_set hp with hp | rfl
    · exact h.ok p hp
    · exact ⟨ok, by rw [e2]; exact (h.ok _ (List.getElem_mem hi)).2⟩
  · simp only [fairB, e2, e3] at hx ⊢; exact hx
  · simp only [fairB, e2, e3] at hx ⊢; exact hx
theorem queue_ext {R : Rules} {now turn : Int} {l : List Party} (h : PtyG R now turn l) {k : Int} {row : List Entry} (hs : row.Pairwise fun a b => entLt a b = true) (hm : ∀ y, y ∈ row ↔ ∃ z ∈ l, z.cab = k ∧ z.st = 1 ∧ y = entAt R z now) : row = queueOf R l k now :=
  strict_ext entSWO hs (queue_strict h k) fun y => by rw [hm, queue_mem h]
theorem pins_ext {R : Rules} {now turn : Int} {l : List Party} (h : PtyG R now turn l) {k : Int} {w : List (List Pin)} (hw : wheelOkB w = true) (hm : ∀ y, y ∈ allP w ↔ ∃ z ∈ l, z.cab = k ∧ z.st = 2 ∧ y = offP z) : wheelPins w = pinsIn l k :=
  strict_ext pinSWO (wpins_strict hw) (pins_strict h k) fun y => by rw [wpins_mem hw, hm, pins_mem]
end Go.Proofs.YtnenmkiabclncaaGreat
namespace Go.Proofs.YtnenmkiabclncaaGreat
open Go
set_option maxRecDepth 100000
def dropC (c : Cabin) (p : Party) : Cabin := { c with seats := seatsOf c.seats p.siz 1 (-1) 0 0, spoke := wCut c.spoke (offP p) }
def setC (h : House) (k : Int) (c : Cabin) : House := { h with cabins := h.cabins.set k.toNat c }
def dropTo (h : House) (p : Party) : House := setC h p.cab (dropC (cabOf h p.cab) p)
def untieC (c : Cabin) (n : Int) : Cabin := { c with seats := seatsOf c.seats n 0 0 0 (-1) }
def untieTo (h : House) (p : Party) : House := if p.frm = -1 then h else setC h p.frm (untieC (cabOf h p.frm) p.siz)
def goneTo (h : House) (p : Party) : House := untieTo { h with parties := partyCut h.parties p.id } p
def rowC (c : Cabin) (e : Entry) : Cabin := { c with row := insL entLt e c.row }
def rowTo (h : House) (p : Party) : House := setC h p.cab (rowC (cabOf h p.cab) (entryOf h.rules p h.now))
def failRow (h : House) (p : Party) : House := rowTo { dropTo h p with parties := partyPut h.parties (failTo h.rules p h.now) } (failTo h.rules p h.now)
def failS (h : House) (p : Party) : House := if failOkB h.rules p h.now = true then failRow h p else goneTo (dropTo h p) p
theorem setC_len (h : House) (k : Int) (c : Cabin) : (setC h k c).cabins.length = h.cabins.length := List.length_set
structure FrmOk (h : House) (p : Party) (f : Nat) : Prop where
  eq : p.frm = (f : Int)
  lt : f < h.cabins.length
theorem FrmOk.of {h h' : House} {p : Party} (hl : h'.cabins.length = h.cabins.length) (hf : p.frm = -1 ∨ ∃ f, FrmOk h p f) : p.frm = -1 ∨ ∃ f, FrmOk h' p f :=
  hf.elim .inl fun ⟨f, q⟩ => .inr ⟨f, q.eq, by rw [hl]; exact q.lt⟩
theorem cabOf_get {h : House} {k : Nat} {c : Cabin} (hk : h.cabins[k]? = some c) : cabOf h (k : Int) = c := by
  show (h.cabins[((k : Int)).toNat]?).getD default = c
  rw [Int.toNat_natCast, hk]; rfl
theorem cabOf_same {h : House} {k : Nat} {c : Cabin} (hk : k < h.cabins.length) : cabOf (setC h (k : Int) c) (k : Int) = c := by
  show ((h.cabins.set ((k : Int)).toNat c)[((k : Int)).toNat]?).getD default = c
  rw [Int.toNat_natCast, List.getElem?_set]; simp [hk]
theorem cabOf_ne {h : House} {k f : Nat} {c : Cabin} (hne : f ≠ k) : cabOf (setC h (f : Int) c) (k : Int) = cabOf h (k : Int) := by
  show ((h.cabins.set ((f : Int)).toNat c)[((k : Int)).toNat]?).getD default = (h.cabins[((k : Int)).toNat]?).getD default
  rw [Int.toNat_natCast, Int.toNat_natCast, List.getElem?_set, if_neg hne]
theorem fail_ok {R : Rules} {p : Party} {now : Int} (h : failOkB R p now = true) : partyOkB R (failTo R p now) now = true := by
  simp only [failOkB, Bool.and_eq_true, decide_eq_true_eq] at h
  obtain ⟨h1, h2, h3⟩ := h
  have ha := asked_in h1
  have hg := parG h1
  have hr := ruG hg.rules
  have q1 := hr.rest
  have q2 := hg.nowR
  have h4 := h1
  simp only [partyOkB, Bool.and_eq_true] at h4 ⊢
  obtain ⟨a1, a2, a3, a4, a5, a6, a7, a8, a9, a10, a11, a12⟩ := h4
  refine ⟨a1, a2, a3, a4, a5, a6, a7, a8, a9, a10, ?_, ?_⟩
  · show isIn (p.asked + 1) 0 (R.tries - 1) = true
    simp only [isIn, Bool.and_eq_true, decide_eq_true_eq]
    omega
  · show ((1 : Int) == 1 && isIn (now + R.rest) 0 (now + R.rest) || _) = true
    rw [Bool.or_eq_true]
    left
    simp only [isIn, Bool.and_eq_true, decide_eq_true_eq]
    exact ⟨rfl, by omega, by omega⟩
theorem put_set {l : List Party} {q : Party} {i : Nat} (h : pAt l q.id = (i : Int)) : partyPut l q = l.set i q := by
  rw [partyPut, if_pos (by omega), h, Int.toNat_natCast]
theorem cut_at {l : List Party} {id : Int} {i : Nat} (h : pAt l id = (i : Int)) : partyCut l id = l.take i ++ l.drop (i + 1) := by
  rw [partyCut, cutAt, h, if_neg (by omega), Int.toNat_natCast]
theorem pAt_of {l : List Party} (hd : l.Pairwise fun a b => a.id ≠ b.id) {p : Party} (hp : p ∈ l) : ∃ i, ∃ h : i < l.length, pAt l p.id = (i : Int) ∧ l[i] = p := by
  rcases atOf_cases (fun q : Party => q.id == p.id) l with ⟨_, e⟩ | ⟨i, hi, e, e1, _⟩
  · have := e p hp
    simp at this
  · refine ⟨i, hi, e, ?_⟩
    obtain ⟨j, hj, rfl⟩ := List.getElem_of_mem hp
    have hw := List.pairwise_iff_getElem.1 hd
    have e1 : l[i].id = l[j].id := by simpa using e1
    rcases Nat.lt_trichotomy i j with q | rfl | q
    · exact (hw i j hi hj q e1).elim
    · rfl
    · exact (hw j i hj hi q e1.symm).elim
theorem smallCabs_setC {h : House} (hs : smallCabs h.cabins) {k : Int} {c : Cabin} (hc : smallCab c) : smallCabs (setC h k c).cabins := by
  refine ⟨by rw [setC_len]; exact hs.1, fun x hx => ?_⟩
  rcases List.mem_or_eq_of_mem_set hx with q | q
  · exact hs.2 x q
  · exact q ▸ hc
structure OffG (h : House) (i k : Nat) (p : Party) (c : Cabin) : Prop where
  hg : HG h
  hi : h.parties[i]? = some p
  hk : h.cabins[k]? = some c
  cab : p.cab = (k : Int)
  ok : partyOkB h.rules p h.now = true
  at_ : pAt h.parties p.id = (i : Int)
theorem Known.offG {h : House} {id : Int} {i k : Nat} (kn : Known h id i k) (hg : HG h) : OffG h i k (h.parties[i]'kn.lt) (h.cabins[k]'kn.clt) :=
  ⟨hg, List.getElem?_eq_getElem kn.lt, List.getElem?_eq_getElem kn.clt, kn.cab, kn.ok, by rw [kn.id]; exact kn.at_⟩
section
variable {h : House} {i k : Nat} {p : Party} {c : Cabin}
theorem OffG.lt (o : OffG h i k p c) : ∃ hi : i < h.parties.length, h.parties[i] = p := by
  have hi := lt_of_get o.hi
  have := o.hi
  rw [List.getElem?_eq_getElem hi] at this
  exact ⟨hi, by simpa using this⟩
theorem OffG.mem (o : OffG h i k p c) : p ∈ h.parties := List.mem_of_getElem? o.hi
theorem OffG.siz (o : OffG h i k p c) : 1 ≤ p.siz ∧ p.siz ≤ 6 := by
  have h1 := (parG o.ok).siz
  have h2 := (ruG o.hg.rules).size
  omega
theorem OffG.one (o : OffG h i k p c) {z : Party} (hz : z ∈ h.parties) (hn : z ≠ p) : z.id ≠ p.id := (pty_one o.hg.parties hz o.mem hn).1
theorem OffG.cab' (o : OffG h i k p c) : cabOf h p.cab = c := by rw [o.cab]; exact cabOf_get o.hk
theorem OffG.cabin (o : OffG h i k p c) : 0 ≤ p.cab ∧ p.cab < (h.cabins.length : Int) := by
  have := lt_of_get o.hk
  have := o.cab
  omega
theorem OffG.frm (o : OffG h i k p c) : p.frm = -1 ∨ ∃ f, FrmOk h p f := by
  have h1 := (parH o.ok).frm
  have h2 := o.hg.cabs
  by_cases q : p.frm = -1
  · exact .inl q
  · exact .inr ⟨p.frm.toNat, by omega, by omega⟩
end
end Go.Proofs.YtnenmkiabclncaaGreat
namespace Go.Proofs.YtnenmkiabclncaaGreat
open Go
set_option maxRecDepth 100000
structure CabR (R : Rules) (now : Int) (l : List Party) (j : Nat) (c : Cabin) : Prop where
  total : c.seats.total = R.seats.getD j 0
  room : ((zAll (cntIn (j : Int)) l : Nat) : Int) ≤ R.room
  led : ledOkB c.seats = true
  row : c.row = queueOf R l (j : Int) now
  wheel : wheelOkB c.spoke = true
  pins : wheelPins c.spoke = pinsIn l (j : Int)
  held : c.seats.held = ((zAll (heldZ (j : Int)) l : Nat) : Int)
  tied : c.seats.tied = ((zAll (tiedZ (j : Int)) l : Nat) : Int)
theorem HG.cabR {h : House} (hg : HG h) {j : Nat} {c : Cabin} (hj : h.cabins[j]? = some c) : CabR h.rules h.now h.parties j c := by
  have r := rowG hg hj
  exact ⟨r.total, r.room, r.led, r.row, r.wheel, r.pins, r.held, r.tied⟩
theorem CabR.at_ {h : House} {turn : Int} (hr : rulesOkB h.rules = true) (hp : PtyG h.rules h.now turn h.parties) {j : Nat} {c : Cabin} (g : CabR h.rules h.now h.parties j c) : cabAtB h j c = true := by
  have h1 := (ruG hr).room
  have h2 := g.room
  have h3 : (queueOf h.rules h.parties (j : Int) h.now).length ≤ 10 := by
    rw [queueOf, sortR_len]
    exact ents_few (by omega)
  have h4 : queueOkB c.row = true := by rw [g.row]; exact queueOk_yes h3 (queue_pre hp _)
  simp only [cabAtB, agreesB, cabinOkB, Bool.and_eq_true, decide_eq_true_eq, beq_iff_eq]
  exact ⟨g.total, g.room, ⟨g.led, h4, g.wheel⟩, g.row, g.pins, g.held, g.tied⟩
theorem HG.next {h E : House} (hg : HG h) (e1 : E.rules = h.rules) (e2 : E.now = h.now) (e3 : E.turn = h.turn) (e4 : E.parties.length ≤ 40) (e5 : E.cabins.length = h.cabins.length) (e6 : E.todo = h.todo) (e7 : E.jobs = h.jobs)
    (hp : PtyG h.rules h.now h.turn E.parties) (hc : ∀ (j : Nat) c, E.cabins[j]? = some c → CabR h.rules h.now E.parties j c) : HG E := by
  refine ⟨by rw [e1]; exact hg.rules, by rw [e2]; exact hg.now, by rw [e3]; exact hg.turn, e4, by rw [e5, e1]; exact hg.cabs, by rw [e1, e2, e3]; exact hp, by rw [e5, e6, e7]; exact hg.jobs, by rw [e7, e1]; exact hg.crew, fun j c hj => ?_⟩
  have hp' : PtyG E.rules E.now E.turn E.parties := by rw [e1, e2, e3]; exact hp
  exact CabR.at_ (by rw [e1]; exact hg.rules) hp' (by rw [e1, e2]; exact hc j c hj)
theorem CabR.other {R : Rules} {now turn : Int} {l l' : List Party} {j : Nat} {c c' : Cabin} (g : CabR R now l j c) (hp : PtyG R now turn l) (hp' : PtyG R now turn l') (er : c'.row = c.row) (es : c'.spoke = c.spoke) (et : c'.seats.total = c.seats.total) (el : ledOkB c'.seats = true)
    (hm : ∀ z, z.cab = (j : Int) → (z ∈ l' ↔ z ∈ l)) (z1 : zAll (cntIn (j : Int)) l' ≤ zAll (cntIn (j : Int)) l) (z2 : c'.seats.held = ((zAll (heldZ (j : Int)) l' : Nat) : Int)) (z3 : c'.seats.tied = ((zAll (tiedZ (j : Int)) l' : Nat) : Int)) : CabR R now l' j c' := by
  refine ⟨et.trans g.total, by have := g.room; omega, el, ?_, by rw [es]; exact g.wheel, ?_, z2, z3⟩
  · rw [er]
    refine queue_ext hp' (by rw [g.row]; exact queue_strict hp _) fun y => ?_
    rw [g.row, queue_mem hp]
    exact ⟨fun ⟨z, a, b, d⟩ => ⟨z, (hm z b).2 a, b, d⟩, fun ⟨z, a, b, d⟩ => ⟨z, (hm z b).1 a, b, d⟩⟩
  · rw [es, g.pins]
    refine strict_ext pinSWO (pins_strict hp _) (pins_strict hp' _) fun y => ?_
    rw [pins_mem, pins_mem]
    exact ⟨fun ⟨z, a, b, d⟩ => ⟨z, (hm z b).2 a, b, d⟩, fun ⟨z, a, b, d⟩ => ⟨z, (hm z b).1 a, b, d⟩⟩
theorem heldZ_no {k : Int} {p : Party} (h : p.st ≠ 2 ∨ p.cab ≠ k) : heldZ k p = 0 := by
  rw [heldZ, if_neg]
  simp only [heldB, Bool.and_eq_true, beq_iff_eq]
  rintro ⟨a, b, _⟩
  rcases h with h | h
  · exact h a
  · exact h b
theorem heldZ_yes {k : Int} {p : Party} (h1 : p.st = 2) (h2 : p.cab = k) (h3 : 1 ≤ p.siz ∧ p.siz ≤ 6) : heldZ k p = p.siz.toNat := by
  rw [heldZ, if_pos]
  simp only [heldB, Bool.and_eq_true, beq_iff_eq, isIn, decide_eq_true_eq]
  exact ⟨h1, h2, h3⟩
theorem tiedZ_no {k : Int} {p : Party} (h : p.frm ≠ k) : tiedZ k p = 0 := by
  rw [tiedZ, if_neg]
  simp only [tiedB, Bool.and_eq_true, beq_iff_eq]
  exact fun q => h q.1
theorem tiedZ_yes {k : Int} {p : Party} (h2 : p.frm = k) (h3 : 1 ≤ p.siz ∧ p.siz ≤ 6) : tiedZ k p = p.siz.toNat := by
  rw [tiedZ, if_pos]
  simp only [tiedB, Bool.and_eq_true, beq_iff_eq, isIn, decide_eq_true_eq]
  exact ⟨h2, h3⟩
structure LedG' (x : Ledger) : Prop where
  total : 1 ≤ x.total ∧ x.total ≤ 60
  free : 0 ≤ x.free ∧ x.free ≤ x.total
  held : 0 ≤ x.held ∧ x.held ≤ x.total
  sold : 0 ≤ x.sold ∧ x.sold ≤ x.total
  sum : x.free + x.held + x.sold = x.total
  tied : 0 ≤ x.tied ∧ x.tied ≤ x.sold
theorem ledG_iff {x : Ledger} : ledOkB x = true ↔ LedG' x := by
  simp only [ledOkB, Bool.and_eq_true, isIn, decide_eq_true_eq]
  exact ⟨fun ⟨a, b, c, d, e, f⟩ => ⟨a, b, c, d, e, f⟩, fun ⟨a, b, c, d, e, f⟩ => ⟨a, b, c, d, e, f⟩⟩
theorem led_drop {x : Ledger} (h : ledOkB x = true) {n : Int} (hn : 0 ≤ n ∧ n ≤ 60) (hh : n ≤ x.held) : seatsOf x n 1 (-1) 0 0 = ⟨x.total, x.free + n, x.held - n, x.sold, x.tied⟩ ∧ ledOkB (seatsOf x n 1 (-1) 0 0) = true := by
  obtain ⟨a, b, c, d, e, f⟩ := ledG_iff.1 h
  have h2 : ledOkB ⟨x.total, x.free + n, x.held - n, x.sold, x.tied⟩ = true := ledG_iff.2 ⟨a, by constructor <;> simp only <;> omega, by constructor <;> simp only <;> omega, d, by simp only; omega, f⟩
  have e1 : seatsB x n 1 (-1) 0 0 = true := by
    rw [seatsB, mv_Drop, h, h2]; simp [isIn, hn.1, hn.2]
  rw [seatsOf, if_pos e1, mv_Drop]
  exact ⟨rfl, h2⟩
theorem led_untie {x : Ledger} (h : ledOkB x = true) {n : Int} (hn : 0 ≤ n ∧ n ≤ 60) (hh : n ≤ x.tied) : seatsOf x n 0 0 0 (-1) = ⟨x.total, x.free, x.held, x.sold, x.tied - n⟩ ∧ ledOkB (seatsOf x n 0 0 0 (-1)) = true := by
  obtain ⟨a, b, c, d, e, f⟩ := ledG_iff.1 h
  have h2 : ledOkB ⟨x.total, x.free, x.held, x.sold, x.tied - n⟩ = true := ledG_iff.2 ⟨a, b, c, d, e, by constructor <;> simp only <;> omega⟩
  have e1 : seatsB x n 0 0 0 (-1) = true := by
    rw [seatsB, mv_Untie, h, h2]; simp [isIn, hn.1, hn.2]
  rw [seatsOf, if_pos e1, mv_Untie]
  exact ⟨rfl, h2⟩
section
variable {h : House} {i k : Nat} {p : Party} {c : Cabin}
theorem OffG.pin (o : OffG h i k p c) (h2 : p.st = 2) : offP p ∈ allP c.spoke := by
  have g := o.hg.cabR o.hk
  rw [← wpins_mem g.wheel, g.pins, pins_mem]
  exact ⟨p, o.mem, o.cab, h2, rfl⟩
theorem OffG.held (o : OffG h i k p c) (h2 : p.st = 2) : p.siz ≤ c.seats.held := by
  obtain ⟨hi, e⟩ := o.lt
  have g := o.hg.cabR o.hk
  have := zs_cut (heldZ (k : Int)) hi
  rw [e, heldZ_yes h2 o.cab o.siz] at this
  have h3 := g.held
  have h4 := o.siz
  omega
theorem OffG.drop (o : OffG h i k p c) (h2 : p.st = 2) : (dropC c p).seats = ⟨c.seats.total, c.seats.free + p.siz, c.seats.held - p.siz, c.seats.sold, c.seats.tied⟩ ∧ ledOkB (dropC c p).seats = true ∧ wheelOkB (dropC c p).spoke = true ∧ ∀ q, q ∈ allP (dropC c p).spoke ↔ q ∈ allP c.spoke ∧ q ≠ offP p := by
  have g := o.hg.cabR o.hk
  have h4 := o.siz
  have a := led_drop g.led (n := p.siz) (by omega) (o.held h2)
  have b := wCut_ok g.wheel (o.pin h2)
  exact ⟨a.1, a.2, b.1, b.2⟩
theorem OffG.pins (o : OffG h i k p c) {y : Pin} : y ∈ allP c.spoke ↔ ∃ z ∈ h.parties, z.cab = (k : Int) ∧ z.st = 2 ∧ y = offP z := by
  have g := o.hg.cabR o.hk
  rw [← wpins_mem g.wheel, g.pins, pins_mem]
theorem OffG.row (o : OffG h i k p c) {y : Entry} : y ∈ c.row ↔ ∃ z ∈ h.parties, z.cab = (k : Int) ∧ z.st = 1 ∧ y = entAt h.rules z h.now := by
  have g := o.hg.cabR o.hk
  rw [g.row, queue_mem o.hg.parties]
theorem failRow_eq (o : OffG h i k p c) : failRow h p = { h with parties := h.parties.set i (failTo h.rules p h.now), cabins := h.cabins.set k (rowC (dropC c p) (entryOf h.rules (failTo h.rules p h.now) h.now)) } := by
  have hk := lt_of_get o.hk
  have e1 : partyPut h.parties (failTo h.rules p h.now) = h.parties.set i (failTo h.rules p h.now) := put_set o.at_
  have e2 : dropTo h p = setC h (k : Int) (dropC c p) := by rw [dropTo, o.cab', o.cab]
  rw [failRow, e1, e2]
  show setC { setC h (k : Int) (dropC c p) with parties := _ } p.cab (rowC (cabOf (setC h (k : Int) (dropC c p)) p.cab) _) = _
  rw [o.cab, cabOf_same hk]
  show ({ h with parties := _, cabins := (h.cabins.set ((k : Int)).toNat _).set ((k : Int)).toNat _ } : House) = _
  rw [List.set_set, Int.toNat_natCast]
  rfl
theorem OffG.failRow (o : OffG h i k p c) (h2 : p.st = 2) (hf : failOkB h.rules p h.now = true) : HG (failRow h p) := by
  obtain ⟨hi, ei⟩ := o.lt
  have hk := lt_of_get o.hk
  have ok := fail_ok hf
  have g := o.hg.cabR o.hk
  have hd := ids_ne o.hg.parties
  have dr := o.drop h2
  have sz := o.siz
  generalize hq : failTo h.rules p h.now = q at ok
  have q1 : q.id = p.id := by rw [← hq]; rfl
  have q2 : q.turn = p.turn := by rw [← hq]; rfl
  have q3 : q.since = p.since := by rw [← hq]; rfl
  have q4 : q.cab = (k : Int) := by rw [← hq]; exact o.cab
  have q5 : q.st = 1 := by rw [← hq]; rfl
  have q6 : q.frm = p.frm := by rw [← hq]; rfl
  have q7 : q.siz = p.siz := by rw [← hq]; rfl
  have hp' : PtyG h.rules h.now h.turn (h.parties.set i q) := o.hg.parties.set hi ok (by rw [ei, q1]) (by rw [ei, q2]) (by rw [ei, q3])
  have hm : ∀ z, z ∈ h.parties.set i q ↔ z = q ∨ (z ∈ h.parties ∧ z.id ≠ p.id) := fun z => by rw [mem_set_iff hd hi, ei]
  have ee : entryOf h.rules q h.now = entAt h.rules q h.now := entOf_yes ok q5
  rw [failRow_eq o, hq, ee]
  refine o.hg.next rfl rfl rfl ?_ ?_ rfl rfl hp' fun j c1 hj => ?_
  · show (h.parties.set i q).length ≤ 40
    rw [List.length_set]; exact o.hg.few
  · show (h.cabins.set k _).length = _
    rw [List.length_set]
  show CabR h.rules h.now (h.parties.set i q) j c1
  have hj : (h.cabins.set k (rowC (dropC c p) (entAt h.rules q h.now)))[j]? = some c1 := hj
  rw [List.getElem?_set] at hj
  have s1 := zs_set (cntIn (j : Int)) hi q
  have s2 := zs_set (heldZ (j : Int)) hi q
  have s3 := zs_set (tiedZ (j : Int)) hi q
  have c1' : cntIn (j : Int) q = cntIn (j : Int) h.parties[i] := by rw [ei, cntIn, cntIn, q4, o.cab]
  have c3' : tiedZ (j : Int) q = tiedZ (j : Int) h.parties[i] := by rw [ei, tiedZ, tiedZ, tiedB, tiedB, q6, q7]
  by_cases ej : k = j
  · subst ej
    rw [if_pos rfl, if_pos hk] at hj
    cases hj
    rw [ei, heldZ_yes h2 o.cab sz, heldZ_no (.inl (by rw [q5]; decide))] at s2
    have hh := o.held h2
    refine ⟨?_, ?_, dr.2.1, ?_, dr.2.2.1, ?_, ?_, ?_⟩
    · show (dropC c p).seats.total = _
      rw [dr.1]; exact g.total
    · have := g.room; omega
    · refine queue_ext hp' (insL_strict entSWO (by show (c.row).Pairwise _; rw [g.row]; exact queue_strict o.hg.parties _) fun y hy hl => entLt_tot hl fun e => ?_) fun y => ?_
      · obtain ⟨z, hz, hc, hs, rfl⟩ := o.row.1 hy
        have hn : z ≠ p := fun e => by rw [e, h2] at hs; cases hs
        have := (pty_one o.hg.parties hz o.mem hn).2
        exact this (by rw [← q2]; exact e)
      · show y ∈ insL entLt (entAt h.rules q h.now) c.row ↔ _
        rw [insL_mem, o.row]
        constructor
        · rintro (rfl | ⟨z, hz, hc, hs, rfl⟩)
          · exact ⟨q, (hm q).2 (.inl rfl), q4, q5, rfl⟩
          · have hn : z ≠ p := fun e => by rw [e, h2] at hs; cases hs
            exact ⟨z, (hm z).2 (.inr ⟨hz, o.one hz hn⟩), hc, hs, rfl⟩
        · rintro ⟨z, hz, hc, hs, rfl⟩
          rcases (hm z).1 hz with rfl | ⟨hz, _⟩
          · exact .inl rfl
          · exact .inr ⟨z, hz, hc, hs, rfl⟩
    · refine pins_ext hp' dr.2.2.1 fun y => ?_
      rw [show (rowC (dropC c p) (entAt h.rules q h.now)).spoke = (dropC c p).spoke from rfl, dr.2.2.2, o.pins]
      constructor
      · rintro ⟨⟨z, hz, hc, hs, rfl⟩, hn⟩
        have hn : z ≠ p := fun e => hn (by rw [e])
        exact ⟨z, (hm z).2 (.inr ⟨hz, o.one hz hn⟩), hc, hs, rfl⟩
      · rintro ⟨z, hz, hc, hs, rfl⟩
        rcases (hm z).1 hz with rfl | ⟨hz, hn⟩
        · rw [q5] at hs; cases hs
        · exact ⟨⟨z, hz, hc, hs, rfl⟩, fun e => hn (congrArg Pin.pid e)⟩
    · show (dropC c p).seats.held = _
      rw [dr.1]
      show c.seats.held - p.siz = _
      have := g.held
      omega
    · show (dropC c p).seats.tied = _
      rw [dr.1]
      show c.seats.tied = _
      have := g.tied
      omega
  · rw [if_neg ej] at hj
    have gj := o.hg.cabR hj
    have hne : ((k : Int)) ≠ (j : Int) := by omega
    rw [ei, heldZ_no (.inr (by rw [o.cab]; exact hne)), heldZ_no (.inr (by rw [q4]; exact hne))] at s2
    refine gj.other o.hg.parties hp' rfl rfl rfl gj.led (fun z hz => ?_) (by omega) (by have := gj.held; omega) (by have := gj.tied; omega)
    rw [hm]
    constructor
    · rintro (rfl | h)
      · exact (hne (q4.symm.trans hz)).elim
      · exact h.1
    · intro h
      exact .inr ⟨h, o.one h fun e => hne (by rw [← o.cab, ← e]; exact hz)⟩
theorem gone_get (o : OffG h i k p c) {j : Nat} {c1 : Cabin} (hj : (goneTo (dropTo h p) p).cabins[j]? = some c1) :
    ∃ c0, h.cabins[j]? = some c0 ∧ ((j = k ∧ c0 = c ∧ c1 = dropC c p) ∨ (j ≠ k ∧ p.frm = (j : Int) ∧ c1 = untieC c0 p.siz) ∨ (j ≠ k ∧ p.frm ≠ (j : Int) ∧ c1 = c0)) := by
  have hk := lt_of_get o.hk
  have e2 : dropTo h p = setC h (k : Int) (dropC c p) := by rw [dropTo, o.cab', o.cab]
  have pn := parH o.ok
  have hne : p.frm ≠ (k : Int) := by rw [← o.cab]; exact pn.ne
  have base : ∀ {c1}, (h.cabins.set k (dropC c p))[j]? = some c1 → ∃ c0, h.cabins[j]? = some c0 ∧ ((j = k ∧ c0 = c ∧ c1 = dropC c p) ∨ (j ≠ k ∧ c1 = c0)) := fun {c1} hj => by
    rw [List.getElem?_set] at hj
    by_cases ej : k = j
    · subst ej
      rw [if_pos rfl, if_pos hk] at hj
      cases hj
      exact ⟨c, o.hk, .inl ⟨rfl, rfl, rfl⟩⟩
    · rw [if_neg ej] at hj
      exact ⟨c1, hj, .inr ⟨fun e => ej e.symm, rfl⟩⟩
  rw [goneTo, untieTo, e2] at hj
  by_cases hf : p.frm = -1
  · rw [if_pos hf] at hj
    have hj : (h.cabins.set ((k : Int)).toNat (dropC c p))[j]? = some c1 := hj
    rw [Int.toNat_natCast] at hj
    obtain ⟨c0, h1, h2⟩ := base hj
    refine ⟨c0, h1, ?_⟩
    rcases h2 with h2 | ⟨h2, h3⟩
    · exact .inl h2
    · exact .inr (.inr ⟨h2, by omega, h3⟩)
  · rw [if_neg hf] at hj
    have fr := pn.frm
    obtain ⟨f, ef⟩ : ∃ f : Nat, p.frm = (f : Int) := ⟨p.frm.toNat, by omega⟩
    rw [ef] at hj hne
    have hne : k ≠ f := fun e => hne (by rw [e])
    have hj : ((h.cabins.set ((k : Int)).toNat (dropC c p)).set ((f : Int)).toNat (untieC (cabOf (setC h (k : Int) (dropC c p)) (f : Int)) p.siz))[j]? = some c1 := hj
    rw [Int.toNat_natCast, Int.toNat_natCast, cabOf_ne hne, List.getElem?_set] at hj
    by_cases ej : f = j
    · subst ej
      rw [if_pos rfl] at hj
      split at hj
      · rename_i hl
        rw [List.length_set] at hl
        cases hj
        refine ⟨h.cabins[f], List.getElem?_eq_getElem hl, .inr (.inl ⟨fun e => hne e.symm, ef, ?_⟩)⟩
        rw [cabOf_get (List.getElem?_eq_getElem hl)]
      · cases hj
    · rw [if_neg ej] at hj
      obtain ⟨c0, h1, h2⟩ := base hj
      refine ⟨c0, h1, ?_⟩
      rcases h2 with h2 | ⟨h2, h3⟩
      · exact .inl h2
      · exact .inr (.inr ⟨h2, by omega, h3⟩)
theorem untie_len (h : House) (p : Party) : (untieTo h p).cabins.length = h.cabins.length := by
  unfold untieTo; split
  · rfl
  · exact setC_len _ _ _
theorem untie_keep (h : House) (p : Party) : (untieTo h p).rules = h.rules ∧ (untieTo h p).now = h.now ∧ (untieTo h p).turn = h.turn ∧ (untieTo h p).parties = h.parties ∧ (untieTo h p).todo = h.todo ∧ (untieTo h p).jobs = h.jobs := by
  unfold untieTo; split
  · exact ⟨rfl, rfl, rfl, rfl, rfl, rfl⟩
  · exact ⟨rfl, rfl, rfl, rfl, rfl, rfl⟩
theorem OffG.gone (o : OffG h i k p c) (h2 : p.st = 2) : HG (goneTo (dropTo h p) p) := by
  obtain ⟨hi, ei⟩ := o.lt
  have hk := lt_of_get o.hk
  have g := o.hg.cabR o.hk
  have hd := ids_ne o.hg.parties
  have dr := o.drop h2
  have sz := o.siz
  have pn := parH o.ok
  have ep : (goneTo (dropTo h p) p).parties = h.parties.take i ++ h.parties.drop (i + 1) := by
    refine (untie_keep _ _).2.2.2.1.trans ?_
    exact cut_at o.at_
  have hp' : PtyG h.rules h.now h.turn (h.parties.take i ++ h.parties.drop (i + 1)) := o.hg.parties.cut i
  have hm : ∀ z, z ∈ h.parties.take i ++ h.parties.drop (i + 1) ↔ z ∈ h.parties ∧ z.id ≠ p.id := fun z => by rw [mem_cut_iff hd hi, ei]
  refine o.hg.next (untie_keep _ _).1 (untie_keep _ _).2.1 (untie_keep _ _).2.2.1 ?_ ?_ (untie_keep _ _).2.2.2.2.1 (untie_keep _ _).2.2.2.2.2 (by rw [ep]; exact hp') fun j c1 hj => ?_
  · rw [ep, List.length_append, List.length_take, List.length_drop]
    have := o.hg.few; omega
  · exact (untie_len _ _).trans (setC_len _ _ _)
  rw [ep]
  obtain ⟨c0, hc0, h5⟩ := gone_get o hj
  have gj := o.hg.cabR hc0
  have s1 := zs_cut (cntIn (j : Int)) hi
  have s2 := zs_cut (heldZ (j : Int)) hi
  have s3 := zs_cut (tiedZ (j : Int)) hi
  rcases h5 with ⟨rfl, rfl, rfl⟩ | ⟨hjk, hf, rfl⟩ | ⟨hjk, hf, rfl⟩
  · rw [ei, heldZ_yes h2 o.cab sz] at s2
    rw [ei, tiedZ_no (by rw [← o.cab]; exact pn.ne)] at s3
    have hh := o.held h2
    refine ⟨?_, ?_, dr.2.1, ?_, dr.2.2.1, ?_, ?_, ?_⟩
    · rw [dr.1]; exact g.total
    · have := g.room; omega
    · show c0.row = _
      refine queue_ext hp' (by rw [g.row]; exact queue_strict o.hg.parties _) fun y => ?_
      rw [o.row]
      constructor
      · rintro ⟨z, hz, hc, hs, rfl⟩
        have hn : z ≠ p := fun e => by rw [e, h2] at hs; cases hs
        exact ⟨z, (hm z).2 ⟨hz, o.one hz hn⟩, hc, hs, rfl⟩
      · rintro ⟨z, hz, hc, hs, rfl⟩
        exact ⟨z, ((hm z).1 hz).1, hc, hs, rfl⟩
    · refine pins_ext hp' dr.2.2.1 fun y => ?_
      rw [dr.2.2.2, o.pins]
      constructor
      · rintro ⟨⟨z, hz, hc, hs, rfl⟩, hn⟩
        have hn : z ≠ p := fun e => hn (by rw [e])
        exact ⟨z, (hm z).2 ⟨hz, o.one hz hn⟩, hc, hs, rfl⟩
      · rintro ⟨z, hz, hc, hs, rfl⟩
        have := (hm z).1 hz
        exact ⟨⟨z, this.1, hc, hs, rfl⟩, fun e => this.2 (congrArg Pin.pid e)⟩
    · rw [dr.1]
      show c0.seats.held - p.siz = _
      have := g.held
      omega
    · rw [dr.1]
      show c0.seats.tied = _
      have := g.tied
      omega
  · have hne : (k : Int) ≠ (j : Int) := by omega
    rw [ei, heldZ_no (.inr (by rw [o.cab]; exact hne))] at s2
    rw [ei, tiedZ_yes hf sz] at s3
    have t1 := gj.tied
    have t2 := led_untie gj.led (n := p.siz) (by omega) (by omega)
    refine gj.other o.hg.parties hp' rfl rfl (by show (seatsOf c0.seats p.siz 0 0 0 (-1)).total = _; rw [t2.1]) t2.2 (fun z hz => ?_) (by omega) ?_ ?_
    · rw [hm]
      exact ⟨fun h => h.1, fun h => ⟨h, o.one h fun e => hne (by rw [← o.cab, ← e]; exact hz)⟩⟩
    · show (seatsOf c0.seats p.siz 0 0 0 (-1)).held = _
      rw [t2.1]
      have := gj.held
      show c0.seats.held = _
      omega
    · show (seatsOf c0.seats p.siz 0 0 0 (-1)).tied = _
      rw [t2.1]
      show c0.seats.tied - p.siz = _
      omega
  · have hne : (k : Int) ≠ (j : Int) := by omega
    rw [ei, heldZ_no (.inr (by rw [o.cab]; exact hne))] at s2
    rw [ei, tiedZ_no hf] at s3
    refine gj.other o.hg.parties hp' rfl rfl rfl gj.led (fun z hz => ?_) (by omega) (by have := gj.held; omega) (by have := gj.tied; omega)
    rw [hm]
    exact ⟨fun h => h.1, fun h => ⟨h, o.one h fun e => hne (by rw [← o.cab, ← e]; exact hz)⟩⟩
theorem OffG.fails (o : OffG h i k p c) (h2 : p.st = 2) : HG (failS h p) := by
  unfold failS; split
  · rename_i hf; exact o.failRow h2 hf
  · exact o.gone h2
theorem OffG.stay (o : OffG h i k p c) {z : Party} (hz : z ∈ h.parties) (hn : z.id ≠ p.id) : z ∈ (failS h p).parties := by
  obtain ⟨hi, ei⟩ := o.lt
  have hd := ids_ne o.hg.parties
  unfold failS; split
  · rw [failRow_eq o]
    exact (mem_set_iff hd hi).2 (.inr ⟨hz, by rw [ei]; exact hn⟩)
  · rw [show (goneTo (dropTo h p) p).parties = h.parties.take i ++ h.parties.drop (i + 1) from (untie_keep _ _).2.2.2.1.trans (cut_at o.at_)]
    exact (mem_cut_iff hd hi).2 ⟨hz, by rw [ei]; exact hn⟩
theorem OffG.keep (o : OffG h i k p c) : (failS h p).rules = h.rules ∧ (failS h p).now = h.now ∧ (failS h p).cabins.length = h.cabins.length ∧ (failS h p).todo = h.todo ∧ (failS h p).jobs = h.jobs := by
  unfold failS; split
  · rw [failRow_eq o]
    exact ⟨rfl, rfl, List.length_set, rfl, rfl⟩
  · exact ⟨(untie_keep _ _).1, (untie_keep _ _).2.1, (untie_len _ _).trans (setC_len _ _ _), (untie_keep _ _).2.2.2.2.1, (untie_keep _ _).2.2.2.2.2⟩
theorem OffG.qput (o : OffG h i k p c) (h2 : p.st = 2) (hf : failOkB h.rules p h.now = true) : qPut c.row (entryOf h.rules (failTo h.rules p h.now) h.now) = insL entLt (entryOf h.rules (failTo h.rules p h.now) h.now) c.row := by
  have r := rowG o.hg o.hk
  have ok := fail_ok hf
  have e := entOf_yes ok (rfl : (failTo h.rules p h.now).st = 1)
  have hm : offP p ∈ pinsIn h.parties (k : Int) := pins_mem.2 ⟨p, o.mem, o.cab, h2, rfl⟩
  have hl : 1 ≤ (pinsOfP (k : Int) h.parties).length := by
    rw [pinsIn, sortR_mem] at hm
    exact List.length_pos_of_mem hm
  have h3 := r.cnt
  have h4 := r.room
  have h5 := (ruG o.hg.rules).room
  have key : ∀ y ∈ c.row, y.eid ≠ p.id ∧ y.turn ≠ p.turn := fun y hy => by
    obtain ⟨z, hz, hc, hs, rfl⟩ := o.row.1 hy
    have hn : z ≠ p := fun e => by rw [e, h2] at hs; cases hs
    exact pty_one o.hg.parties hz o.mem hn
  refine qPut_ins r.pre (by omega) (entOk_of ok rfl) (fun y hy => ?_) (fun y hy => ?_)
  · rw [e]; exact (key y hy).1
  · rw [e]; exact (key y hy).2
end
end Go.Proofs.YtnenmkiabclncaaGreat

