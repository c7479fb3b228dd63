/- Parts of a proof. No conditions. -/

import Derived.Test.YtnenmkiabclncaaGreatG25
import Derived.Test.YtnenmkiabclncaaGreatG15
import Derived.Test.YtnenmkiabclncaaGreatG16
import Derived.Test.YtnenmkiabclncaaGreatG26
import Derived.Test.YtnenmkiabclncaaGreatG22
set_option linter.unusedSimpArgs false
set_option linter.unusedVariables false
namespace Go.Proofs.YtnenmkiabclncaaGreat
open Go
set_option maxRecDepth 100000
theorem cutAt_sub {α : Type} (l : List α) (a : Int) : (cutAt l a).Sublist l := by
  unfold cutAt; split
  · exact List.Sublist.refl _
  · have h := List.Sublist.append (List.Sublist.refl (l.take a.toNat)) (List.drop_sublist_drop_left l (Nat.le_succ a.toNat))
    rwa [List.take_append_drop] at h
section
variable {h : House} {i k : Nat} {p : Party} {c : Cabin}
theorem OffG.ent (o : OffG h i k p c) (h1 : p.st = 1) : entAt h.rules p h.now ∈ c.row := o.row.2 ⟨p, o.mem, o.cab, h1, rfl⟩
end
end Go.Proofs.YtnenmkiabclncaaGreat
namespace Go.Proofs.YtnenmkiabclncaaGreat
open Go
set_option maxRecDepth 100000
theorem HG.small {h : House} (hg : HG h) : smallHo h := by
  have hr := ruG hg.rules
  have h1 := hr.len
  have h2 := hg.few
  have h3 := hg.cabs
  have h4 := todo_few hg
  have h5 := hg.crew
  have h6 := hr.crew
  refine ⟨?_, ?_, ⟨?_, fun c hc => ?_⟩, ?_, ?_⟩
  · show _ ≤ 1048576; omega
  · show _ ≤ 1048576; omega
  · show _ ≤ 1048576; omega
  · obtain ⟨k, hk, rfl⟩ := List.getElem_of_mem hc
    have r := rowG hg (List.getElem?_eq_getElem hk)
    have a1 := r.cnt
    have a2 := r.room
    have a3 := hr.room
    have w := wG r.wheel
    refine ⟨by show _ ≤ 1048576; omega, by show _ ≤ 1048576; rw [w.len]; omega, fun y hy => ?_⟩
    have : y.length ≤ (h.cabins[k]).spoke.flatten.length := by
      have h2 : ∀ {w : List (List Pin)} {l : List Pin}, l ∈ w → l.length ≤ w.flatten.length := by
        intro w l hl
        induction w with
        | nil => cases hl
        | cons a w ih =>
          simp only [List.flatten_cons, List.length_append]
          rcases List.mem_cons.1 hl with rfl | hl
          · omega
          · have := ih hl; omega
      exact h2 hy
    have w2 : (h.cabins[k]).spoke.flatten.length ≤ 10 := w.few
    show _ ≤ 1048576; omega
  · show _ ≤ 1048576; omega
  · show _ ≤ 1048576; omega
structure ExpI (h : House) (k : Nat) (ds : List Int) (E : House) : Prop where
  hg : HG E
  rules : E.rules = h.rules
  now : E.now = h.now
  len : E.cabins.length = h.cabins.length
  todo : E.todo = h.todo
  jobs : E.jobs = h.jobs
  nd : ds.Pairwise fun a b => a ≠ b
  rem : ∀ d ∈ ds, ∃ p ∈ E.parties, p.id = d ∧ p.cab = (k : Int) ∧ p.st = 2
theorem ExpI.start {h : House} (hg : HG h) {k : Nat} {c : Cabin} (hk : h.cabins[k]? = some c) : ExpI h k (dueC c h.now) h := by
  have g := hg.cabR hk
  refine ⟨hg, rfl, rfl, rfl, rfl, rfl, ?_, fun d hd => ?_⟩
  · rw [dueC, pinsDue, List.pairwise_map]
    refine List.Pairwise.filter _ ?_
    rw [wheelPins, if_pos g.wheel]
    exact ((sortR_perm (lt := pinLt) (allP c.spoke)).pairwise_iff (R := fun a b => a.pid ≠ b.pid) (fun {a b} q e => q e.symm)).2 (wG g.wheel).ne
  · rw [dueC, pinsDue] at hd
    obtain ⟨q, hq, rfl⟩ := List.mem_map.1 hd
    have hq := (List.mem_filter.1 hq).1
    rw [g.pins, pins_mem] at hq
    obtain ⟨z, hz, hc, hs, rfl⟩ := hq
    exact ⟨z, hz, rfl, hc, hs⟩
theorem ExpI.at_ {h : House} {k : Nat} {d : Int} {ds : List Int} {E : House} (I : ExpI h k (d :: ds) E) (hk : k < h.cabins.length) : ∃ i c, OffG E i k (ptyOf E d) c ∧ (ptyOf E d).st = 2 ∧ (ptyOf E d).id = d ∧ pAt E.parties d = (i : Int) := by
  obtain ⟨p, hp, e1, e2, e3⟩ := I.rem d List.mem_cons_self
  obtain ⟨i, hi, e4, e5⟩ := pAt_of (ids_ne I.hg.parties) hp
  rw [e1] at e4
  have ep : ptyOf E d = p := by
    show (E.parties[(pAt E.parties d).toNat]?).getD default = p
    rw [e4, Int.toNat_natCast, List.getElem?_eq_getElem hi, e5]; rfl
  have hk' : k < E.cabins.length := by rw [I.len]; exact hk
  rw [ep]
  exact ⟨i, E.cabins[k], ⟨I.hg, by rw [List.getElem?_eq_getElem hi, e5], List.getElem?_eq_getElem hk', e2, (I.hg.parties.ok p hp).1, by rw [e1]; exact e4⟩, e3, e1, e4⟩
theorem ExpI.step {h : House} {k : Nat} {d : Int} {ds : List Int} {E : House} (I : ExpI h k (d :: ds) E) (hk : k < h.cabins.length) : ExpI h k ds (failS E (ptyOf E d)) := by
  obtain ⟨i, c, o, h2, hid, _⟩ := I.at_ hk
  obtain ⟨k1, k2, k3, k4, k5⟩ := o.keep
  obtain ⟨n1, n2⟩ := List.pairwise_cons.1 I.nd
  refine ⟨o.fails h2, k1.trans I.rules, k2.trans I.now, k3.trans I.len, k4.trans I.todo, k5.trans I.jobs, n2, fun x hx => ?_⟩
  obtain ⟨p, hp, e1, e2, e3⟩ := I.rem x (List.mem_cons_of_mem _ hx)
  exact ⟨p, o.stay hp (by rw [e1, hid]; exact fun e => n1 x hx e.symm), e1, e2, e3⟩
def rowN (E : House) (k : Int) : Nat := (cabOf E k).row.length
end Go.Proofs.YtnenmkiabclncaaGreat
namespace Go.Proofs.YtnenmkiabclncaaGreat
open Go
set_option maxRecDepth 100000
theorem smallSpk_cut {w : List (List Pin)} (h : smallSpk w) (p : Pin) : smallSpk (wCut w p) := by
  unfold wCut; split
  · refine ⟨by rw [List.length_set]; exact h.1, fun x hx => ?_⟩
    rcases List.mem_or_eq_of_mem_set hx with q | rfl
    · exact h.2 x q
    · refine Nat.le_trans (cutAt_sub _ _).length_le ?_
      unfold spOf
      rw [List.getD_eq_getElem?_getD]
      cases hq : w[spN p]? with
      | none => exact Nat.zero_le _
      | some l => exact h.2 l (List.mem_of_getElem? hq)
  · exact h
theorem smallHo_setC {h : House} (hs : smallHo h) {k : Int} {c : Cabin} (hc : smallCab c) : smallHo (setC h k c) :=
  ⟨hs.1, hs.2.1, smallCabs_setC hs.2.2.1 hc, hs.2.2.2.1, hs.2.2.2.2⟩
theorem smallHo_pty {h : House} (hs : smallHo h) {l : List Party} (hl : l.length ≤ bigN) : smallHo { h with parties := l } := ⟨hs.1, hl, hs.2.2.1, hs.2.2.2.1, hs.2.2.2.2⟩
theorem smallHo_todo {h : House} (hs : smallHo h) {l : List Int} (hl : l.length ≤ bigN) : smallHo { h with todo := l } := ⟨hs.1, hs.2.1, hs.2.2.1, hl, hs.2.2.2.2⟩
theorem smallCab_of {h : House} (hs : smallHo h) (k : Int) : smallCab (cabOf h k) := by
  unfold cabOf
  cases q : h.cabins[k.toNat]? with
  | none => exact ⟨Nat.zero_le _, Nat.zero_le _, fun y hy => by cases hy⟩
  | some c => exact hs.2.2.1.2 c (List.mem_of_getElem? q)
theorem partyCut_small {l : List Party} (h : l.length ≤ bigN) (id : Int) : (partyCut l id).length ≤ bigN := Nat.le_trans (cutAt_sub _ _).length_le h
theorem gone_small {h : House} (hs : smallHo h) (p : Party) : smallHo (goneTo h p) := by
  rw [goneTo, untieTo]
  have h1 : smallHo { h with parties := partyCut h.parties p.id } := smallHo_pty hs (partyCut_small hs.2.1 _)
  split
  · exact h1
  · exact smallHo_setC h1 ⟨(smallCab_of h1 _).1, (smallCab_of h1 _).2⟩
theorem gone_todo (h : House) (p : Party) : (goneTo h p).todo = h.todo := (untie_keep _ _).2.2.2.2.1
theorem drop_small {h : House} (hs : smallHo h) (p : Party) : smallHo (dropTo h p) :=
  smallHo_setC hs ⟨(smallCab_of hs _).1, smallSpk_cut (smallCab_of hs _).2 _⟩
theorem todoPut_few {l : List Int} {n : Nat} (h : l.length ≤ n) (hn : n + 1 ≤ 1048576) (k : Int) : (todoPut l k).length ≤ bigN := by
  have := todoPut_len l k
  show _ ≤ 1048576
  omega
theorem cancel_small {h : House} (hs : smallHo h) (id : Int) : smallHo (cancelOf h id) := by
  unfold cancelOf; split
  · rename_i hv
    obtain ⟨i, k, p, c, o, hid, ep⟩ := cancel_known hv
    rw [ep]
    have ht := todo_few o.hg
    refine gone_small ?_ p
    split
    · exact smallHo_todo (drop_small hs p) (todoPut_few ht (by decide) _)
    · exact smallHo_setC hs ⟨Nat.le_trans (cutAt_sub _ _).length_le (smallCab_of hs _).1, (smallCab_of hs _).2⟩
  · exact hs
theorem accept_small {h : House} (hs : smallHo h) (id : Int) : smallHo (acceptOf h id) := by
  unfold acceptOf; split
  · rename_i hv
    obtain ⟨i, k, p, c, o, hid, ep, _⟩ := answer_known (q := acceptQ id) (.inl rfl) hv
    have ep : ptyOf h id = p := ep
    rw [ep]
    have ht := todo_few o.hg
    have h1 : smallHo (sellTo h p) := smallHo_setC hs ⟨(smallCab_of hs _).1, smallSpk_cut (smallCab_of hs _).2 _⟩
    have h2 : smallHo (goneTo (sellTo h p) p) := gone_small h1 p
    have h3 : (goneTo (sellTo h p) p).todo.length ≤ 4 := by rw [gone_todo]; exact ht
    unfold acceptTo; split
    · exact h2
    · exact smallHo_todo (smallHo_setC h2 (k := p.frm) (c := { cabOf (goneTo (sellTo h p) p) p.frm with seats := seatsOf (cabOf (goneTo (sellTo h p) p) p.frm).seats p.siz 1 0 (-1) 0 }) (smallCab_of h2 p.frm)) (todoPut_few h3 (by decide) _)
  · exact hs
theorem decline_small {h : House} (hs : smallHo h) (id : Int) : smallHo (declineOf h id) := by
  unfold declineOf; split
  · rename_i hv
    obtain ⟨i, k, p, c, o, hid, ep, st⟩ := answer_known (q := declineQ id) (.inr rfl) hv
    have ep : ptyOf h id = p := ep
    rw [ep]
    have hg := o.fails st
    exact smallHo_todo hg.small (todoPut_few (todo_few hg) (by decide) _)
  · exact hs
theorem join_small {h : House} (hs : smallHo h) (id cab frm siz tier : Int) : smallHo (joinOf h id cab frm siz tier) := by
  unfold joinOf; split
  · rename_i hv
    obtain ⟨k, c, o⟩ := join_known hv
    generalize joinP h id cab frm siz tier = p at o
    have ht := todo_few o.hg
    have hp : (partyPut h.parties p).length ≤ bigN := by
      have h1 := o.hg.few
      have h2 := putAt_le h.parties p.id
      unfold partyPut
      split
      · rw [List.length_set]; exact hs.2.1
      · show _ ≤ 1048576
        rw [List.length_append, List.length_cons, List.length_take, List.length_drop]; omega
    have hr : (cabOf h p.cab).row.length ≤ 10 := by
      rw [o.cab']
      have r := rowG o.hg o.hk
      have := r.cnt
      have := r.room
      have := (ruG o.hg.rules).room
      omega
    have h1 : smallHo (joinIn h p) := ⟨hs.1, hp, hs.2.2.1, hs.2.2.2.1, hs.2.2.2.2⟩
    have h2 : smallHo (joinRow h p) := smallHo_setC h1 ⟨by
      show (insL entLt _ (cabOf h p.cab).row).length ≤ 1048576
      rw [insL_len]; omega, (smallCab_of hs p.cab).2⟩
    have h3 : smallHo (tieTo (joinRow h p) p) := by
      unfold tieTo; split
      · exact h2
      · exact smallHo_setC h2 ⟨(smallCab_of h2 _).1, (smallCab_of h2 _).2⟩
    exact smallHo_todo h3 (todoPut_few ht (by decide) _)
  · exact hs
end Go.Proofs.YtnenmkiabclncaaGreat

