/- Parts of a proof. No conditions. -/

import Derived.Test.YtnenmkiabclncaaGreatG25
import Derived.Test.YtnenmkiabclncaaGreatG22
set_option linter.unusedSimpArgs false
set_option linter.unusedVariables false
namespace Go.Proofs.YtnenmkiabclncaaGreat
open Go
set_option maxRecDepth 100000
theorem cutK {K G : Prop} (f : K → G) (k : K) : G := f k
theorem setC_two {h : House} {k : Int} {c1 c2 : Cabin} : (setC h k c1).cabins.set k.toNat c2 = (setC h k c2).cabins := List.set_set ..
theorem cabOf_setC {h : House} {k : Int} {c : Cabin} (hk : 0 ≤ k ∧ k < (h.cabins.length : Int)) : cabOf (setC h k c) k = c := by
  show ((h.cabins.set k.toNat c)[k.toNat]?).getD default = c
  rw [List.getElem?_set, if_pos rfl, if_pos (by omega)]; rfl
theorem gone_yes {h : House} {p : Party} (q : p.frm ≠ -1) : goneTo h p = setC { h with parties := partyCut h.parties p.id } p.frm (untieC (cabOf h p.frm) p.siz) := if_neg q
theorem gone_no {h : House} {p : Party} (q : p.frm = -1) : goneTo h p = { h with parties := partyCut h.parties p.id } := if_pos q
def cancelQ (id : Int) : Req := ⟨2, id, 0, 0, 0, 0⟩
def qcutC (c : Cabin) (id : Int) : Cabin := { c with row := qCut c.row id }
def qcutTo (h : House) (p : Party) : House := setC h p.cab (qcutC (cabOf h p.cab) p.id)
def dropTodo (h : House) (p : Party) : House := { dropTo h p with todo := todoPut h.todo p.cab }
def cancelTo (h : House) (p : Party) : House := goneTo (if p.st = 2 then dropTodo h p else qcutTo h p) p
def cancelOf (h : House) (id : Int) : House := if verdictOf h (cancelQ id) = 0 then cancelTo h (ptyOf h id) else h
theorem cancel_known {h : House} {id : Int} (hv : verdictOf h (cancelQ id) = 0) : ∃ i k p c, OffG h i k p c ∧ p.id = id ∧ ptyOf h id = p := by
  obtain ⟨h0, h1, h2⟩ := vd_zero hv
  have hg := houseOk_iff.1 h0
  rw [vd_cancel h0 h2 rfl] at hv
  have hk : 0 ≤ pAt h.parties id := by
    have : ¬ pAt h.parties (cancelQ id).id < 0 := fun q => by rw [if_pos q] at hv; cases hv
    have e : (cancelQ id).id = id := rfl
    rw [e] at this
    omega
  obtain ⟨i, k, kn⟩ := known hg hk
  exact ⟨i, k, _, _, kn.offG hg, kn.id, kn.pty⟩
theorem answer_known {h : House} {q : Req} (k : q.kind = 4 ∨ q.kind = 5) (hv : verdictOf h q = 0) : ∃ i k p c, OffG h i k p c ∧ p.id = q.id ∧ ptyOf h q.id = p ∧ p.st = 2 := by
  obtain ⟨h0, h1, h2⟩ := vd_zero hv
  have hg := houseOk_iff.1 h0
  rw [vd_answer h0 h2 k, answerV] at hv
  have hk : 0 ≤ pAt h.parties q.id := by
    have : ¬ pAt h.parties q.id < 0 := fun q => by rw [if_pos q] at hv; cases hv
    omega
  rw [if_neg (by omega)] at hv
  have hs : (ptyOf h q.id).st = 2 := by
    by_cases e : (ptyOf h q.id).st = 2
    · exact e
    · rw [if_pos e] at hv; cases hv
  obtain ⟨i, k, kn⟩ := known hg hk
  exact ⟨i, k, _, _, kn.offG hg, kn.id, kn.pty, by rw [← kn.pty]; exact hs⟩
def acceptQ (id : Int) : Req := ⟨4, id, 0, 0, 0, 0⟩
def sellC (c : Cabin) (p : Party) : Cabin := { c with seats := seatsOf c.seats p.siz 0 (-1) 1 0, spoke := wCut c.spoke (offP p) }
def sellTo (h : House) (p : Party) : House := setC h p.cab (sellC (cabOf h p.cab) p)
def acceptTo (h : House) (p : Party) : House := if p.frm = -1 then goneTo (sellTo h p) p else freeTo (goneTo (sellTo h p) p) p.frm p.siz
def acceptOf (h : House) (id : Int) : House := if verdictOf h (acceptQ id) = 0 then acceptTo h (ptyOf h id) else h
def declineQ (id : Int) : Req := ⟨5, id, 0, 0, 0, 0⟩
def declineTo (h : House) (p : Party) : House := { failS h p with todo := todoPut (failS h p).todo p.cab }
def declineOf (h : House) (id : Int) : House := if verdictOf h (declineQ id) = 0 then declineTo h (ptyOf h id) else h
theorem frm_in {h : House} {p : Party} (hf : p.frm = -1 ∨ ∃ f, FrmOk h p f) (q : p.frm ≠ -1) : 0 ≤ p.frm ∧ p.frm < (h.cabins.length : Int) := by
  obtain ⟨f, e, l⟩ := hf.resolve_left q
  omega
theorem setC_in {h : House} {k j : Int} {c : Cabin} (q : 0 ≤ k ∧ k < (h.cabins.length : Int)) : 0 ≤ k ∧ k < ((setC h j c).cabins.length : Int) := by rw [setC_len]; exact q
end Go.Proofs.YtnenmkiabclncaaGreat
namespace Go.Proofs.YtnenmkiabclncaaGreat
open Go
set_option maxRecDepth 100000
def joinQ (id cab frm siz tier : Int) : Req := ⟨1, id, cab, frm, siz, tier⟩
def joinP (h : House) (id cab frm siz tier : Int) : Party := ⟨id, cab, frm, siz, tier, h.now, h.turn, 1, 0, 0⟩
def tieC (c : Cabin) (n : Int) : Cabin := { c with seats := seatsOf c.seats n 0 0 0 1 }
def tieTo (h : House) (p : Party) : House := if p.frm = -1 then h else setC h p.frm (tieC (cabOf h p.frm) p.siz)
def joinIn (h : House) (p : Party) : House := { h with turn := h.turn + 1, parties := partyPut h.parties p }
def joinRow (h : House) (p : Party) : House := rowTo (joinIn h p) p
def joinTo (h : House) (p : Party) : House := { tieTo (joinRow h p) p with todo := todoPut h.todo p.cab }
def joinOf (h : House) (id cab frm siz tier : Int) : House := if verdictOf h (joinQ id cab frm siz tier) = 0 then joinTo h (joinP h id cab frm siz tier) else h
structure JoinG (h : House) (p : Party) (k : Nat) (c : Cabin) : Prop where
  hg : HG h
  hk : h.cabins[k]? = some c
  cab : p.cab = (k : Int)
  ok : partyOkB h.rules p h.now = true
  new : pAt h.parties p.id < 0
  turn : p.turn = h.turn
  tmax : 1 ≤ h.turn ∧ h.turn ≤ 1000000
  st : p.st = 1
  room : cntOf h (k : Int) < h.rules.room
  loose : p.frm ≠ -1 → p.siz ≤ looseC (cabOf h p.frm)
theorem join_known {h : House} {id cab frm siz tier : Int} (hv : verdictOf h (joinQ id cab frm siz tier) = 0) : ∃ k c, JoinG h (joinP h id cab frm siz tier) k c := by
  obtain ⟨h0, h1, h2⟩ := vd_zero hv
  have hg := houseOk_iff.1 h0
  have jr := joinR h2 rfl
  rw [vd_join h0 h2 rfl, joinV] at hv
  have no : ∀ {P : Prop} [Decidable P] {a : Int} {b : Int}, a ≠ 0 → (if P then a else b) = 0 → ¬ P ∧ b = 0 := fun {P} _ {a} {b} ha q => by
    by_cases e : P
    · rw [if_pos e] at q; exact (ha q).elim
    · rw [if_neg e] at q; exact ⟨e, q⟩
  obtain ⟨a1, hv⟩ := no (by decide) hv
  obtain ⟨a2, hv⟩ := no (by decide) hv
  obtain ⟨a3, hv⟩ := no (by decide) hv
  obtain ⟨a4, hv⟩ := no (by decide) hv
  obtain ⟨a5, hv⟩ := no (by decide) hv
  obtain ⟨a6, hv⟩ := no (by decide) hv
  obtain ⟨a7, hv⟩ := no (by decide) hv
  obtain ⟨a8, hv⟩ := no (by decide) hv
  obtain ⟨a9, hv⟩ := no (by decide) hv
  obtain ⟨a10, _⟩ := no (by decide) hv
  have tt : ∀ {b : Bool}, ¬ b = false → b = true := fun {b} h => by cases b <;> simp_all
  have b1 : inHouse h cab = true := tt a1
  have b1 := isIn_ok b1
  have b2 : isIn frm (-1) ((h.cabins.length : Int) - 1) = true := tt a2
  have b2 := isIn_ok b2
  have b3 : frm ≠ cab := a3
  have b4 : isIn siz 1 h.rules.size = true := tt a4
  have b5 : ¬ tier ≥ h.rules.tiers := a5
  have b6 : isIn id 1 999 = true := tt a6
  have b7 : ¬ pAt h.parties id ≥ 0 := a7
  have b8 : ¬ cntOf h cab ≥ h.rules.room := a8
  have b9 : ¬ (frm ≠ -1 ∧ looseC (cabOf h frm) < siz) := a9
  have b10 : ¬ h.turn > 1000000 := a10
  have t0 : 0 ≤ tier := jr.tier.1
  have ht := isIn_ok hg.turn
  have hn := isIn_ok hg.now
  have hr := ruG hg.rules
  have q1 := hr.tries
  have q2 := hr.rest
  have hc := hg.cabs
  obtain ⟨k, rfl⟩ : ∃ k : Nat, cab = (k : Int) := ⟨cab.toNat, by omega⟩
  have hk : k < h.cabins.length := by omega
  refine ⟨k, h.cabins[k], hg, List.getElem?_eq_getElem hk, rfl, ?_, (by show pAt h.parties id < 0; omega), rfl, by omega, rfl, by omega, fun q => ?_⟩
  · show (rulesOkB h.rules && (isIn h.now 0 1000000 && (isIn id 1 999 && (isIn (k : Int) 0 (h.rules.seats.length - 1) && (isIn frm (-1) (h.rules.seats.length - 1) && (!(frm == (k : Int)) &&
      (isIn siz 1 h.rules.size && (isIn tier 0 (h.rules.tiers - 1) && (isIn h.now 0 h.now && (isIn h.turn 1 1000000 && (isIn 0 0 (h.rules.tries - 1) &&
      (((1 : Int) == 1 && isIn 0 0 (h.now + h.rules.rest)) || ((1 : Int) == 2 && isIn 0 1 (h.now + h.rules.window)))))))))))))) = true
    rw [hg.rules, hg.now, b6, b4]
    simp only [Bool.true_and, isIn, Bool.and_eq_true, decide_eq_true_eq, Bool.not_eq_true', beq_eq_false_iff_ne, Bool.or_eq_true]
    refine ⟨by omega, by omega, b3, by omega, by omega, by omega, by omega, .inl ⟨rfl, by omega, by omega⟩⟩
  · have q : frm ≠ -1 := q
    have : ¬ looseC (cabOf h frm) < siz := fun e => b9 ⟨q, e⟩
    show siz ≤ looseC (cabOf h frm)
    omega
section
variable {h : House} {p : Party} {k : Nat} {c : Cabin}
theorem JoinG.cabin (o : JoinG h p k c) : 0 ≤ p.cab ∧ p.cab < (h.cabins.length : Int) := by
  have := lt_of_get o.hk
  have := o.cab
  omega
theorem JoinG.frm (o : JoinG h p k c) : p.frm = -1 ∨ ∃ f, FrmOk h p f := by
  have h1 := (parH o.ok).frm
  have h2 := o.hg.cabs
  by_cases q : p.frm = -1
  · exact .inl q
  · exact .inr ⟨p.frm.toNat, by omega, by omega⟩
theorem JoinG.cab' (o : JoinG h p k c) : cabOf h p.cab = c := by rw [o.cab]; exact cabOf_get o.hk
theorem JoinG.none (o : JoinG h p k c) {z : Party} (hz : z ∈ h.parties) : z.id ≠ p.id ∧ z.turn ≠ p.turn := by
  refine ⟨fun e => ?_, fun e => ?_⟩
  · obtain ⟨i, hi, e1, _⟩ := pAt_of (ids_ne o.hg.parties) hz
    have := o.new
    rw [← e, e1] at this
    omega
  · have := (o.hg.parties.ok z hz).2
    rw [e, o.turn] at this
    omega
theorem JoinG.qput (o : JoinG h p k c) : qPut c.row (entryOf h.rules p h.now) = insL entLt (entryOf h.rules p h.now) c.row := by
  have r := rowG o.hg o.hk
  have e := entOf_yes o.ok o.st
  have h3 := r.cnt
  have h4 := o.room
  have h5 := (ruG o.hg.rules).room
  have h6 : cntOf h (k : Int) = ((zAll (cntIn (k : Int)) h.parties : Nat) : Int) := rfl
  refine qPut_ins r.pre (by omega) (entOk_of o.ok o.st) (fun y hy => ?_) (fun y hy => ?_)
  · obtain ⟨z, hz, _, _, e1, _⟩ := r.of y hy
    rw [e, e1]; exact (o.none hz).1
  · obtain ⟨z, hz, _, _, _, e1⟩ := r.of y hy
    rw [e, e1]; exact (o.none hz).2
end
end Go.Proofs.YtnenmkiabclncaaGreat

