/- Parts of a proof. No conditions. -/

import Derived.Test.YtnenmkiabclncaaGreatGKe
import Derived.Test.YtnenmkiabclncaaGreatG18
import Derived.Test.YtnenmkiabclncaaGreatG09
import Derived.Test.YtnenmkiabclncaaGreatG14
import Derived.Test.YtnenmkiabclncaaGreatG16
set_option linter.unusedSimpArgs false
set_option linter.unusedVariables false
namespace Go.Proofs.YtnenmkiabclncaaGreat
open Go
set_option maxRecDepth 100000
def qPutB (l : List Entry) (e : Entry) : Bool := queueOkB l && queueOkB (insL entLt e l)
def qPut (l : List Entry) (e : Entry) : List Entry := if qPutB l e = true then insL entLt e l else l
set_option maxHeartbeats 1000000 in
theorem implQueuePut_ok (l : List Entry) (e : Entry) (hl : l.length ≤ bigN) (x : List Entry) (hx : x = qPut l e) (b : Bool) (hb : b = qPutB l e) : Spec Tryz.prog 119 [lA .ent l, eA .ent e] (Ret (.tup [(false, [.own .ent fun _ => x]), (false, [.bool fun _ => b])])) := by
  have hn : l.length ≤ 1048576 := hl
  have fin : ∀ i, i ≤ l.length → (∀ (j : Nat) y, j < i → l[j]? = some y → entLt y e = true) → (∀ y, l[i]? = some y → entLt y e = false) → l.take i ++ e :: l.drop i = insL entLt e l := fun i _ h1 h2 => (insL_at h1 h2).symm
  refine spec_of tabOk Tryz.func119 rfl rfl (fr := true) (fun _ => by kernel_rfl) fun P hP hA => ?_
  cbv
  repeat (refine Pz.mk ?_; cbv)
  refine CallA.by hP (copyEntries_ok l hl) ?_
  cbv
  repeat (refine Pz.mk ?_; cbv)
  refine LoopE.by (X := Nat) (fun i => [(0, lA .ent l), (3, pN 0), (6, oN 1), (7, nT fun _ => i)]) (fun _ => [(0, .box ((cellsT .ent fun _ => e).map .lf)), (1, ownB' .ent fun _ => l)]) (fun i => i ≤ l.length ∧ ∀ (j : Nat) y, j < i → l[j]? = some y → entLt y e = true) (fun i _ => l.length - i) 0 ⟨Nat.zero_le _, fun j y hj => by omega⟩ ?_ ?_
  · cbv
    repeat (refine Pz.mk ?_; cbv)
    repeat' first | exact trivial | refine ⟨rfl, ?_⟩ | fail
  · intro i ⟨hi, hp⟩
    have rest : ∀ (hf : ∀ y, l[i]? = some y → entLt y e = false), l.take i ++ e :: l.drop i = insL entLt e l := fin i hi hp
    cbv
    repeat (refine Pz.mk ?_; cbv)
    refine Br.dec (fun h2 => ?_) (fun h2 => ?_) <;> (cbv; repeat (refine Pz.mk ?_; cbv))
    · have h2 : i < l.length := by simpa using h2
      refine ⟨l[i], by simp, get_cast l h2, ?_⟩
      cbv
      repeat (refine Pz.mk ?_; cbv)
      refine CallA.by hP (implEntryLess_ok l[i] e) ?_
      cbv
      repeat (refine Pz.mk ?_; cbv)
      refine Br.split (fun h3 => ?_) (fun h3 => ?_) <;> (cbv; repeat (refine Pz.mk ?_; cbv))
      · refine Ar.exact (by (try simp only [nc] at *); omega) (by (try simp only [nc] at *); omega) ?_
        cbv
        repeat (refine Pz.mk ?_; cbv)
        refine NextE.by (i + 1) ?_ ?_ ?_
        · show l.length - (i + 1) < l.length - i
          omega
        · exact ⟨h2, pre_step h2 hp h3⟩
        · cbv
          repeat (refine Pz.mk ?_; cbv)
          repeat' first | exact trivial | refine ⟨rfl, ?_⟩ | fail
      · have h3 : entLt l[i] e = false := h3
        have ee := rest fun y hy => by
          rw [List.getElem?_eq_getElem h2] at hy; cases hy; exact h3
        repeat' first
          | (refine CallA.by hP (copyEntries_ok l hl) ?_; cbv; repeat (refine Pz.mk ?_; cbv))
          | (refine CallM.by hP (insertEntry_ok l e i hi hl) ?_; cbv; repeat (refine Pz.mk ?_; cbv))
          | (refine CallA.by hP (implQueueOk_ok l (queueOkB l) rfl) ?_; cbv; repeat (refine Pz.mk ?_; cbv))
          | refine And.intro ?_ ?_
          | fail
        all_goals
          refine Br.split (fun h4 => ?_) (fun h4 => ?_) <;> (cbv; repeat (refine Pz.mk ?_; cbv))
          · have h4 : (!queueOkB l) = true := h4
            have h4 : queueOkB l = false := by simpa using h4
            have eb : qPutB l e = false := by rw [qPutB, h4]; rfl
            obtain rfl : l = x := (hx.trans (if_neg (by rw [eb]; simp))).symm
            obtain rfl : b = false := hb.trans eb
            repeat' first | exact trivial | refine ⟨rfl, ?_⟩ | fail
          have h4 : (!queueOkB l) = false := h4
          have h4 : queueOkB l = true := by simpa using h4
          refine CallA.by hP (implQueueOk_ok (l.take i ++ e :: l.drop i) (queueOkB (insL entLt e l)) (by rw [ee])) ?_
          cbv
          repeat (refine Pz.mk ?_; cbv)
          refine Br.split (fun h5 => ?_) (fun h5 => ?_) <;> (cbv; repeat (refine Pz.mk ?_; cbv))
          · have h5 : (!queueOkB (insL entLt e l)) = true := h5
            have h5 : queueOkB (insL entLt e l) = false := by simpa using h5
            have eb : qPutB l e = false := by rw [qPutB, h4, h5]; rfl
            obtain rfl : l = x := (hx.trans (if_neg (by rw [eb]; simp))).symm
            obtain rfl : b = false := hb.trans eb
            repeat' first | exact trivial | refine ⟨rfl, ?_⟩ | fail
          have h5 : (!queueOkB (insL entLt e l)) = false := h5
          have h5 : queueOkB (insL entLt e l) = true := by simpa using h5
          have eb : qPutB l e = true := by rw [qPutB, h4, h5]; rfl
          obtain rfl : b = true := hb.trans eb
          have ex : l.take i ++ e :: l.drop i = x := ee.trans (hx.trans (if_pos eb)).symm
          repeat' first | exact trivial | refine ⟨rfl, ?_⟩ | refine ⟨ex, ?_⟩ | fail
    · have h2 : l.length ≤ i := by simp at h2; omega
      have ee := rest fun y hy => by
        rw [List.getElem?_eq_none h2] at hy; cases hy
      repeat' first
        | (refine CallA.by hP (copyEntries_ok l hl) ?_; cbv; repeat (refine Pz.mk ?_; cbv))
        | (refine CallM.by hP (insertEntry_ok l e i hi hl) ?_; cbv; repeat (refine Pz.mk ?_; cbv))
        | (refine CallA.by hP (implQueueOk_ok l (queueOkB l) rfl) ?_; cbv; repeat (refine Pz.mk ?_; cbv))
        | refine And.intro ?_ ?_
        | fail
      all_goals
        refine Br.split (fun h4 => ?_) (fun h4 => ?_) <;> (cbv; repeat (refine Pz.mk ?_; cbv))
        · have h4 : (!queueOkB l) = true := h4
          have h4 : queueOkB l = false := by simpa using h4
          have eb : qPutB l e = false := by rw [qPutB, h4]; rfl
          obtain rfl : l = x := (hx.trans (if_neg (by rw [eb]; simp))).symm
          obtain rfl : b = false := hb.trans eb
          repeat' first | exact trivial | refine ⟨rfl, ?_⟩ | fail
        have h4 : (!queueOkB l) = false := h4
        have h4 : queueOkB l = true := by simpa using h4
        refine CallA.by hP (implQueueOk_ok (l.take i ++ e :: l.drop i) (queueOkB (insL entLt e l)) (by rw [ee])) ?_
        cbv
        repeat (refine Pz.mk ?_; cbv)
        refine Br.split (fun h5 => ?_) (fun h5 => ?_) <;> (cbv; repeat (refine Pz.mk ?_; cbv))
        · have h5 : (!queueOkB (insL entLt e l)) = true := h5
          have h5 : queueOkB (insL entLt e l) = false := by simpa using h5
          have eb : qPutB l e = false := by rw [qPutB, h4, h5]; rfl
          obtain rfl : l = x := (hx.trans (if_neg (by rw [eb]; simp))).symm
          obtain rfl : b = false := hb.trans eb
          repeat' first | exact trivial | refine ⟨rfl, ?_⟩ | fail
        have h5 : (!queueOkB (insL entLt e l)) = false := h5
        have h5 : queueOkB (insL entLt e l) = true := by simpa using h5
        have eb : qPutB l e = true := by rw [qPutB, h4, h5]; rfl
        obtain rfl : b = true := hb.trans eb
        have ex : l.take i ++ e :: l.drop i = x := ee.trans (hx.trans (if_pos eb)).symm
        repeat' first | exact trivial | refine ⟨rfl, ?_⟩ | refine ⟨ex, ?_⟩ | fail
end Go.Proofs.YtnenmkiabclncaaGreat
namespace Go.Proofs.YtnenmkiabclncaaGreat
open Go
set_option maxRecDepth 100000
def failOkB (R : Rules) (p : Party) (now : Int) : Bool := partyOkB R p now && (p.st == 2 && decide (p.asked + 1 < R.tries))
def failTo (R : Rules) (p : Party) (now : Int) : Party := { p with st := 1, untl := now + R.rest, asked := p.asked + 1 }
def failOf (R : Rules) (p : Party) (now : Int) : Party := if failOkB R p now = true then failTo R p now else default
def paS (x : Unit → Party) : List Sh := [.int .i64 fun _ => (x ()).id, .int .i64 fun _ => (x ()).cab, .int .i64 fun _ => (x ()).frm, .int .i64 fun _ => (x ()).siz, .int .i64 fun _ => (x ()).tier,
  .int .i64 fun _ => (x ()).since, .int .i64 fun _ => (x ()).turn, .int .i64 fun _ => (x ()).st, .int .i64 fun _ => (x ()).untl, .int .i64 fun _ => (x ()).asked]
theorem asked_in {R : Rules} {p : Party} {now : Int} (h : partyOkB R p now = true) : 0 ≤ p.asked ∧ p.asked ≤ R.tries - 1 := by
  simp only [partyOkB, Bool.and_eq_true] at h
  obtain ⟨_, _, _, _, _, _, _, _, _, _, h1, _⟩ := h
  exact isIn_ok h1
set_option maxHeartbeats 1000000 in
theorem specFailed_ok (R : Rules) (p : Party) (now : Int) (hs : R.seats.length ≤ bigN) (x : Party) (hx : x = failOf R p now) (b : Bool) (hb : b = failOkB R p now) :
    Spec Tryz.prog 194 [ruA R, eA .pty p, iA now] (Ret (.tup [(true, paS fun _ => x), (false, [.bool fun _ => b])])) := by
  have no : failOkB R p now = false → x = default ∧ b = false := fun e => ⟨hx.trans (if_neg (by rw [e]; simp)), hb.trans e⟩
  refine spec_of tabOk Tryz.func194 rfl rfl (fr := true) (fun _ => by kernel_rfl) fun P hP hA => ?_
  cbv
  repeat (refine Pz.mk ?_; cbv)
  refine CallA.by hP (specPartyOk_ok R p now hs (partyOkB R p now) rfl) ?_
  cbv
  repeat (refine Pz.mk ?_; cbv)
  refine Br.split (fun k0 => ?_) (fun k0 => ?_) <;> (cbv; repeat (refine Pz.mk ?_; cbv))
  · have k0 : (!partyOkB R p now) = true := k0
    have k0 : partyOkB R p now = false := by simpa using k0
    have e := no (by rw [failOkB, k0]; rfl)
    obtain rfl : x = default := e.1
    obtain rfl : b = false := e.2
    repeat' first | exact trivial | refine ⟨rfl, ?_⟩ | fail
  have k0 : (!partyOkB R p now) = false := k0
  have k0 : partyOkB R p now = true := by simpa using k0
  have ha := asked_in k0
  have hp := parG k0
  have hn := hp.nowR
  have hr := ruG hp.rules
  have ht := hr.tries
  have hre := hr.rest
  refine Br.split (fun k1 => ?_) (fun k1 => ?_) <;> (cbv; repeat (refine Pz.mk ?_; cbv))
  · have k1 : (p.st != 2) = true := k1
    have e := no (by
      have k1 : (p.st == 2) = false := by simpa using k1
      rw [failOkB, k0, k1]; rfl)
    obtain rfl : x = default := e.1
    obtain rfl : b = false := e.2
    repeat' first | exact trivial | refine ⟨rfl, ?_⟩ | fail
  have k1 : (p.st != 2) = false := k1
  have k1 : (p.st == 2) = true := by simpa using k1
  refine Ar.exact (by (try simp only [nc] at *); omega) (by (try simp only [nc] at *); omega) ?_
  cbv
  repeat (refine Pz.mk ?_; cbv)
  refine Br.dec (fun k2 => ?_) (fun k2 => ?_) <;> (cbv; repeat (refine Pz.mk ?_; cbv))
  · have k2 : p.asked + 1 ≥ R.tries := by have k2 : p.asked + 1 ≥ R.tries := k2; omega
    have e := no (by rw [failOkB, k0, k1, decide_eq_false (by omega)]; rfl)
    obtain rfl : x = default := e.1
    obtain rfl : b = false := e.2
    repeat' first | exact trivial | refine ⟨rfl, ?_⟩ | fail
  have k2 : p.asked + 1 < R.tries := by have k2 : ¬ p.asked + 1 ≥ R.tries := k2; omega
  have e : failOkB R p now = true := by rw [failOkB, k0, k1, decide_eq_true k2]; rfl
  obtain rfl : x = failTo R p now := hx.trans (if_pos e)
  obtain rfl : b = true := hb.trans e
  refine Ar.exact (by (try simp only [nc] at *); omega) (by (try simp only [nc] at *); omega) ?_
  cbv
  repeat (refine Pz.mk ?_; cbv)
  refine Ar.exact (by (try simp only [nc] at *); omega) (by (try simp only [nc] at *); omega) ?_
  cbv
  repeat (refine Pz.mk ?_; cbv)
  repeat' first | exact trivial | refine ⟨rfl, ?_⟩ | fail
set_option maxHeartbeats 1000000 in
theorem implFailed_ok (R : Rules) (p : Party) (now : Int) (hs : R.seats.length ≤ bigN) (x : Party) (hx : x = failOf R p now) (b : Bool) (hb : b = failOkB R p now) :
    Spec Tryz.prog 188 [ruA R, eA .pty p, iA now] (Ret (.tup [(true, paS fun _ => x), (false, [.bool fun _ => b])])) := by
  have no : failOkB R p now = false → x = default ∧ b = false := fun e => ⟨hx.trans (if_neg (by rw [e]; simp)), hb.trans e⟩
  refine spec_of tabOk Tryz.func188 rfl rfl (fr := true) (fun _ => by kernel_rfl) fun P hP hA => ?_
  cbv
  repeat (refine Pz.mk ?_; cbv)
  refine CallA.by hP (implPartyOk_ok R p now hs (partyOkB R p now) rfl) ?_
  cbv
  repeat (refine Pz.mk ?_; cbv)
  refine Br.split (fun k0 => ?_) (fun k0 => ?_) <;> (cbv; repeat (refine Pz.mk ?_; cbv))
  · have k0 : (!partyOkB R p now) = true := k0
    have k0 : partyOkB R p now = false := by simpa using k0
    have e := no (by rw [failOkB, k0]; rfl)
    obtain rfl : x = default := e.1
    obtain rfl : b = false := e.2
    repeat' first | exact trivial | refine ⟨rfl, ?_⟩ | fail
  have k0 : (!partyOkB R p now) = false := k0
  have k0 : partyOkB R p now = true := by simpa using k0
  have ha := asked_in k0
  have hp := parG k0
  have hn := hp.nowR
  have hr := ruG hp.rules
  have ht := hr.tries
  have hre := hr.rest
  refine Br.split (fun k1 => ?_) (fun k1 => ?_) <;> (cbv; repeat (refine Pz.mk ?_; cbv))
  · have k1 : (p.st != 2) = true := k1
    have e := no (by
      have k1 : (p.st == 2) = false := by simpa using k1
      rw [failOkB, k0, k1]; rfl)
    obtain rfl : x = default := e.1
    obtain rfl : b = false := e.2
    repeat' first | exact trivial | refine ⟨rfl, ?_⟩ | fail
  have k1 : (p.st != 2) = false := k1
  have k1 : (p.st == 2) = true := by simpa using k1
  refine Ar.exact (by (try simp only [nc] at *); omega) (by (try simp only [nc] at *); omega) ?_
  cbv
  repeat (refine Pz.mk ?_; cbv)
  refine Br.split (fun k2 => ?_) (fun k2 => ?_) <;> (cbv; repeat (refine Pz.mk ?_; cbv))
  · have k2 : p.asked + 1 ≥ R.tries := by
      have k2 : (p.asked + 1 == R.tries) = true := k2
      have k2 : p.asked + 1 = R.tries := by simpa using k2
      omega
    have e := no (by rw [failOkB, k0, k1, decide_eq_false (by omega)]; rfl)
    obtain rfl : x = default := e.1
    obtain rfl : b = false := e.2
    repeat' first | exact trivial | refine ⟨rfl, ?_⟩ | fail
  have k2 : p.asked + 1 < R.tries := by
    have k2 : (p.asked + 1 == R.tries) = false := k2
    have k2 : ¬ p.asked + 1 = R.tries := by simpa using k2
    omega
  have e : failOkB R p now = true := by rw [failOkB, k0, k1, decide_eq_true k2]; rfl
  obtain rfl : x = failTo R p now := hx.trans (if_pos e)
  obtain rfl : b = true := hb.trans e
  refine Ar.exact (by (try simp only [nc] at *); omega) (by (try simp only [nc] at *); omega) ?_
  cbv
  repeat (refine Pz.mk ?_; cbv)
  refine Ar.exact (by (try simp only [nc] at *); omega) (by (try simp only [nc] at *); omega) ?_
  cbv
  repeat (refine Pz.mk ?_; cbv)
  repeat' first | exact trivial | refine ⟨rfl, ?_⟩ | fail
end Go.Proofs.YtnenmkiabclncaaGreat
namespace Go.Proofs.YtnenmkiabclncaaGreat
open Go
set_option maxRecDepth 100000
theorem entLt_tot {a e : Entry} (h : entLt a e = false) (ht : a.turn ≠ e.turn) : entLt e a = true := by
  simp only [entLt, Bool.or_eq_false_iff, Bool.and_eq_false_iff, decide_eq_false_iff_not, beq_eq_false_iff_ne] at h
  simp only [entLt, Bool.or_eq_true, Bool.and_eq_true, decide_eq_true_eq, beq_iff_eq]
  omega
theorem insL_qpre {e : Entry} (he : entOkF e = true) : ∀ {l : List Entry}, QPre l → (∀ y ∈ l, y.eid ≠ e.eid) → (∀ y ∈ l, y.turn ≠ e.turn) → QPre (insL entLt e l)
  | [], _, _, _ => ⟨fun x hx => by rw [insL, List.mem_singleton] at hx; rw [hx]; exact he, List.pairwise_singleton _ _, List.pairwise_singleton _ _⟩
  | a :: s, h, hn, ht => by
    obtain ⟨l1, l2⟩ := List.pairwise_cons.1 h.lt
    obtain ⟨n1, n2⟩ := List.pairwise_cons.1 h.ne
    have hs : QPre s := ⟨fun x hx => h.ok x (List.mem_cons_of_mem _ hx), l2, n2⟩
    have ih := insL_qpre he hs (fun y hy => hn y (List.mem_cons_of_mem _ hy)) (fun y hy => ht y (List.mem_cons_of_mem _ hy))
    rw [insL]
    split
    · rename_i hlt
      refine ⟨fun x hx => ?_, List.pairwise_cons.2 ⟨fun b hb => ?_, ih.lt⟩, List.pairwise_cons.2 ⟨fun b hb => ?_, ih.ne⟩⟩
      · rcases List.mem_cons.1 hx with rfl | hx
        · exact h.ok _ List.mem_cons_self
        · exact ih.ok x hx
      · rcases insL_mem.1 hb with rfl | hb
        · exact hlt
        · exact l1 b hb
      · rcases insL_mem.1 hb with rfl | hb
        · exact hn a List.mem_cons_self
        · exact n1 b hb
    · rename_i hlt
      have hlt : entLt e a = true := entLt_tot (by simpa using hlt) (ht a List.mem_cons_self)
      refine ⟨fun x hx => ?_, List.pairwise_cons.2 ⟨fun b hb => ?_, h.lt⟩, List.pairwise_cons.2 ⟨fun b hb => fun q => hn b hb q.symm, h.ne⟩⟩
      · rcases List.mem_cons.1 hx with rfl | hx
        · exact he
        · exact h.ok x hx
      · rcases List.mem_cons.1 hb with rfl | hb
        · exact hlt
        · exact entSWO.tr _ _ _ hlt (l1 b hb)
theorem qPut_ins {l : List Entry} {e : Entry} (h : QPre l) (hl : l.length ≤ 9) (he : entOkF e = true) (hn : ∀ y ∈ l, y.eid ≠ e.eid) (ht : ∀ y ∈ l, y.turn ≠ e.turn) : qPut l e = insL entLt e l := by
  have h1 : queueOkB l = true := queueOk_yes (by omega) h
  have h2 : queueOkB (insL entLt e l) = true := queueOk_yes (by rw [insL_len]; omega) (insL_qpre he h hn ht)
  rw [qPut, qPutB, h1, h2]; rfl
structure ParH (R : Rules) (p : Party) : Prop where
  id : 1 ≤ p.id ∧ p.id ≤ 999
  cab : 0 ≤ p.cab ∧ p.cab ≤ (R.seats.length : Int) - 1
  frm : -1 ≤ p.frm ∧ p.frm ≤ (R.seats.length : Int) - 1
  ne : ¬ p.frm = p.cab
  turn : 1 ≤ p.turn ∧ p.turn ≤ 1000000
  st : p.st = 1 ∨ p.st = 2
theorem parH {R : Rules} {p : Party} {now : Int} (h : partyOkB R p now = true) : ParH R p := by
  simp only [partyOkB, Bool.and_eq_true, Bool.or_eq_true, beq_iff_eq, Bool.not_eq_true', beq_eq_false_iff_ne] at h
  obtain ⟨_, _, h1, h2, h3, h4, _, _, _, h5, _, h6⟩ := h
  exact ⟨isIn_ok h1, isIn_ok h2, isIn_ok h3, h4, isIn_ok h5, h6.elim (fun q => .inl q.1) (fun q => .inr q.1)⟩
theorem entOf_yes {R : Rules} {p : Party} {now : Int} (h : partyOkB R p now = true) (h1 : p.st = 1) : entryOf R p now = entAt R p now := by
  rw [entryOf, if_pos (by rw [entOkB, h, h1]; rfl)]
theorem entOk_of {R : Rules} {p : Party} {now : Int} (h : partyOkB R p now = true) (h1 : p.st = 1) : entOkF (entryOf R p now) = true := by
  have g := parG h
  have g2 := parH h
  have gr := ruG g.rules
  have ht := isIn_ok g.tier
  have q1 := g.since
  have q2 := g.nowR
  have q3 := gr.period
  have q4 := gr.tiers
  have q5 := gr.size
  have q6 := g.siz
  have q7 := g2.id
  have q8 := g2.turn
  have q9 := tdiv_in (a := now - p.since) (b := R.period) (by omega) (by omega) (by omega)
  have e0 : 0 ≤ lvl R p.tier (now - p.since) := lvl_nn _ _ _
  have e1 : lvl R p.tier (now - p.since) ≤ 4 := by unfold lvl; split <;> omega
  rw [entOf_yes h h1, entAt, levelOf, if_pos h]
  simp only [entOkF, isIn, Bool.and_eq_true, decide_eq_true_eq]
  omega
theorem cnt_parts (R : Rules) (now : Int) (k : Int) : ∀ l : List Party, (l.filter fun p => entOkB R p now && p.cab == k).length + (l.filter fun p => p.st == 2 && p.cab == k).length ≤ zAll (cntIn k) l
  | [] => Nat.le_refl _
  | p :: l => by
    have ih := cnt_parts R now k l
    have e : zAll (cntIn k) (p :: l) = cntIn k p + zAll (cntIn k) l := rfl
    rw [e, List.filter_cons, List.filter_cons]
    cases hc : (p.cab == k) with
    | false => simp [hc]; omega
    | true =>
      have e2 : cntIn k p = 1 := by rw [cntIn, if_pos hc]
      rw [e2]
      cases h1 : entOkB R p now with
      | false =>
        cases h2 : (p.st == 2) <;> simp <;> omega
      | true =>
        have h2 : (p.st == 2) = false := by
          have h3 : (p.st == 1) = true := by simp only [entOkB, Bool.and_eq_true] at h1; exact h1.2
          have h3 : p.st = 1 := by simpa using h3
          rw [h3]; rfl
        simp [h2]; omega
structure RowG (h : House) (k : Nat) (c : Cabin) : Prop where
  pre : QPre c.row
  cnt : c.row.length + (pinsOfP (k : Int) h.parties).length ≤ zAll (cntIn (k : Int)) h.parties
  room : ((zAll (cntIn (k : Int)) h.parties : Nat) : Int) ≤ h.rules.room
  of : ∀ y ∈ c.row, ∃ z ∈ h.parties, z.cab = (k : Int) ∧ z.st = 1 ∧ y.eid = z.id ∧ y.turn = z.turn
  row : c.row = queueOf h.rules h.parties (k : Int) h.now
  pins : wheelPins c.spoke = pinsIn h.parties (k : Int)
  wheel : wheelOkB c.spoke = true
  led : ledOkB c.seats = true
  held : c.seats.held = ((zAll (heldZ (k : Int)) h.parties : Nat) : Int)
  tied : c.seats.tied = ((zAll (tiedZ (k : Int)) h.parties : Nat) : Int)
  total : c.seats.total = h.rules.seats.getD k 0
theorem rowG {h : House} (hg : HG h) {k : Nat} {c : Cabin} (hk : h.cabins[k]? = some c) : RowG h k c := by
  have h1 := hg.cab k c hk
  simp only [cabAtB, agreesB, cabinOkB, Bool.and_eq_true, decide_eq_true_eq, beq_iff_eq] at h1
  obtain ⟨h0, h2, ⟨q1, q2, q3⟩, h3, h4, h5, h6⟩ := h1
  have hq : QPre c.row := by
    simp only [queueOkB, Bool.and_eq_true, decide_eq_true_eq] at q2
    exact q2.2
  refine ⟨hq, ?_, h2, fun y hy => ?_, h3, h4, q3, q1, h5, h6, h0⟩
  · have := cnt_parts h.rules h.now (k : Int) h.parties
    rw [h3, queueOf, sortR_len, entsOf, List.length_map, pinsOfP, List.length_map]
    exact this
  · rw [h3, queueOf, sortR_mem] at hy
    obtain ⟨z, hz, rfl⟩ := List.mem_map.1 hy
    obtain ⟨z1, z2⟩ := List.mem_filter.1 hz
    simp only [Bool.and_eq_true, beq_iff_eq] at z2
    obtain ⟨z2, z3⟩ := z2
    have z4 := z2
    simp only [entOkB, Bool.and_eq_true, beq_iff_eq] at z4
    exact ⟨z, z1, z3, z4.2, by rw [entryOf, if_pos z2]; rfl, by rw [entryOf, if_pos z2]; rfl⟩
theorem pty_one {R : Rules} {now turn : Int} {l : List Party} (h : PtyG R now turn l) {p q : Party} (hp : p ∈ l) (hq : q ∈ l) (hne : p ≠ q) : p.id ≠ q.id ∧ p.turn ≠ q.turn := by
  obtain ⟨i, hi, rfl⟩ := List.getElem_of_mem hp
  obtain ⟨j, hj, rfl⟩ := List.getElem_of_mem hq
  have hs := List.pairwise_iff_getElem.1 h.srt
  have hf := List.pairwise_iff_getElem.1 h.fair
  have ft : ∀ {a b : Party}, fairB a b = true → a.turn ≠ b.turn := fun {a b} h e => by simp [fairB, e] at h
  rcases Nat.lt_trichotomy i j with hij | rfl | hij
  · have h1 := hs i j hi hj hij
    have h2 := ft (hf i j hi hj hij)
    exact ⟨by omega, h2⟩
  · exact (hne rfl).elim
  · have h1 := hs j i hj hi hij
    have h2 := ft (hf j i hj hi hij)
    exact ⟨by omega, fun e => h2 e.symm⟩
theorem nodup_len : ∀ (n : Nat) {l : List Int}, (∀ x ∈ l, 0 ≤ x ∧ x < (n : Int)) → (l.Pairwise fun a b => a ≠ b) → l.length ≤ n
  | 0, [], _, _ => Nat.le_refl _
  | 0, x :: l, h, _ => by have := h x List.mem_cons_self; omega
  | n + 1, l, h, hp => by
    by_cases q : (n : Int) ∈ l
    · have pm := List.perm_cons_erase q
      obtain ⟨n1, n2⟩ := List.pairwise_cons.1 ((pm.pairwise_iff (fun {a b} q e => q e.symm)).1 hp)
      have ih := nodup_len n (l := l.erase (n : Int)) (fun x hx => by
        have h1 := h x (pm.mem_iff.2 (List.mem_cons_of_mem _ hx))
        have h2 := n1 x hx
        omega) n2
      have := pm.length_eq
      rw [List.length_cons] at this; omega
    · have ih := nodup_len n (l := l) (fun x hx => by
        have h1 := h x hx
        have h2 : x ≠ (n : Int) := fun e => q (e ▸ hx)
        omega) hp
      omega
theorem todo_few {h : House} (hg : HG h) : h.todo.length ≤ 4 := by
  have h1 := nodup_len h.cabins.length (l := h.todo) (fun x hx => by have := isIn_ok (hg.jobs.todo x hx); omega) hg.jobs.once
  have h2 := (ruG hg.rules).len
  have h3 := hg.cabs
  omega
end Go.Proofs.YtnenmkiabclncaaGreat

