/- Parts of a proof. No conditions. -/

import Derived.Test.YtnenmkiabclncaaGreatG27
import Derived.Test.YtnenmkiabclncaaGreatG26
import Derived.Test.YtnenmkiabclncaaGreatG21
import Derived.Test.YtnenmkiabclncaaGreatG25
set_option linter.unusedSimpArgs false
set_option linter.unusedVariables false
namespace Go.Proofs.YtnenmkiabclncaaGreat
open Go
set_option maxRecDepth 100000
theorem cab_keep {h : House} {p : Party} (hcb : 0 ≤ p.cab ∧ p.cab < (h.cabins.length : Int)) (l : List Party) : cabOf { dropTo h p with parties := l } p.cab = dropC (cabOf h p.cab) p := cabOf_setC hcb
set_option maxHeartbeats 2000000 in
theorem l14Fails_ok (h : House) (p : Party) (hr : h.rules.seats.length ≤ bigN) (hl : h.parties.length ≤ bigN) (hcb : 0 ≤ p.cab ∧ p.cab < (h.cabins.length : Int)) (hp : smallCab (cabOf h p.cab)) (hf : p.frm = -1 ∨ ∃ f, FrmOk h p f) : SpecM Tryz.prog 121 [hoO h, eA .pty p] (hoBs h) (RetM (hoR fun _ => failS h p) []) := by
  by_cases hk : failOkB h.rules p h.now = true
  · have ee : failS h p = failRow h p := if_pos hk
    rw [ee]
    refine specM_of tabOk Tryz.func121 rfl rfl (fr := true) (fun _ => by kernel_rfl) rfl rfl fun P hP hA hB => ?_
    cbv
    repeat (refine Pz.mk ?_; cbv)
    refine CallM.by hP (l13Drop_ok h p hcb hp.2) ?_
    cbv
    repeat (refine Pz.mk ?_; cbv)
    refine CallA.by hP (specFailed_ok h.rules p h.now hr (failTo h.rules p h.now) (if_pos hk).symm (failOkB h.rules p h.now) rfl) ?_
    cbv
    repeat (refine Pz.mk ?_; cbv)
    refine Br.split (fun k0 => ?_) (fun k0 => ?_) <;> (cbv; repeat (refine Pz.mk ?_; cbv))
    · have k0 : (!failOkB h.rules p h.now) = true := k0
      rw [hk] at k0; cases k0
    refine CallA.by hP (specPartyPut_ok h.parties (failTo h.rules p h.now) hl (partyPut h.parties (failTo h.rules p h.now)) rfl) ?_
    cbv
    repeat (refine Pz.mk ?_; cbv)
    refine CallM.by hP (l13Row_ok { dropTo h p with parties := partyPut h.parties (failTo h.rules p h.now) } (failTo h.rules p h.now) (setC_in hcb) hr (by show (cabOf { dropTo h p with parties := partyPut h.parties (failTo h.rules p h.now) } p.cab).row.length ≤ bigN; rw [cab_keep hcb]; exact hp.1)) ?_
    cbv
    repeat (refine Pz.mk ?_; cbv)
    repeat' first | exact trivial | refine ⟨rfl, ?_⟩ | fail
  · have ee : failS h p = goneTo (dropTo h p) p := if_neg hk
    rw [ee]
    refine specM_of tabOk Tryz.func121 rfl rfl (fr := true) (fun _ => by kernel_rfl) rfl rfl fun P hP hA hB => ?_
    cbv
    repeat (refine Pz.mk ?_; cbv)
    refine CallM.by hP (l13Drop_ok h p hcb hp.2) ?_
    cbv
    repeat (refine Pz.mk ?_; cbv)
    refine CallA.by hP (specFailed_ok h.rules p h.now hr (failOf h.rules p h.now) rfl (failOkB h.rules p h.now) rfl) ?_
    cbv
    repeat (refine Pz.mk ?_; cbv)
    refine Br.split (fun k0 => ?_) (fun k0 => ?_) <;> (cbv; repeat (refine Pz.mk ?_; cbv))
    · refine CallM.by hP (l13Gone_ok (dropTo h p) p hl (FrmOk.of (setC_len _ _ _) hf)) ?_
      cbv
      repeat (refine Pz.mk ?_; cbv)
      repeat' first | exact trivial | refine ⟨rfl, ?_⟩ | fail
    · have k0 : (!failOkB h.rules p h.now) = false := k0
      exact absurd (by simpa using k0) hk
set_option maxHeartbeats 4000000 in
theorem declined_ok (h : House) (hs : smallHo h) {i k : Nat} {c : Cabin} (o : OffG h i k (h.parties.getD ((i : Int)).toNat default) c) (h2 : (h.parties.getD ((i : Int)).toNat default).st = 2) (id : Int) (hid : (h.parties.getD ((i : Int)).toNat default).id = id) (x : House) (hx : x = failS h (h.parties.getD ((i : Int)).toNat default)) : SpecM Tryz.prog 114 [hoO h, iA id] (hoBs h) (RetM (hoR fun _ => x) []) := by
  obtain ⟨hi, ei⟩ := o.lt
  have oi : 0 ≤ (i : Int) ∧ (i : Int) < (h.parties.length : Int) := by omega
  have hat : pAt h.parties id = (i : Int) := by rw [← hid]; exact o.at_
  have hp : smallCab (cabOf h (h.parties.getD ((i : Int)).toNat default).cab) := by rw [o.cab']; exact hs.2.2.1.2 c (List.mem_of_getElem? o.hk)
  have hf := o.frm
  have hcb : 0 ≤ (h.parties.getD ((i : Int)).toNat default).cab ∧ (h.parties.getD ((i : Int)).toNat default).cab < (h.cabins.length : Int) := o.cabin
  let c1 : Cabin := { cabOf h (h.parties.getD ((i : Int)).toNat default).cab with seats := seatsOf (cabOf h (h.parties.getD ((i : Int)).toNat default).cab).seats (h.parties.getD ((i : Int)).toNat default).siz 1 (-1) 0 0 }
  have e1 : cabOf (setC h (h.parties.getD ((i : Int)).toNat default).cab c1) (h.parties.getD ((i : Int)).toNat default).cab = c1 := cabOf_setC hcb
  have e2 : (setC h (h.parties.getD ((i : Int)).toNat default).cab c1).cabins.set (h.parties.getD ((i : Int)).toNat default).cab.toNat { cabOf (setC h (h.parties.getD ((i : Int)).toNat default).cab c1) (h.parties.getD ((i : Int)).toNat default).cab with spoke := wCut (cabOf (setC h (h.parties.getD ((i : Int)).toNat default).cab c1) (h.parties.getD ((i : Int)).toNat default).cab).spoke (offP (h.parties.getD ((i : Int)).toNat default)) } = (dropTo h (h.parties.getD ((i : Int)).toNat default)).cabins := by rw [e1]; exact setC_two
  by_cases hk : failOkB h.rules (h.parties.getD ((i : Int)).toNat default) h.now = true
  · have hx : x = failRow h (h.parties.getD ((i : Int)).toNat default) := hx.trans (if_pos hk)
    have e3 : cabOf (dropTo h (h.parties.getD ((i : Int)).toNat default)) (h.parties.getD ((i : Int)).toNat default).cab = dropC (cabOf h (h.parties.getD ((i : Int)).toNat default).cab) (h.parties.getD ((i : Int)).toNat default) := cabOf_setC hcb
    have hq : qPut (cabOf (dropTo h (h.parties.getD ((i : Int)).toNat default)) (h.parties.getD ((i : Int)).toNat default).cab).row (entryOf h.rules (failTo h.rules (h.parties.getD ((i : Int)).toNat default) h.now) h.now) = insL entLt (entryOf h.rules (failTo h.rules (h.parties.getD ((i : Int)).toNat default) h.now) h.now) (cabOf (dropTo h (h.parties.getD ((i : Int)).toNat default)) (h.parties.getD ((i : Int)).toNat default).cab).row := by
      rw [e3]
      show qPut (cabOf h (h.parties.getD ((i : Int)).toNat default).cab).row _ = insL entLt _ (cabOf h (h.parties.getD ((i : Int)).toNat default).cab).row
      rw [o.cab']
      exact o.qput h2 hk
    have e4 : (dropTo h (h.parties.getD ((i : Int)).toNat default)).cabins.set (h.parties.getD ((i : Int)).toNat default).cab.toNat { cabOf (dropTo h (h.parties.getD ((i : Int)).toNat default)) (h.parties.getD ((i : Int)).toNat default).cab with row := insL entLt (entryOf h.rules (failTo h.rules (h.parties.getD ((i : Int)).toNat default) h.now) h.now) (cabOf (dropTo h (h.parties.getD ((i : Int)).toNat default)) (h.parties.getD ((i : Int)).toNat default).cab).row } = (failRow h (h.parties.getD ((i : Int)).toNat default)).cabins := rfl
    refine specM_of tabOk Tryz.func114 rfl rfl (fr := true) (fun _ => by kernel_rfl) rfl rfl fun P hP hA hB => ?_
    cbv
    repeat (refine Pz.mk ?_; cbv)
    apply cutK
    · intro hk
      repeat' first
        | exact trivial
        | (refine CallA.by hP (implPartyAt_ok h id (i : Int) hat.symm) ?_; cbv; repeat (refine Pz.mk ?_; cbv))
        | (refine Ob.mk (oi) ?_; cbv; repeat (refine Pz.mk ?_; cbv))
        | (refine Pz.mk ?_; cbv)
        | (refine TabG.mk ?_ (by kernel_rfl) ?_; rotate_left; cbv; rotate_right)
        | refine ⟨rfl, ?_⟩
        | refine And.intro ?_ ?_
        | exact rfl
        | fail
      all_goals exact hk
    apply cutK
    · intro hk
      repeat' first
        | exact trivial
        | (refine Ob.mk (hcb) ?_; cbv; repeat (refine Pz.mk ?_; cbv))
        | (refine Ob.mk (rfl) ?_; cbv; repeat (refine Pz.mk ?_; cbv))
        | (refine CallA.by hP (implSeatsDrop_ok (cabOf h (h.parties.getD ((i : Int)).toNat default).cab).seats (h.parties.getD ((i : Int)).toNat default).siz (seatsOf (cabOf h (h.parties.getD ((i : Int)).toNat default).cab).seats (h.parties.getD ((i : Int)).toNat default).siz 1 (-1) 0 0) rfl (seatsB (cabOf h (h.parties.getD ((i : Int)).toNat default).cab).seats (h.parties.getD ((i : Int)).toNat default).siz 1 (-1) 0 0) rfl) ?_; cbv; repeat (refine Pz.mk ?_; cbv))
        | (refine Sv.mk (fun _ => (setC h (h.parties.getD ((i : Int)).toNat default).cab c1).cabins) (rfl) ?_; cbv; (repeat (refine Pz.mk ?_; cbv)); exact hk)
        | (refine Pz.mk ?_; cbv)
        | (refine TabG.mk ?_ (by kernel_rfl) ?_; rotate_left; cbv; rotate_right)
        | refine ⟨rfl, ?_⟩
        | refine And.intro ?_ ?_
        | exact rfl
        | fail
    apply cutK
    · intro hk
      repeat' first
        | exact trivial
        | (refine Ob.mk (rfl) ?_; cbv; repeat (refine Pz.mk ?_; cbv))
        | (refine CallA.by hP (implWheelCut_ok (cabOf (setC h (h.parties.getD ((i : Int)).toNat default).cab c1) (h.parties.getD ((i : Int)).toNat default).cab).spoke ⟨(h.parties.getD ((i : Int)).toNat default).untl, id⟩ (by rw [e1]; exact hp.2) (wCut (cabOf (setC h (h.parties.getD ((i : Int)).toNat default).cab c1) (h.parties.getD ((i : Int)).toNat default).cab).spoke (offP (h.parties.getD ((i : Int)).toNat default))) (by rw [offP, hid]) (wCutB (cabOf (setC h (h.parties.getD ((i : Int)).toNat default).cab c1) (h.parties.getD ((i : Int)).toNat default).cab).spoke ⟨(h.parties.getD ((i : Int)).toNat default).untl, id⟩) rfl) ?_; cbv; repeat (refine Pz.mk ?_; cbv))
        | (refine Sv.mk (fun _ => (dropTo h (h.parties.getD ((i : Int)).toNat default)).cabins) (e2) ?_; cbv; (repeat (refine Pz.mk ?_; cbv)); exact hk)
        | (refine Pz.mk ?_; cbv)
        | (refine TabG.mk ?_ (by kernel_rfl) ?_; rotate_left; cbv; rotate_right)
        | refine ⟨rfl, ?_⟩
        | refine And.intro ?_ ?_
        | exact rfl
        | fail
    repeat' first
      | exact trivial
      | (refine CallA.by hP (implFailed_ok h.rules (h.parties.getD ((i : Int)).toNat default) h.now hs.1 (failTo h.rules (h.parties.getD ((i : Int)).toNat default) h.now) (if_pos hk).symm (failOkB h.rules (h.parties.getD ((i : Int)).toNat default) h.now) rfl) ?_; cbv; repeat (refine Pz.mk ?_; cbv))
      | (refine Pz.mk ?_; cbv)
      | (refine TabG.mk ?_ (by kernel_rfl) ?_; rotate_left; cbv; rotate_right)
      | refine ⟨rfl, ?_⟩
      | exact rfl
      | fail
    all_goals
      refine Br.split (fun k0 => ?_) (fun k0 => ?_) <;> (cbv; repeat (refine Pz.mk ?_; cbv))
      · repeat' first
          | exact trivial
          | (refine CallA.by hP (implPartyPut_ok h.parties (failTo h.rules (h.parties.getD ((i : Int)).toNat default) h.now) hs.2.1 (partyPut h.parties (failTo h.rules (h.parties.getD ((i : Int)).toNat default) h.now)) rfl) ?_; cbv; repeat (refine Pz.mk ?_; cbv))
          | (refine CallA.by hP (implEntryOf_ok h.rules (failTo h.rules (h.parties.getD ((i : Int)).toNat default) h.now) h.now hs.1 (entryOf h.rules (failTo h.rules (h.parties.getD ((i : Int)).toNat default) h.now) h.now) rfl (entOkB h.rules (failTo h.rules (h.parties.getD ((i : Int)).toNat default) h.now) h.now) rfl) ?_; cbv; repeat (refine Pz.mk ?_; cbv))
          | (refine Pz.mk ?_; cbv)
          | (refine TabG.mk ?_ (by kernel_rfl) ?_; rotate_left; cbv; rotate_right)
          | refine ⟨rfl, ?_⟩
          | exact rfl
          | fail
        apply cutK
        · intro hk
          repeat' first
            | exact trivial
            | (refine Ob.mk (rfl) ?_; cbv; repeat (refine Pz.mk ?_; cbv))
            | (refine CallA.by hP (implQueuePut_ok (cabOf (dropTo h (h.parties.getD ((i : Int)).toNat default)) (h.parties.getD ((i : Int)).toNat default).cab).row (entryOf h.rules (failTo h.rules (h.parties.getD ((i : Int)).toNat default) h.now) h.now) (by rw [e3]; exact hp.1) (insL entLt (entryOf h.rules (failTo h.rules (h.parties.getD ((i : Int)).toNat default) h.now) h.now) (cabOf (dropTo h (h.parties.getD ((i : Int)).toNat default)) (h.parties.getD ((i : Int)).toNat default).cab).row) hq.symm (qPutB (cabOf (dropTo h (h.parties.getD ((i : Int)).toNat default)) (h.parties.getD ((i : Int)).toNat default).cab).row (entryOf h.rules (failTo h.rules (h.parties.getD ((i : Int)).toNat default) h.now) h.now)) rfl) ?_; cbv; repeat (refine Pz.mk ?_; cbv))
            | (refine Sv.mk (fun _ => (failRow h (h.parties.getD ((i : Int)).toNat default)).cabins) (e4) ?_; cbv; (repeat (refine Pz.mk ?_; cbv)); exact hk)
            | (refine Pz.mk ?_; cbv)
            | (refine TabG.mk ?_ (by kernel_rfl) ?_; rotate_left; cbv; rotate_right)
            | refine ⟨rfl, ?_⟩
            | refine And.intro ?_ ?_
            | exact rfl
            | fail
        all_goals
          obtain rfl : x = failRow h (h.parties.getD ((i : Int)).toNat default) := hx
          repeat' first | exact trivial | refine ⟨rfl, ?_⟩ | fail
      · have k0 : failOkB h.rules (h.parties.getD ((i : Int)).toNat default) h.now = false := k0
        rw [hk] at k0; cases k0
  · have hx : x = goneTo (dropTo h (h.parties.getD ((i : Int)).toNat default)) (h.parties.getD ((i : Int)).toNat default) := hx.trans (if_neg hk)
    refine specM_of tabOk Tryz.func114 rfl rfl (fr := true) (fun _ => by kernel_rfl) rfl rfl fun P hP hA hB => ?_
    cbv
    repeat (refine Pz.mk ?_; cbv)
    apply cutK
    · intro hk
      repeat' first
        | exact trivial
        | (refine CallA.by hP (implPartyAt_ok h id (i : Int) hat.symm) ?_; cbv; repeat (refine Pz.mk ?_; cbv))
        | (refine Ob.mk (oi) ?_; cbv; repeat (refine Pz.mk ?_; cbv))
        | (refine Pz.mk ?_; cbv)
        | (refine TabG.mk ?_ (by kernel_rfl) ?_; rotate_left; cbv; rotate_right)
        | refine ⟨rfl, ?_⟩
        | refine And.intro ?_ ?_
        | exact rfl
        | fail
      all_goals exact hk
    apply cutK
    · intro hk
      repeat' first
        | exact trivial
        | (refine Ob.mk (hcb) ?_; cbv; repeat (refine Pz.mk ?_; cbv))
        | (refine Ob.mk (rfl) ?_; cbv; repeat (refine Pz.mk ?_; cbv))
        | (refine CallA.by hP (implSeatsDrop_ok (cabOf h (h.parties.getD ((i : Int)).toNat default).cab).seats (h.parties.getD ((i : Int)).toNat default).siz (seatsOf (cabOf h (h.parties.getD ((i : Int)).toNat default).cab).seats (h.parties.getD ((i : Int)).toNat default).siz 1 (-1) 0 0) rfl (seatsB (cabOf h (h.parties.getD ((i : Int)).toNat default).cab).seats (h.parties.getD ((i : Int)).toNat default).siz 1 (-1) 0 0) rfl) ?_; cbv; repeat (refine Pz.mk ?_; cbv))
        | (refine Sv.mk (fun _ => (setC h (h.parties.getD ((i : Int)).toNat default).cab c1).cabins) (rfl) ?_; cbv; (repeat (refine Pz.mk ?_; cbv)); exact hk)
        | (refine Pz.mk ?_; cbv)
        | (refine TabG.mk ?_ (by kernel_rfl) ?_; rotate_left; cbv; rotate_right)
        | refine ⟨rfl, ?_⟩
        | refine And.intro ?_ ?_
        | exact rfl
        | fail
    apply cutK
    · intro hk
      repeat' first
        | exact trivial
        | (refine Ob.mk (rfl) ?_; cbv; repeat (refine Pz.mk ?_; cbv))
        | (refine CallA.by hP (implWheelCut_ok (cabOf (setC h (h.parties.getD ((i : Int)).toNat default).cab c1) (h.parties.getD ((i : Int)).toNat default).cab).spoke ⟨(h.parties.getD ((i : Int)).toNat default).untl, id⟩ (by rw [e1]; exact hp.2) (wCut (cabOf (setC h (h.parties.getD ((i : Int)).toNat default).cab c1) (h.parties.getD ((i : Int)).toNat default).cab).spoke (offP (h.parties.getD ((i : Int)).toNat default))) (by rw [offP, hid]) (wCutB (cabOf (setC h (h.parties.getD ((i : Int)).toNat default).cab c1) (h.parties.getD ((i : Int)).toNat default).cab).spoke ⟨(h.parties.getD ((i : Int)).toNat default).untl, id⟩) rfl) ?_; cbv; repeat (refine Pz.mk ?_; cbv))
        | (refine Sv.mk (fun _ => (dropTo h (h.parties.getD ((i : Int)).toNat default)).cabins) (e2) ?_; cbv; (repeat (refine Pz.mk ?_; cbv)); exact hk)
        | (refine Pz.mk ?_; cbv)
        | (refine TabG.mk ?_ (by kernel_rfl) ?_; rotate_left; cbv; rotate_right)
        | refine ⟨rfl, ?_⟩
        | refine And.intro ?_ ?_
        | exact rfl
        | fail
    repeat' first
      | exact trivial
      | (refine CallA.by hP (implFailed_ok h.rules (h.parties.getD ((i : Int)).toNat default) h.now hs.1 (failOf h.rules (h.parties.getD ((i : Int)).toNat default) h.now) rfl (failOkB h.rules (h.parties.getD ((i : Int)).toNat default) h.now) rfl) ?_; cbv; repeat (refine Pz.mk ?_; cbv))
      | (refine Pz.mk ?_; cbv)
      | (refine TabG.mk ?_ (by kernel_rfl) ?_; rotate_left; cbv; rotate_right)
      | refine ⟨rfl, ?_⟩
      | exact rfl
      | fail
    all_goals
      refine Br.split (fun k0 => ?_) (fun k0 => ?_) <;> (cbv; repeat (refine Pz.mk ?_; cbv))
      · have k0 : failOkB h.rules (h.parties.getD ((i : Int)).toNat default) h.now = true := k0
        exact absurd k0 hk
      repeat' first
        | exact trivial
        | (refine CallA.by hP (implPartyCut_ok h.parties id hs.2.1 (partyCut h.parties (h.parties.getD ((i : Int)).toNat default).id) (by rw [hid])) ?_; cbv; repeat (refine Pz.mk ?_; cbv))
        | (refine Pz.mk ?_; cbv)
        | (refine TabG.mk ?_ (by kernel_rfl) ?_; rotate_left; cbv; rotate_right)
        | refine ⟨rfl, ?_⟩
        | refine And.intro ?_ ?_
        | exact rfl
        | fail
      refine Br.split (fun h4 => ?_) (fun h4 => ?_) <;> (cbv; repeat (refine Pz.mk ?_; cbv))
      · have h4 : ((h.parties.getD ((i : Int)).toNat default).frm != -1) = true := h4
        have h4 : (h.parties.getD ((i : Int)).toNat default).frm ≠ -1 := by simpa using h4
        have hfi := frm_in hf h4
        have hfi2 : 0 ≤ (h.parties.getD ((i : Int)).toNat default).frm ∧ (h.parties.getD ((i : Int)).toNat default).frm < ((dropTo h (h.parties.getD ((i : Int)).toNat default)).cabins.length : Int) := setC_in hfi
        obtain rfl : x = setC { dropTo h (h.parties.getD ((i : Int)).toNat default) with parties := partyCut h.parties (h.parties.getD ((i : Int)).toNat default).id } (h.parties.getD ((i : Int)).toNat default).frm (untieC (cabOf (dropTo h (h.parties.getD ((i : Int)).toNat default)) (h.parties.getD ((i : Int)).toNat default).frm) (h.parties.getD ((i : Int)).toNat default).siz) := hx.trans (gone_yes h4)
        repeat' first
          | exact trivial
          | (refine Ob.mk (hfi2) ?_; cbv; repeat (refine Pz.mk ?_; cbv))
          | (refine CallA.by hP (implSeatsUntie_ok (cabOf (dropTo h (h.parties.getD ((i : Int)).toNat default)) (h.parties.getD ((i : Int)).toNat default).frm).seats (h.parties.getD ((i : Int)).toNat default).siz (seatsOf (cabOf (dropTo h (h.parties.getD ((i : Int)).toNat default)) (h.parties.getD ((i : Int)).toNat default).frm).seats (h.parties.getD ((i : Int)).toNat default).siz 0 0 0 (-1)) rfl (seatsB (cabOf (dropTo h (h.parties.getD ((i : Int)).toNat default)) (h.parties.getD ((i : Int)).toNat default).frm).seats (h.parties.getD ((i : Int)).toNat default).siz 0 0 0 (-1)) rfl) ?_; cbv; repeat (refine Pz.mk ?_; cbv))
          | (refine Sv.mk (fun _ => (setC (dropTo h (h.parties.getD ((i : Int)).toNat default)) (h.parties.getD ((i : Int)).toNat default).frm (untieC (cabOf (dropTo h (h.parties.getD ((i : Int)).toNat default)) (h.parties.getD ((i : Int)).toNat default).frm) (h.parties.getD ((i : Int)).toNat default).siz)).cabins) (rfl) ?_; cbv; repeat (refine Pz.mk ?_; cbv))
          | (refine Pz.mk ?_; cbv)
          | (refine TabG.mk ?_ (by kernel_rfl) ?_; rotate_left; cbv; rotate_right)
          | refine ⟨rfl, ?_⟩
          | refine And.intro ?_ ?_
          | exact rfl
          | fail
      · have h4 : ((h.parties.getD ((i : Int)).toNat default).frm != -1) = false := h4
        have h4 : (h.parties.getD ((i : Int)).toNat default).frm = -1 := by simpa using h4
        obtain rfl : x = { dropTo h (h.parties.getD ((i : Int)).toNat default) with parties := partyCut h.parties (h.parties.getD ((i : Int)).toNat default).id } := hx.trans (gone_no h4)
        repeat' first | exact trivial | refine ⟨rfl, ?_⟩ | fail
set_option maxHeartbeats 4000000 in
theorem specDecline_ok (h : House) (id : Int) (hs : smallHo h) (x : House) (hx : x = declineOf h id) (c : Int) (hc : c = verdictOf h (declineQ id)) : Spec Tryz.prog 49 [hoA h, iA id] (Ret (.tup [(true, hoS fun _ => x), (false, [.int .i64 fun _ => c])])) := by
  by_cases hv : verdictOf h (declineQ id) = 0
  rotate_left
  · obtain rfl : x = h := hx.trans (if_neg hv)
    have k1 : (c != 0) = true := by rw [hc]; simpa using hv
    refine spec_of tabOk Tryz.func49 rfl rfl (fr := true) (fun _ => by kernel_rfl) fun P hP hA => ?_
    cbv
    repeat (refine Pz.mk ?_; cbv)
    refine CallA.by hP (l11Copy_ok x hs) ?_
    cbv
    repeat (refine Pz.mk ?_; cbv)
    refine CallA.by hP (specVerdict_ok x (declineQ id) hs c hc) ?_
    cbv
    repeat (refine Pz.mk ?_; cbv)
    refine Br.split (fun k0 => ?_) (fun k0 => ?_) <;> (cbv; repeat (refine Pz.mk ?_; cbv))
    · repeat' first | exact trivial | refine ⟨rfl, ?_⟩ | fail
    · have k0 : (c != 0) = false := k0
      rw [k1] at k0; cases k0
  have hx := hx.trans (if_pos hv)
  obtain ⟨i, k, p, cb, o, eid, ep, st⟩ := answer_known (.inr rfl) hv
  have hq : x = declineTo h p := hx.trans (congrArg (declineTo h) ep)
  have hp : smallCab (cabOf h p.cab) := by rw [o.cab']; exact hs.2.2.1.2 cb (List.mem_of_getElem? o.hk)
  have hf := o.frm
  have hcb : 0 ≤ p.cab ∧ p.cab < (h.cabins.length : Int) := o.cabin
  obtain rfl : p.id = id := eid
  have pe : h.parties.getD ((i : Int)).toNat default = p := by rw [Int.toNat_natCast, List.getD_eq_getElem?_getD, o.hi]; rfl
  have htd : (failS h p).todo.length ≤ bigN := by rw [o.keep.2.2.2.1]; exact hs.2.2.2.1
  obtain rfl : x = declineTo h p := hq
  refine spec_of tabOk Tryz.func49 rfl rfl (fr := true) (fun _ => by kernel_rfl) fun P hP hA => ?_
  cbv
  repeat (refine Pz.mk ?_; cbv)
  refine CallA.by hP (l11Copy_ok h hs) ?_
  cbv
  repeat (refine Pz.mk ?_; cbv)
  refine CallA.by hP (specVerdict_ok h (declineQ p.id) hs c hc) ?_
  cbv
  repeat (refine Pz.mk ?_; cbv)
  refine Br.split (fun k0 => ?_) (fun k0 => ?_) <;> (cbv; repeat (refine Pz.mk ?_; cbv))
  · have k0 : (c != 0) = true := k0
    have k0 : ¬ c = 0 := by simpa using k0
    exact absurd (hc.trans hv) k0
  have k0 : (c != 0) = false := k0
  obtain rfl : c = 0 := by simpa using k0
  apply cutK
  · intro hk
    repeat' first
      | exact trivial
      | (refine CallA.by hP (specPartyAt_ok h p.id (i : Int) o.at_.symm) ?_; cbv; repeat (refine Pz.mk ?_; cbv))
      | (refine Ix.mk (p) (Int.natCast_nonneg i) (o.hi) ?_; cbv; repeat (refine Pz.mk ?_; cbv))
      | (refine Pz.mk ?_; cbv)
      | (refine TabG.mk ?_ (by kernel_rfl) ?_; rotate_left; cbv; rotate_right)
      | refine ⟨rfl, ?_⟩
      | refine And.intro ?_ ?_
      | exact rfl
      | fail
    all_goals exact hk
  repeat' first
    | exact trivial
    | (refine CallM.by hP (l14Fails_ok h p hs.1 hs.2.1 hcb hp hf) ?_; cbv; repeat (refine Pz.mk ?_; cbv))
    | (refine CallA.by hP (specTodoPut_ok (failS h p).todo p.cab htd (todoPut (failS h p).todo p.cab) rfl) ?_; cbv; repeat (refine Pz.mk ?_; cbv))
    | (refine Pz.mk ?_; cbv)
    | (refine TabG.mk ?_ (by kernel_rfl) ?_; rotate_left; cbv; rotate_right)
    | refine ⟨rfl, ?_⟩
    | refine And.intro ?_ ?_
    | exact rfl
    | fail
set_option maxHeartbeats 4000000 in
theorem implDecline_ok (h : House) (id : Int) (hs : smallHo h) (x : House) (hx : x = declineOf h id) (c : Int) (hc : c = verdictOf h (declineQ id)) : Spec Tryz.prog 50 [hoA h, iA id] (Ret (.tup [(true, hoS fun _ => x), (false, [.int .i64 fun _ => c])])) := by
  by_cases hv : verdictOf h (declineQ id) = 0
  rotate_left
  · obtain rfl : x = h := hx.trans (if_neg hv)
    have k1 : (c != 0) = true := by rw [hc]; simpa using hv
    refine spec_of tabOk Tryz.func50 rfl rfl (fr := true) (fun _ => by kernel_rfl) fun P hP hA => ?_
    cbv
    repeat (refine Pz.mk ?_; cbv)
    refine CallA.by hP (copyHouse_ok x hs) ?_
    cbv
    repeat (refine Pz.mk ?_; cbv)
    refine CallA.by hP (implVerdict_ok x (declineQ id) hs c hc) ?_
    cbv
    repeat (refine Pz.mk ?_; cbv)
    refine Br.split (fun k0 => ?_) (fun k0 => ?_) <;> (cbv; repeat (refine Pz.mk ?_; cbv))
    · repeat' first | exact trivial | refine ⟨rfl, ?_⟩ | fail
    · have k0 : (c != 0) = false := k0
      rw [k1] at k0; cases k0
  have hx := hx.trans (if_pos hv)
  obtain ⟨i, k, p, cb, o, eid, ep, st⟩ := answer_known (.inr rfl) hv
  have hq : x = declineTo h p := hx.trans (congrArg (declineTo h) ep)
  have hp : smallCab (cabOf h p.cab) := by rw [o.cab']; exact hs.2.2.1.2 cb (List.mem_of_getElem? o.hk)
  have hf := o.frm
  have hcb : 0 ≤ p.cab ∧ p.cab < (h.cabins.length : Int) := o.cabin
  obtain rfl : p.id = id := eid
  have pe : h.parties.getD ((i : Int)).toNat default = p := by rw [Int.toNat_natCast, List.getD_eq_getElem?_getD, o.hi]; rfl
  have htd : (failS h p).todo.length ≤ bigN := by rw [o.keep.2.2.2.1]; exact hs.2.2.2.1
  obtain rfl : x = declineTo h p := hq
  refine spec_of tabOk Tryz.func50 rfl rfl (fr := true) (fun _ => by kernel_rfl) fun P hP hA => ?_
  cbv
  repeat (refine Pz.mk ?_; cbv)
  refine CallA.by hP (copyHouse_ok h hs) ?_
  cbv
  repeat (refine Pz.mk ?_; cbv)
  refine CallA.by hP (implVerdict_ok h (declineQ p.id) hs c hc) ?_
  cbv
  repeat (refine Pz.mk ?_; cbv)
  refine Br.split (fun k0 => ?_) (fun k0 => ?_) <;> (cbv; repeat (refine Pz.mk ?_; cbv))
  · have k0 : (c != 0) = true := k0
    have k0 : ¬ c = 0 := by simpa using k0
    exact absurd (hc.trans hv) k0
  have k0 : (c != 0) = false := k0
  obtain rfl : c = 0 := by simpa using k0
  apply cutK
  · intro hk
    repeat' first
      | exact trivial
      | (refine CallA.by hP (implPartyAt_ok h p.id (i : Int) o.at_.symm) ?_; cbv; repeat (refine Pz.mk ?_; cbv))
      | (refine Ix.mk (p) (Int.natCast_nonneg i) (o.hi) ?_; cbv; repeat (refine Pz.mk ?_; cbv))
      | (refine Pz.mk ?_; cbv)
      | (refine TabG.mk ?_ (by kernel_rfl) ?_; rotate_left; cbv; rotate_right)
      | refine ⟨rfl, ?_⟩
      | refine And.intro ?_ ?_
      | exact rfl
      | fail
    all_goals exact hk
  repeat' first
    | exact trivial
    | (refine CallM.by hP (declined_ok h hs (i := i) (k := k) (c := cb) (by rw [pe]; exact o) (by rw [pe]; exact st) p.id (by rw [pe]) (failS h p) (by rw [pe])) ?_; cbv; repeat (refine Pz.mk ?_; cbv))
    | (refine CallA.by hP (implTodoPut_ok (failS h p).todo p.cab htd (todoPut (failS h p).todo p.cab) rfl) ?_; cbv; repeat (refine Pz.mk ?_; cbv))
    | (refine Pz.mk ?_; cbv)
    | (refine TabG.mk ?_ (by kernel_rfl) ?_; rotate_left; cbv; rotate_right)
    | refine ⟨rfl, ?_⟩
    | refine And.intro ?_ ?_
    | exact rfl
    | fail
end Go.Proofs.YtnenmkiabclncaaGreat

