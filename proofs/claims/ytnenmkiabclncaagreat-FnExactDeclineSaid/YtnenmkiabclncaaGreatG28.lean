/- Parts of a proof. No conditions. -/

import Derived.Test.YtnenmkiabclncaaGreatG27
import Derived.Test.YtnenmkiabclncaaGreatG26
set_option linter.unusedSimpArgs false
set_option linter.unusedVariables false
namespace Go.Proofs.YtnenmkiabclncaaGreat
open Go
set_option maxRecDepth 100000
set_option maxHeartbeats 4000000 in
theorem specCancel_ok (h : House) (id : Int) (hs : smallHo h) (x : House) (hx : x = cancelOf h id) (c : Int) (hc : c = verdictOf h (cancelQ id)) : Spec Tryz.prog 41 [hoA h, iA id] (Ret (.tup [(true, hoS fun _ => x), (false, [.int .i64 fun _ => c])])) := by
  by_cases hv : verdictOf h (cancelQ id) = 0
  rotate_left
  · obtain rfl : x = h := hx.trans (if_neg hv)
    have k1 : (c != 0) = true := by rw [hc]; simpa using hv
    refine spec_of tabOk Tryz.func41 rfl rfl (fr := true) (fun _ => by kernel_rfl) fun P hP hA => ?_
    cbv
    repeat (refine Pz.mk ?_; cbv)
    refine CallA.by hP (l11Copy_ok x hs) ?_
    cbv
    repeat (refine Pz.mk ?_; cbv)
    refine CallA.by hP (specVerdict_ok x (cancelQ id) hs c hc) ?_
    cbv
    repeat (refine Pz.mk ?_; cbv)
    refine Br.split (fun k0 => ?_) (fun k0 => ?_) <;> (cbv; repeat (refine Pz.mk ?_; cbv))
    · repeat' first | exact trivial | refine ⟨rfl, ?_⟩ | fail
    · have k0 : (c != 0) = false := k0
      rw [k1] at k0; cases k0
  have hx := hx.trans (if_pos hv)
  obtain ⟨i, k, p, cb, o, rfl, ep⟩ := cancel_known hv
  rw [ep] at hx
  have hp : smallCab (cabOf h p.cab) := by rw [o.cab']; exact hs.2.2.1.2 cb (List.mem_of_getElem? o.hk)
  have hf := o.frm
  have hcb : 0 ≤ p.cab ∧ p.cab < (h.cabins.length : Int) := o.cabin
  refine spec_of tabOk Tryz.func41 rfl rfl (fr := true) (fun _ => by kernel_rfl) fun P hP hA => ?_
  cbv
  repeat (refine Pz.mk ?_; cbv)
  refine CallA.by hP (l11Copy_ok h hs) ?_
  cbv
  repeat (refine Pz.mk ?_; cbv)
  refine CallA.by hP (specVerdict_ok h (cancelQ p.id) hs c hc) ?_
  cbv
  repeat (refine Pz.mk ?_; cbv)
  refine Br.split (fun k0 => ?_) (fun k0 => ?_) <;> (cbv; repeat (refine Pz.mk ?_; cbv))
  · have k0 : (c != 0) = true := k0
    have k0 : ¬ c = 0 := by simpa using k0
    exact absurd (hc.trans hv) k0
  have k0 : (c != 0) = false := k0
  obtain rfl : c = 0 := by simpa using k0
  apply cutK
  · intro hk
    repeat' first
      | exact trivial
      | (refine CallA.by hP (specPartyAt_ok h p.id (i : Int) o.at_.symm) ?_; cbv; repeat (refine Pz.mk ?_; cbv))
      | (refine Ix.mk (p) (Int.natCast_nonneg i) (o.hi) ?_; cbv; repeat (refine Pz.mk ?_; cbv))
      | (refine Pz.mk ?_; cbv)
      | (refine TabG.mk ?_ (by kernel_rfl) ?_; rotate_left; cbv; rotate_right)
      | refine ⟨rfl, ?_⟩
      | refine And.intro ?_ ?_
      | exact rfl
      | fail
    all_goals exact hk
  all_goals
    refine Br.split (fun h3 => ?_) (fun h3 => ?_) <;> (cbv; repeat (refine Pz.mk ?_; cbv))
    · have h3 : (p.st == 2) = true := h3
      have h3 : p.st = 2 := by simpa using h3
      refine CallM.by hP (l13Drop_ok h p hcb hp.2) ?_
      cbv
      repeat (refine Pz.mk ?_; cbv)
      refine CallA.by hP (specTodoPut_ok h.todo p.cab hs.2.2.2.1 (todoPut h.todo p.cab) rfl) ?_
      cbv
      repeat (refine Pz.mk ?_; cbv)
      refine CallM.by hP (l13Gone_ok (dropTodo h p) p hs.2.1 (FrmOk.of (setC_len _ _ _) hf)) ?_
      cbv
      repeat (refine Pz.mk ?_; cbv)
      obtain rfl : x = goneTo (dropTodo h p) p := hx.trans (by rw [cancelTo, if_pos h3])
      repeat' first | exact trivial | refine ⟨rfl, ?_⟩ | fail
    · have h3 : (p.st == 2) = false := h3
      have h3 : ¬ p.st = 2 := by simpa using h3
      repeat' first
        | exact trivial
        | (refine CallA.by hP (specQueueCut_ok (cabOf h p.cab).row p.id hp.1 (qCut (cabOf h p.cab).row p.id) rfl (decide (0 ≤ qAt (cabOf h p.cab).row p.id)) rfl) ?_; cbv; repeat (refine Pz.mk ?_; cbv))
        | (refine Ob.mk (hcb) ?_; cbv; repeat (refine Pz.mk ?_; cbv))
        | (refine Sv.mk (fun _ => (qcutTo h p).cabins) (rfl) ?_; cbv; repeat (refine Pz.mk ?_; cbv))
        | (refine Pz.mk ?_; cbv)
        | (refine TabG.mk ?_ (by kernel_rfl) ?_; rotate_left; cbv; rotate_right)
        | refine ⟨rfl, ?_⟩
        | refine And.intro ?_ ?_
        | exact rfl
        | fail
      refine CallM.by hP (l13Gone_ok (qcutTo h p) p hs.2.1 (FrmOk.of (setC_len _ _ _) hf)) ?_
      cbv
      repeat (refine Pz.mk ?_; cbv)
      obtain rfl : x = goneTo (qcutTo h p) p := hx.trans (by rw [cancelTo, if_neg h3])
      repeat' first | exact trivial | refine ⟨rfl, ?_⟩ | fail
set_option maxHeartbeats 4000000 in
theorem implCancel_ok (h : House) (id : Int) (hs : smallHo h) (x : House) (hx : x = cancelOf h id) (c : Int) (hc : c = verdictOf h (cancelQ id)) : Spec Tryz.prog 42 [hoA h, iA id] (Ret (.tup [(true, hoS fun _ => x), (false, [.int .i64 fun _ => c])])) := by
  by_cases hv : verdictOf h (cancelQ id) = 0
  rotate_left
  · obtain rfl : x = h := hx.trans (if_neg hv)
    have k1 : (c != 0) = true := by rw [hc]; simpa using hv
    refine spec_of tabOk Tryz.func42 rfl rfl (fr := true) (fun _ => by kernel_rfl) fun P hP hA => ?_
    cbv
    repeat (refine Pz.mk ?_; cbv)
    refine CallA.by hP (copyHouse_ok x hs) ?_
    cbv
    repeat (refine Pz.mk ?_; cbv)
    refine CallA.by hP (implVerdict_ok x (cancelQ id) hs c hc) ?_
    cbv
    repeat (refine Pz.mk ?_; cbv)
    refine Br.split (fun k0 => ?_) (fun k0 => ?_) <;> (cbv; repeat (refine Pz.mk ?_; cbv))
    · repeat' first | exact trivial | refine ⟨rfl, ?_⟩ | fail
    · have k0 : (c != 0) = false := k0
      rw [k1] at k0; cases k0
  have hx := hx.trans (if_pos hv)
  obtain ⟨i, k, p, cb, o, rfl, ep⟩ := cancel_known hv
  rw [ep] at hx
  have hp : smallCab (cabOf h p.cab) := by rw [o.cab']; exact hs.2.2.1.2 cb (List.mem_of_getElem? o.hk)
  have hf := o.frm
  have hcb : 0 ≤ p.cab ∧ p.cab < (h.cabins.length : Int) := o.cabin
  refine spec_of tabOk Tryz.func42 rfl rfl (fr := true) (fun _ => by kernel_rfl) fun P hP hA => ?_
  cbv
  repeat (refine Pz.mk ?_; cbv)
  refine CallA.by hP (copyHouse_ok h hs) ?_
  cbv
  repeat (refine Pz.mk ?_; cbv)
  refine CallA.by hP (implVerdict_ok h (cancelQ p.id) hs c hc) ?_
  cbv
  repeat (refine Pz.mk ?_; cbv)
  refine Br.split (fun k0 => ?_) (fun k0 => ?_) <;> (cbv; repeat (refine Pz.mk ?_; cbv))
  · have k0 : (c != 0) = true := k0
    have k0 : ¬ c = 0 := by simpa using k0
    exact absurd (hc.trans hv) k0
  have k0 : (c != 0) = false := k0
  obtain rfl : c = 0 := by simpa using k0
  have st : p.st = 1 ∨ p.st = 2 := (parH o.ok).st
  apply cutK
  · intro hk
    repeat' first
      | exact trivial
      | (refine CallA.by hP (implPartyAt_ok h p.id (i : Int) o.at_.symm) ?_; cbv; repeat (refine Pz.mk ?_; cbv))
      | (refine Ix.mk (p) (Int.natCast_nonneg i) (o.hi) ?_; cbv; repeat (refine Pz.mk ?_; cbv))
      | (refine Pz.mk ?_; cbv)
      | (refine TabG.mk ?_ (by kernel_rfl) ?_; rotate_left; cbv; rotate_right)
      | refine ⟨rfl, ?_⟩
      | refine And.intro ?_ ?_
      | exact rfl
      | fail
    all_goals exact hk
  repeat' first
    | exact trivial
    | (refine Ob.mk (hcb) ?_; cbv; repeat (refine Pz.mk ?_; cbv))
    | (refine Pz.mk ?_; cbv)
    | (refine TabG.mk ?_ (by kernel_rfl) ?_; rotate_left; cbv; rotate_right)
    | refine ⟨rfl, ?_⟩
    | refine And.intro ?_ ?_
    | exact rfl
    | fail
  all_goals
    refine Br.split (fun h3 => ?_) (fun h3 => ?_) <;> (cbv; repeat (refine Pz.mk ?_; cbv))
    · have h3 : (p.st == 1) = true := h3
      have h3 : ¬ p.st = 2 := fun e => by rw [e] at h3; cases h3
      repeat' first
        | exact trivial
        | (refine CallA.by hP (implQueueCut_ok (cabOf h p.cab).row p.id hp.1 (qCut (cabOf h p.cab).row p.id) rfl (decide (0 ≤ qAt (cabOf h p.cab).row p.id)) rfl) ?_; cbv; repeat (refine Pz.mk ?_; cbv))
        | (refine Ob.mk (rfl) ?_; cbv; repeat (refine Pz.mk ?_; cbv))
        | (refine Sv.mk (fun _ => (qcutTo h p).cabins) (rfl) ?_; cbv; repeat (refine Pz.mk ?_; cbv))
        | (refine Pz.mk ?_; cbv)
        | (refine TabG.mk ?_ (by kernel_rfl) ?_; rotate_left; cbv; rotate_right)
        | refine ⟨rfl, ?_⟩
        | refine And.intro ?_ ?_
        | exact rfl
        | fail
      all_goals
        refine Br.split (fun h4 => ?_) (fun h4 => ?_) <;> (cbv; repeat (refine Pz.mk ?_; cbv))
        · have h4 : (p.frm != -1) = true := h4
          have h4 : p.frm ≠ -1 := by simpa using h4
          have hfi := frm_in hf h4
          have hfi2 : 0 ≤ p.frm ∧ p.frm < ((qcutTo h p).cabins.length : Int) := setC_in hfi
          obtain rfl : x = setC { qcutTo h p with parties := partyCut h.parties p.id } p.frm (untieC (cabOf (qcutTo h p) p.frm) p.siz) := hx.trans (by rw [cancelTo, if_neg h3]; exact gone_yes h4)
          apply cutK
          · intro hk
            repeat' first
              | exact trivial
              | (refine Ob.mk (hfi2) ?_; cbv; repeat (refine Pz.mk ?_; cbv))
              | (refine CallA.by hP (implSeatsUntie_ok (cabOf (qcutTo h p) p.frm).seats p.siz (seatsOf (cabOf (qcutTo h p) p.frm).seats p.siz 0 0 0 (-1)) rfl (seatsB (cabOf (qcutTo h p) p.frm).seats p.siz 0 0 0 (-1)) rfl) ?_; cbv; repeat (refine Pz.mk ?_; cbv))
              | (refine Sv.mk (fun _ => (setC (qcutTo h p) p.frm (untieC (cabOf (qcutTo h p) p.frm) p.siz)).cabins) (rfl) ?_; cbv; repeat (refine Pz.mk ?_; cbv))
              | (refine Pz.mk ?_; cbv)
              | (refine TabG.mk ?_ (by kernel_rfl) ?_; rotate_left; cbv; rotate_right)
              | refine ⟨rfl, ?_⟩
              | refine And.intro ?_ ?_
              | exact rfl
              | fail
            all_goals exact hk
          repeat' first
            | exact trivial
            | (refine CallA.by hP (implPartyCut_ok h.parties p.id hs.2.1 (partyCut h.parties p.id) rfl) ?_; cbv; repeat (refine Pz.mk ?_; cbv))
            | (refine Pz.mk ?_; cbv)
            | (refine TabG.mk ?_ (by kernel_rfl) ?_; rotate_left; cbv; rotate_right)
            | refine ⟨rfl, ?_⟩
            | refine And.intro ?_ ?_
            | exact rfl
            | fail
        · have h4 : (p.frm != -1) = false := h4
          have h4 : p.frm = -1 := by simpa using h4
          obtain rfl : x = { qcutTo h p with parties := partyCut h.parties p.id } := hx.trans (by rw [cancelTo, if_neg h3]; exact gone_no h4)
          repeat' first
            | exact trivial
            | (refine CallA.by hP (implPartyCut_ok h.parties p.id hs.2.1 (partyCut h.parties p.id) rfl) ?_; cbv; repeat (refine Pz.mk ?_; cbv))
            | (refine Pz.mk ?_; cbv)
            | (refine TabG.mk ?_ (by kernel_rfl) ?_; rotate_left; cbv; rotate_right)
            | refine ⟨rfl, ?_⟩
            | refine And.intro ?_ ?_
            | exact rfl
            | fail
    · have h3 : (p.st == 1) = false := h3
      have h3 : p.st = 2 := st.resolve_left (fun e => by rw [e] at h3; cases h3)
      let c1 : Cabin := { cabOf h p.cab with spoke := wCut (cabOf h p.cab).spoke (offP p) }
      have e1 : cabOf (setC h p.cab c1) p.cab = c1 := cabOf_setC hcb
      have e2 : (setC h p.cab c1).cabins.set p.cab.toNat { cabOf (setC h p.cab c1) p.cab with seats := seatsOf (cabOf (setC h p.cab c1) p.cab).seats p.siz 1 (-1) 0 0 } = (dropTo h p).cabins := by rw [e1]; exact setC_two
      apply cutK
      · intro hk
        repeat' first
          | exact trivial
          | (refine CallA.by hP (implWheelCut_ok (cabOf h p.cab).spoke (offP p) hp.2 (wCut (cabOf h p.cab).spoke (offP p)) rfl (wCutB (cabOf h p.cab).spoke (offP p)) rfl) ?_; cbv; repeat (refine Pz.mk ?_; cbv))
          | (refine Ob.mk (rfl) ?_; cbv; repeat (refine Pz.mk ?_; cbv))
          | (refine Sv.mk (fun _ => (setC h p.cab c1).cabins) (rfl) ?_; cbv; (repeat (refine Pz.mk ?_; cbv)); exact hk)
          | (refine Pz.mk ?_; cbv)
          | (refine TabG.mk ?_ (by kernel_rfl) ?_; rotate_left; cbv; rotate_right)
          | refine ⟨rfl, ?_⟩
          | refine And.intro ?_ ?_
          | exact rfl
          | fail
      apply cutK
      · intro hk
        repeat' first
          | exact trivial
          | (refine CallA.by hP (implSeatsDrop_ok (cabOf (setC h p.cab c1) p.cab).seats p.siz (seatsOf (cabOf (setC h p.cab c1) p.cab).seats p.siz 1 (-1) 0 0) rfl (seatsB (cabOf (setC h p.cab c1) p.cab).seats p.siz 1 (-1) 0 0) rfl) ?_; cbv; repeat (refine Pz.mk ?_; cbv))
          | (refine Ob.mk (rfl) ?_; cbv; repeat (refine Pz.mk ?_; cbv))
          | (refine Sv.mk (fun _ => (dropTo h p).cabins) (e2) ?_; cbv; (repeat (refine Pz.mk ?_; cbv)); exact hk)
          | (refine Pz.mk ?_; cbv)
          | (refine TabG.mk ?_ (by kernel_rfl) ?_; rotate_left; cbv; rotate_right)
          | refine ⟨rfl, ?_⟩
          | refine And.intro ?_ ?_
          | exact rfl
          | fail
      repeat' first
        | exact trivial
        | (refine CallA.by hP (implTodoPut_ok h.todo p.cab hs.2.2.2.1 (todoPut h.todo p.cab) rfl) ?_; cbv; repeat (refine Pz.mk ?_; cbv))
        | (refine Pz.mk ?_; cbv)
        | (refine TabG.mk ?_ (by kernel_rfl) ?_; rotate_left; cbv; rotate_right)
        | refine ⟨rfl, ?_⟩
        | refine And.intro ?_ ?_
        | exact rfl
        | fail
      all_goals
        refine Br.split (fun h4 => ?_) (fun h4 => ?_) <;> (cbv; repeat (refine Pz.mk ?_; cbv))
        · have h4 : (p.frm != -1) = true := h4
          have h4 : p.frm ≠ -1 := by simpa using h4
          have hfi := frm_in hf h4
          have hfi2 : 0 ≤ p.frm ∧ p.frm < ((dropTodo h p).cabins.length : Int) := setC_in hfi
          obtain rfl : x = setC { dropTodo h p with parties := partyCut h.parties p.id } p.frm (untieC (cabOf (dropTodo h p) p.frm) p.siz) := hx.trans (by rw [cancelTo, if_pos h3]; exact gone_yes h4)
          apply cutK
          · intro hk
            repeat' first
              | exact trivial
              | (refine Ob.mk (hfi2) ?_; cbv; repeat (refine Pz.mk ?_; cbv))
              | (refine CallA.by hP (implSeatsUntie_ok (cabOf (dropTodo h p) p.frm).seats p.siz (seatsOf (cabOf (dropTodo h p) p.frm).seats p.siz 0 0 0 (-1)) rfl (seatsB (cabOf (dropTodo h p) p.frm).seats p.siz 0 0 0 (-1)) rfl) ?_; cbv; repeat (refine Pz.mk ?_; cbv))
              | (refine Sv.mk (fun _ => (setC (dropTodo h p) p.frm (untieC (cabOf (dropTodo h p) p.frm) p.siz)).cabins) (rfl) ?_; cbv; repeat (refine Pz.mk ?_; cbv))
              | (refine Pz.mk ?_; cbv)
              | (refine TabG.mk ?_ (by kernel_rfl) ?_; rotate_left; cbv; rotate_right)
              | refine ⟨rfl, ?_⟩
              | refine And.intro ?_ ?_
              | exact rfl
              | fail
            all_goals exact hk
          repeat' first
            | exact trivial
            | (refine CallA.by hP (implPartyCut_ok h.parties p.id hs.2.1 (partyCut h.parties p.id) rfl) ?_; cbv; repeat (refine Pz.mk ?_; cbv))
            | (refine Pz.mk ?_; cbv)
            | (refine TabG.mk ?_ (by kernel_rfl) ?_; rotate_left; cbv; rotate_right)
            | refine ⟨rfl, ?_⟩
            | refine And.intro ?_ ?_
            | exact rfl
            | fail
        · have h4 : (p.frm != -1) = false := h4
          have h4 : p.frm = -1 := by simpa using h4
          obtain rfl : x = { dropTodo h p with parties := partyCut h.parties p.id } := hx.trans (by rw [cancelTo, if_pos h3]; exact gone_no h4)
          repeat' first
            | exact trivial
            | (refine CallA.by hP (implPartyCut_ok h.parties p.id hs.2.1 (partyCut h.parties p.id) rfl) ?_; cbv; repeat (refine Pz.mk ?_; cbv))
            | (refine Pz.mk ?_; cbv)
            | (refine TabG.mk ?_ (by kernel_rfl) ?_; rotate_left; cbv; rotate_right)
            | refine ⟨rfl, ?_⟩
            | refine And.intro ?_ ?_
            | exact rfl
            | fail
end Go.Proofs.YtnenmkiabclncaaGreat

