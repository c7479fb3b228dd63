/- Parts of a proof. No conditions. -/

import Derived.Test.YtnenmkiabclncaaGreatG27
import Derived.Test.YtnenmkiabclncaaGreatG26
set_option linter.unusedSimpArgs false
set_option linter.unusedVariables false
namespace Go.Proofs.YtnenmkiabclncaaGreat
open Go
set_option maxRecDepth 100000
set_option maxHeartbeats 4000000 in
theorem specAccept_ok (h : House) (id : Int) (hs : smallHo h) (x : House) (hx : x = acceptOf h id) (c : Int) (hc : c = verdictOf h (acceptQ id)) : Spec Tryz.prog 39 [hoA h, iA id] (Ret (.tup [(true, hoS fun _ => x), (false, [.int .i64 fun _ => c])])) := by
  by_cases hv : verdictOf h (acceptQ id) = 0
  rotate_left
  · obtain rfl : x = h := hx.trans (if_neg hv)
    have k1 : (c != 0) = true := by rw [hc]; simpa using hv
    refine spec_of tabOk Tryz.func39 rfl rfl (fr := true) (fun _ => by kernel_rfl) fun P hP hA => ?_
    cbv
    repeat (refine Pz.mk ?_; cbv)
    refine CallA.by hP (l11Copy_ok x hs) ?_
    cbv
    repeat (refine Pz.mk ?_; cbv)
    refine CallA.by hP (specVerdict_ok x (acceptQ id) hs c hc) ?_
    cbv
    repeat (refine Pz.mk ?_; cbv)
    refine Br.split (fun k0 => ?_) (fun k0 => ?_) <;> (cbv; repeat (refine Pz.mk ?_; cbv))
    · repeat' first | exact trivial | refine ⟨rfl, ?_⟩ | fail
    · have k0 : (c != 0) = false := k0
      rw [k1] at k0; cases k0
  have hx := hx.trans (if_pos hv)
  obtain ⟨i, k, p, cb, o, eid, ep, st⟩ := answer_known (.inl rfl) hv
  have hq : x = acceptTo h p := hx.trans (congrArg (acceptTo h) ep)
  have hp : smallCab (cabOf h p.cab) := by rw [o.cab']; exact hs.2.2.1.2 cb (List.mem_of_getElem? o.hk)
  have hf := o.frm
  have hcb : 0 ≤ p.cab ∧ p.cab < (h.cabins.length : Int) := o.cabin
  obtain rfl : p.id = id := eid
  refine spec_of tabOk Tryz.func39 rfl rfl (fr := true) (fun _ => by kernel_rfl) fun P hP hA => ?_
  cbv
  repeat (refine Pz.mk ?_; cbv)
  refine CallA.by hP (l11Copy_ok h hs) ?_
  cbv
  repeat (refine Pz.mk ?_; cbv)
  refine CallA.by hP (specVerdict_ok h (acceptQ p.id) hs c hc) ?_
  cbv
  repeat (refine Pz.mk ?_; cbv)
  refine Br.split (fun k0 => ?_) (fun k0 => ?_) <;> (cbv; repeat (refine Pz.mk ?_; cbv))
  · have k0 : (c != 0) = true := k0
    have k0 : ¬ c = 0 := by simpa using k0
    exact absurd (hc.trans hv) k0
  have k0 : (c != 0) = false := k0
  obtain rfl : c = 0 := by simpa using k0
  apply cutK
  · intro hk
    repeat' first
      | exact trivial
      | (refine CallA.by hP (specPartyAt_ok h p.id (i : Int) o.at_.symm) ?_; cbv; repeat (refine Pz.mk ?_; cbv))
      | (refine Ix.mk (p) (Int.natCast_nonneg i) (o.hi) ?_; cbv; repeat (refine Pz.mk ?_; cbv))
      | (refine Pz.mk ?_; cbv)
      | (refine TabG.mk ?_ (by kernel_rfl) ?_; rotate_left; cbv; rotate_right)
      | refine ⟨rfl, ?_⟩
      | refine And.intro ?_ ?_
      | exact rfl
      | fail
    all_goals exact hk
  repeat' first
    | exact trivial
    | (refine Ob.mk (hcb) ?_; cbv; repeat (refine Pz.mk ?_; cbv))
    | (refine CallA.by hP (specSeatsSell_ok (cabOf (h) p.cab).seats p.siz (seatsOf (cabOf (h) p.cab).seats p.siz 0 (-1) 1 0) rfl (seatsB (cabOf (h) p.cab).seats p.siz 0 (-1) 1 0) rfl) ?_; cbv; repeat (refine Pz.mk ?_; cbv))
    | (refine CallA.by hP (specWheelCut_ok (cabOf h p.cab).spoke (offP p) hp.2 (wCut (cabOf h p.cab).spoke (offP p)) rfl (wCutB (cabOf h p.cab).spoke (offP p)) rfl) ?_; cbv; repeat (refine Pz.mk ?_; cbv))
    | (refine Sv.mk (fun _ => (sellTo h p).cabins) (rfl) ?_; cbv; repeat (refine Pz.mk ?_; cbv))
    | (refine CallM.by hP (l13Gone_ok (sellTo h p) p hs.2.1 (FrmOk.of (setC_len _ _ _) hf)) ?_; cbv; repeat (refine Pz.mk ?_; cbv))
    | (refine Pz.mk ?_; cbv)
    | (refine TabG.mk ?_ (by kernel_rfl) ?_; rotate_left; cbv; rotate_right)
    | refine ⟨rfl, ?_⟩
    | refine And.intro ?_ ?_
    | exact rfl
    | fail
  all_goals
    refine Br.dec (fun h4 => ?_) (fun h4 => ?_) <;> (cbv; repeat (refine Pz.mk ?_; cbv))
    · have h4 : p.frm ≥ 0 := h4
      have h5 : p.frm ≠ -1 := by omega
      have hfi := frm_in hf h5
      have hfi2 : 0 ≤ p.frm ∧ p.frm < ((goneTo (sellTo h p) p).cabins.length : Int) := by rw [gone_yes h5]; exact setC_in (h := { sellTo h p with parties := partyCut (sellTo h p).parties p.id }) (setC_in hfi)
      have ht : (goneTo (sellTo h p) p).todo.length ≤ bigN := by rw [gone_yes h5]; exact hs.2.2.2.1
      obtain rfl : x = freeTo (goneTo (sellTo h p) p) p.frm p.siz := hq.trans (if_neg h5)
      refine CallM.by hP (l14FreeI_ok (goneTo (sellTo h p) p) p.frm hfi2 p.siz ht) ?_
      cbv
      repeat (refine Pz.mk ?_; cbv)
      repeat' first | exact trivial | refine ⟨rfl, ?_⟩ | fail
    · have h4 : ¬ p.frm ≥ 0 := h4
      have h5 : p.frm = -1 := hf.resolve_right (fun ⟨f, q⟩ => by have := q.eq; omega)
      obtain rfl : x = goneTo (sellTo h p) p := hq.trans (if_pos h5)
      repeat' first | exact trivial | refine ⟨rfl, ?_⟩ | fail
set_option maxHeartbeats 4000000 in
theorem implAccept_ok (h : House) (id : Int) (hs : smallHo h) (x : House) (hx : x = acceptOf h id) (c : Int) (hc : c = verdictOf h (acceptQ id)) : Spec Tryz.prog 40 [hoA h, iA id] (Ret (.tup [(true, hoS fun _ => x), (false, [.int .i64 fun _ => c])])) := by
  by_cases hv : verdictOf h (acceptQ id) = 0
  rotate_left
  · obtain rfl : x = h := hx.trans (if_neg hv)
    have k1 : (c != 0) = true := by rw [hc]; simpa using hv
    refine spec_of tabOk Tryz.func40 rfl rfl (fr := true) (fun _ => by kernel_rfl) fun P hP hA => ?_
    cbv
    repeat (refine Pz.mk ?_; cbv)
    refine CallA.by hP (copyHouse_ok x hs) ?_
    cbv
    repeat (refine Pz.mk ?_; cbv)
    refine CallA.by hP (implVerdict_ok x (acceptQ id) hs c hc) ?_
    cbv
    repeat (refine Pz.mk ?_; cbv)
    refine Br.split (fun k0 => ?_) (fun k0 => ?_) <;> (cbv; repeat (refine Pz.mk ?_; cbv))
    · repeat' first | exact trivial | refine ⟨rfl, ?_⟩ | fail
    · have k0 : (c != 0) = false := k0
      rw [k1] at k0; cases k0
  have hx := hx.trans (if_pos hv)
  obtain ⟨i, k, p, cb, o, eid, ep, st⟩ := answer_known (.inl rfl) hv
  have hq : x = acceptTo h p := hx.trans (congrArg (acceptTo h) ep)
  have hp : smallCab (cabOf h p.cab) := by rw [o.cab']; exact hs.2.2.1.2 cb (List.mem_of_getElem? o.hk)
  have hf := o.frm
  have hcb : 0 ≤ p.cab ∧ p.cab < (h.cabins.length : Int) := o.cabin
  obtain rfl : p.id = id := eid
  refine spec_of tabOk Tryz.func40 rfl rfl (fr := true) (fun _ => by kernel_rfl) fun P hP hA => ?_
  cbv
  repeat (refine Pz.mk ?_; cbv)
  refine CallA.by hP (copyHouse_ok h hs) ?_
  cbv
  repeat (refine Pz.mk ?_; cbv)
  refine CallA.by hP (implVerdict_ok h (acceptQ p.id) hs c hc) ?_
  cbv
  repeat (refine Pz.mk ?_; cbv)
  refine Br.split (fun k0 => ?_) (fun k0 => ?_) <;> (cbv; repeat (refine Pz.mk ?_; cbv))
  · have k0 : (c != 0) = true := k0
    have k0 : ¬ c = 0 := by simpa using k0
    exact absurd (hc.trans hv) k0
  have k0 : (c != 0) = false := k0
  obtain rfl : c = 0 := by simpa using k0
  let c1 : Cabin := { cabOf h p.cab with seats := seatsOf (cabOf h p.cab).seats p.siz 0 (-1) 1 0 }
  have e1 : cabOf (setC h p.cab c1) p.cab = c1 := cabOf_setC hcb
  have e2 : (setC h p.cab c1).cabins.set p.cab.toNat { cabOf (setC h p.cab c1) p.cab with spoke := wCut (cabOf (setC h p.cab c1) p.cab).spoke (offP p) } = (sellTo h p).cabins := by rw [e1]; exact setC_two
  apply cutK
  · intro hk
    repeat' first
      | exact trivial
      | (refine CallA.by hP (implPartyAt_ok h p.id (i : Int) o.at_.symm) ?_; cbv; repeat (refine Pz.mk ?_; cbv))
      | (refine Ix.mk (p) (Int.natCast_nonneg i) (o.hi) ?_; cbv; repeat (refine Pz.mk ?_; cbv))
      | (refine Pz.mk ?_; cbv)
      | (refine TabG.mk ?_ (by kernel_rfl) ?_; rotate_left; cbv; rotate_right)
      | refine ⟨rfl, ?_⟩
      | refine And.intro ?_ ?_
      | exact rfl
      | fail
    all_goals exact hk
  apply cutK
  · intro hk
    repeat' first
      | exact trivial
      | (refine Ob.mk (hcb) ?_; cbv; repeat (refine Pz.mk ?_; cbv))
      | (refine Ob.mk (rfl) ?_; cbv; repeat (refine Pz.mk ?_; cbv))
      | (refine CallA.by hP (implSeatsSell_ok (cabOf (h) p.cab).seats p.siz (seatsOf (cabOf (h) p.cab).seats p.siz 0 (-1) 1 0) rfl (seatsB (cabOf (h) p.cab).seats p.siz 0 (-1) 1 0) rfl) ?_; cbv; repeat (refine Pz.mk ?_; cbv))
      | (refine Sv.mk (fun _ => (setC h p.cab c1).cabins) (rfl) ?_; cbv; (repeat (refine Pz.mk ?_; cbv)); exact hk)
      | (refine Pz.mk ?_; cbv)
      | (refine TabG.mk ?_ (by kernel_rfl) ?_; rotate_left; cbv; rotate_right)
      | refine ⟨rfl, ?_⟩
      | refine And.intro ?_ ?_
      | exact rfl
      | fail
  apply cutK
  · intro hk
    repeat' first
      | exact trivial
      | (refine Ob.mk (rfl) ?_; cbv; repeat (refine Pz.mk ?_; cbv))
      | (refine CallA.by hP (implWheelCut_ok (cabOf (setC h p.cab c1) p.cab).spoke (offP p) (by rw [e1]; exact hp.2) (wCut (cabOf (setC h p.cab c1) p.cab).spoke (offP p)) rfl (wCutB (cabOf (setC h p.cab c1) p.cab).spoke (offP p)) rfl) ?_; cbv; repeat (refine Pz.mk ?_; cbv))
      | (refine Sv.mk (fun _ => (sellTo h p).cabins) (e2) ?_; cbv; (repeat (refine Pz.mk ?_; cbv)); exact hk)
      | (refine Pz.mk ?_; cbv)
      | (refine TabG.mk ?_ (by kernel_rfl) ?_; rotate_left; cbv; rotate_right)
      | refine ⟨rfl, ?_⟩
      | refine And.intro ?_ ?_
      | exact rfl
      | fail
  repeat' first
    | exact trivial
    | (refine CallA.by hP (implPartyCut_ok h.parties p.id hs.2.1 (partyCut h.parties p.id) rfl) ?_; cbv; repeat (refine Pz.mk ?_; cbv))
    | (refine Pz.mk ?_; cbv)
    | (refine TabG.mk ?_ (by kernel_rfl) ?_; rotate_left; cbv; rotate_right)
    | refine ⟨rfl, ?_⟩
    | refine And.intro ?_ ?_
    | exact rfl
    | fail
  all_goals
    refine Br.split (fun h4 => ?_) (fun h4 => ?_) <;> (cbv; repeat (refine Pz.mk ?_; cbv))
    · have h4 : (p.frm != -1) = true := h4
      have h4 : p.frm ≠ -1 := by simpa using h4
      have hfi := frm_in hf h4
      have hfi2 : 0 ≤ p.frm ∧ p.frm < ((sellTo h p).cabins.length : Int) := setC_in hfi
      let G : House := setC (sellTo h p) p.frm (untieC (cabOf (sellTo h p) p.frm) p.siz)
      have g1 : cabOf G p.frm = untieC (cabOf (sellTo h p) p.frm) p.siz := cabOf_setC hfi2
      obtain rfl : x = freeTo (setC { sellTo h p with parties := partyCut h.parties p.id } p.frm (untieC (cabOf (sellTo h p) p.frm) p.siz)) p.frm p.siz := hq.trans ((if_neg h4).trans (by rw [gone_yes h4]; rfl))
      apply cutK
      · intro hk
        repeat' first
          | exact trivial
          | (refine Ob.mk (hfi2) ?_; cbv; repeat (refine Pz.mk ?_; cbv))
          | (refine Ob.mk (rfl) ?_; cbv; repeat (refine Pz.mk ?_; cbv))
          | (refine CallA.by hP (implSeatsUntie_ok (cabOf (sellTo h p) p.frm).seats p.siz (seatsOf (cabOf (sellTo h p) p.frm).seats p.siz 0 0 0 (-1)) rfl (seatsB (cabOf (sellTo h p) p.frm).seats p.siz 0 0 0 (-1)) rfl) ?_; cbv; repeat (refine Pz.mk ?_; cbv))
          | (refine Sv.mk (fun _ => G.cabins) (rfl) ?_; cbv; (repeat (refine Pz.mk ?_; cbv)); exact hk)
          | (refine Pz.mk ?_; cbv)
          | (refine TabG.mk ?_ (by kernel_rfl) ?_; rotate_left; cbv; rotate_right)
          | refine ⟨rfl, ?_⟩
          | refine And.intro ?_ ?_
          | exact rfl
          | fail
      apply cutK
      · intro hk
        repeat' first
          | exact trivial
          | (refine Ob.mk (rfl) ?_; cbv; repeat (refine Pz.mk ?_; cbv))
          | (refine CallA.by hP (implSeatsFree_ok (cabOf (G) p.frm).seats p.siz (seatsOf (cabOf (G) p.frm).seats p.siz 1 0 (-1) 0) rfl (seatsB (cabOf (G) p.frm).seats p.siz 1 0 (-1) 0) rfl) ?_; cbv; repeat (refine Pz.mk ?_; cbv))
          | (refine Sv.mk (fun _ => (freeTo G p.frm p.siz).cabins) (rfl) ?_; cbv; (repeat (refine Pz.mk ?_; cbv)); exact hk)
          | (refine Pz.mk ?_; cbv)
          | (refine TabG.mk ?_ (by kernel_rfl) ?_; rotate_left; cbv; rotate_right)
          | refine ⟨rfl, ?_⟩
          | refine And.intro ?_ ?_
          | exact rfl
          | fail
      repeat' first
        | exact trivial
        | (refine CallA.by hP (implTodoPut_ok h.todo p.frm hs.2.2.2.1 (todoPut h.todo p.frm) rfl) ?_; cbv; repeat (refine Pz.mk ?_; cbv))
        | (refine Pz.mk ?_; cbv)
        | (refine TabG.mk ?_ (by kernel_rfl) ?_; rotate_left; cbv; rotate_right)
        | refine ⟨rfl, ?_⟩
        | refine And.intro ?_ ?_
        | exact rfl
        | fail
    · have h4 : (p.frm != -1) = false := h4
      have h4 : p.frm = -1 := by simpa using h4
      obtain rfl : x = { sellTo h p with parties := partyCut h.parties p.id } := hq.trans ((if_pos h4).trans (gone_no h4))
      repeat' first | exact trivial | refine ⟨rfl, ?_⟩ | fail
end Go.Proofs.YtnenmkiabclncaaGreat

