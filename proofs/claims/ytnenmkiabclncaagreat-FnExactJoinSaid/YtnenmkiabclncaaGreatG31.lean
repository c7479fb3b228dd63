/- Parts of a proof. No conditions. -/

import Derived.Test.YtnenmkiabclncaaGreatG27
import Derived.Test.YtnenmkiabclncaaGreatG26
set_option linter.unusedSimpArgs false
set_option linter.unusedVariables false
namespace Go.Proofs.YtnenmkiabclncaaGreat
open Go
set_option maxRecDepth 100000
set_option maxHeartbeats 4000000 in
theorem specJoin_ok (h : House) (id cab frm siz tier : Int) (hs : smallHo h) (x : House) (hx : x = joinOf h id cab frm siz tier) (c : Int) (hc : c = verdictOf h (joinQ id cab frm siz tier)) : Spec Tryz.prog 45 [hoA h, iA id, iA cab, iA frm, iA siz, iA tier] (Ret (.tup [(true, hoS fun _ => x), (false, [.int .i64 fun _ => c])])) := by
  by_cases hv : verdictOf h (joinQ id cab frm siz tier) = 0
  rotate_left
  · obtain rfl : x = h := hx.trans (if_neg hv)
    have k1 : (c != 0) = true := by rw [hc]; simpa using hv
    refine spec_of tabOk Tryz.func45 rfl rfl (fr := true) (fun _ => by kernel_rfl) fun P hP hA => ?_
    cbv
    repeat (refine Pz.mk ?_; cbv)
    refine CallA.by hP (l11Copy_ok x hs) ?_
    cbv
    repeat (refine Pz.mk ?_; cbv)
    refine CallA.by hP (specVerdict_ok x (joinQ id cab frm siz tier) hs c hc) ?_
    cbv
    repeat (refine Pz.mk ?_; cbv)
    refine Br.split (fun k0 => ?_) (fun k0 => ?_) <;> (cbv; repeat (refine Pz.mk ?_; cbv))
    · repeat' first | exact trivial | refine ⟨rfl, ?_⟩ | fail
    · have k0 : (c != 0) = false := k0
      rw [k1] at k0; cases k0
  have hx := hx.trans (if_pos hv)
  obtain ⟨k, cb, o⟩ := join_known hv
  have hp : smallCab (cabOf h cab) := by rw [show cabOf h cab = cb from o.cab']; exact hs.2.2.1.2 cb (List.mem_of_getElem? o.hk)
  have hf : frm = -1 ∨ ∃ f, FrmOk h (joinP h id cab frm siz tier) f := o.frm
  have hcb : 0 ≤ cab ∧ cab < (h.cabins.length : Int) := o.cabin
  have htn := o.tmax
  refine spec_of tabOk Tryz.func45 rfl rfl (fr := true) (fun _ => by kernel_rfl) fun P hP hA => ?_
  cbv
  repeat (refine Pz.mk ?_; cbv)
  refine CallA.by hP (l11Copy_ok h hs) ?_
  cbv
  repeat (refine Pz.mk ?_; cbv)
  refine CallA.by hP (specVerdict_ok h (joinQ id cab frm siz tier) hs c hc) ?_
  cbv
  repeat (refine Pz.mk ?_; cbv)
  refine Br.split (fun k0 => ?_) (fun k0 => ?_) <;> (cbv; repeat (refine Pz.mk ?_; cbv))
  · have k0 : (c != 0) = true := k0
    have k0 : ¬ c = 0 := by simpa using k0
    exact absurd (hc.trans hv) k0
  have k0 : (c != 0) = false := k0
  obtain rfl : c = 0 := by simpa using k0
  repeat' first
    | exact trivial
    | (refine Ar.exact (by (try simp only [nc] at *); omega) (by (try simp only [nc] at *); omega) ?_; cbv; repeat (refine Pz.mk ?_; cbv))
    | (refine CallA.by hP (specPartyPut_ok h.parties (joinP h id cab frm siz tier) hs.2.1 (partyPut h.parties (joinP h id cab frm siz tier)) rfl) ?_; cbv; repeat (refine Pz.mk ?_; cbv))
    | (refine CallM.by hP (l13Row_ok (joinIn h (joinP h id cab frm siz tier)) (joinP h id cab frm siz tier) hcb hs.1 hp.1) ?_; cbv; repeat (refine Pz.mk ?_; cbv))
    | (refine Pz.mk ?_; cbv)
    | (refine TabG.mk ?_ (by kernel_rfl) ?_; rotate_left; cbv; rotate_right)
    | refine ⟨rfl, ?_⟩
    | refine And.intro ?_ ?_
    | exact rfl
    | fail
  all_goals
    refine Br.dec (fun h4 => ?_) (fun h4 => ?_) <;> (cbv; repeat (refine Pz.mk ?_; cbv))
    · have h4 : frm ≥ 0 := h4
      have h5 : frm ≠ -1 := by omega
      have hfi : 0 ≤ frm ∧ frm < (h.cabins.length : Int) := frm_in (p := (joinP h id cab frm siz tier)) hf h5
      have hfi2 : 0 ≤ frm ∧ frm < ((joinRow h (joinP h id cab frm siz tier)).cabins.length : Int) := by rw [joinRow, rowTo, setC_len]; exact hfi
      obtain rfl : x = { setC (joinRow h (joinP h id cab frm siz tier)) frm (tieC (cabOf (joinRow h (joinP h id cab frm siz tier)) frm) siz) with todo := todoPut h.todo cab } := hx.trans (by rw [joinTo, tieTo, if_neg (show ¬ (joinP h id cab frm siz tier).frm = -1 from h5)]; rfl)
      apply cutK
      · intro hk
        repeat' first
          | exact trivial
          | (refine Ob.mk (hfi2) ?_; cbv; repeat (refine Pz.mk ?_; cbv))
          | (refine CallA.by hP (specSeatsTie_ok (cabOf (joinRow h (joinP h id cab frm siz tier)) frm).seats siz (seatsOf (cabOf (joinRow h (joinP h id cab frm siz tier)) frm).seats siz 0 0 0 1) rfl (seatsB (cabOf (joinRow h (joinP h id cab frm siz tier)) frm).seats siz 0 0 0 1) rfl) ?_; cbv; repeat (refine Pz.mk ?_; cbv))
          | (refine Sv.mk (fun _ => (setC (joinRow h (joinP h id cab frm siz tier)) frm (tieC (cabOf (joinRow h (joinP h id cab frm siz tier)) frm) siz)).cabins) (rfl) ?_; cbv; (repeat (refine Pz.mk ?_; cbv)); exact hk)
          | (refine Pz.mk ?_; cbv)
          | (refine TabG.mk ?_ (by kernel_rfl) ?_; rotate_left; cbv; rotate_right)
          | refine ⟨rfl, ?_⟩
          | refine And.intro ?_ ?_
          | exact rfl
          | fail
      repeat' first
        | exact trivial
        | (refine CallA.by hP (specTodoPut_ok h.todo cab hs.2.2.2.1 (todoPut h.todo cab) rfl) ?_; cbv; repeat (refine Pz.mk ?_; cbv))
        | (refine Pz.mk ?_; cbv)
        | (refine TabG.mk ?_ (by kernel_rfl) ?_; rotate_left; cbv; rotate_right)
        | refine ⟨rfl, ?_⟩
        | refine And.intro ?_ ?_
        | exact rfl
        | fail
    · have h4 : ¬ frm ≥ 0 := h4
      have h5 : frm = -1 := hf.resolve_right (fun ⟨f, q⟩ => by have : frm = (f : Int) := q.eq; omega)
      obtain rfl : x = { joinRow h (joinP h id cab frm siz tier) with todo := todoPut h.todo cab } := hx.trans (by rw [joinTo, tieTo, if_pos (show (joinP h id cab frm siz tier).frm = -1 from h5)]; rfl)
      repeat' first
        | exact trivial
        | (refine CallA.by hP (specTodoPut_ok h.todo cab hs.2.2.2.1 (todoPut h.todo cab) rfl) ?_; cbv; repeat (refine Pz.mk ?_; cbv))
        | (refine Pz.mk ?_; cbv)
        | (refine TabG.mk ?_ (by kernel_rfl) ?_; rotate_left; cbv; rotate_right)
        | refine ⟨rfl, ?_⟩
        | refine And.intro ?_ ?_
        | exact rfl
        | fail
set_option maxHeartbeats 4000000 in
theorem implJoin_ok (h : House) (id cab frm siz tier : Int) (hs : smallHo h) (x : House) (hx : x = joinOf h id cab frm siz tier) (c : Int) (hc : c = verdictOf h (joinQ id cab frm siz tier)) : Spec Tryz.prog 46 [hoA h, iA id, iA cab, iA frm, iA siz, iA tier] (Ret (.tup [(true, hoS fun _ => x), (false, [.int .i64 fun _ => c])])) := by
  by_cases hv : verdictOf h (joinQ id cab frm siz tier) = 0
  rotate_left
  · obtain rfl : x = h := hx.trans (if_neg hv)
    have k1 : (c != 0) = true := by rw [hc]; simpa using hv
    refine spec_of tabOk Tryz.func46 rfl rfl (fr := true) (fun _ => by kernel_rfl) fun P hP hA => ?_
    cbv
    repeat (refine Pz.mk ?_; cbv)
    refine CallA.by hP (copyHouse_ok x hs) ?_
    cbv
    repeat (refine Pz.mk ?_; cbv)
    refine CallA.by hP (implVerdict_ok x (joinQ id cab frm siz tier) hs c hc) ?_
    cbv
    repeat (refine Pz.mk ?_; cbv)
    refine Br.split (fun k0 => ?_) (fun k0 => ?_) <;> (cbv; repeat (refine Pz.mk ?_; cbv))
    · repeat' first | exact trivial | refine ⟨rfl, ?_⟩ | fail
    · have k0 : (c != 0) = false := k0
      rw [k1] at k0; cases k0
  have hx := hx.trans (if_pos hv)
  obtain ⟨k, cb, o⟩ := join_known hv
  have hp : smallCab (cabOf h cab) := by rw [show cabOf h cab = cb from o.cab']; exact hs.2.2.1.2 cb (List.mem_of_getElem? o.hk)
  have hf : frm = -1 ∨ ∃ f, FrmOk h (joinP h id cab frm siz tier) f := o.frm
  have hcb : 0 ≤ cab ∧ cab < (h.cabins.length : Int) := o.cabin
  have htn := o.tmax
  have hq : insL entLt (entryOf h.rules (joinP h id cab frm siz tier) h.now) (cabOf h cab).row = qPut (cabOf h cab).row (entryOf h.rules (joinP h id cab frm siz tier) h.now) := by rw [show cabOf h cab = cb from o.cab']; exact o.qput.symm
  refine spec_of tabOk Tryz.func46 rfl rfl (fr := true) (fun _ => by kernel_rfl) fun P hP hA => ?_
  cbv
  repeat (refine Pz.mk ?_; cbv)
  refine CallA.by hP (copyHouse_ok h hs) ?_
  cbv
  repeat (refine Pz.mk ?_; cbv)
  refine CallA.by hP (implVerdict_ok h (joinQ id cab frm siz tier) hs c hc) ?_
  cbv
  repeat (refine Pz.mk ?_; cbv)
  refine Br.split (fun k0 => ?_) (fun k0 => ?_) <;> (cbv; repeat (refine Pz.mk ?_; cbv))
  · have k0 : (c != 0) = true := k0
    have k0 : ¬ c = 0 := by simpa using k0
    exact absurd (hc.trans hv) k0
  have k0 : (c != 0) = false := k0
  obtain rfl : c = 0 := by simpa using k0
  repeat' first
    | exact trivial
    | (refine Ar.exact (by (try simp only [nc] at *); omega) (by (try simp only [nc] at *); omega) ?_; cbv; repeat (refine Pz.mk ?_; cbv))
    | (refine CallA.by hP (implPartyPut_ok h.parties (joinP h id cab frm siz tier) hs.2.1 (partyPut h.parties (joinP h id cab frm siz tier)) rfl) ?_; cbv; repeat (refine Pz.mk ?_; cbv))
    | (refine CallA.by hP (implEntryOf_ok h.rules (joinP h id cab frm siz tier) h.now hs.1 (entryOf h.rules (joinP h id cab frm siz tier) h.now) rfl (entOkB h.rules (joinP h id cab frm siz tier) h.now) rfl) ?_; cbv; repeat (refine Pz.mk ?_; cbv))
    | (refine Pz.mk ?_; cbv)
    | (refine TabG.mk ?_ (by kernel_rfl) ?_; rotate_left; cbv; rotate_right)
    | refine ⟨rfl, ?_⟩
    | exact rfl
    | fail
  apply cutK
  · intro hk
    repeat' first
      | exact trivial
      | (refine Ob.mk (hcb) ?_; cbv; repeat (refine Pz.mk ?_; cbv))
      | (refine CallA.by hP (implQueuePut_ok (cabOf h cab).row (entryOf h.rules (joinP h id cab frm siz tier) h.now) hp.1 (insL entLt (entryOf h.rules (joinP h id cab frm siz tier) h.now) (cabOf h cab).row) hq (qPutB (cabOf h cab).row (entryOf h.rules (joinP h id cab frm siz tier) h.now)) rfl) ?_; cbv; repeat (refine Pz.mk ?_; cbv))
      | (refine Sv.mk (fun _ => (joinRow h (joinP h id cab frm siz tier)).cabins) (rfl) ?_; cbv; (repeat (refine Pz.mk ?_; cbv)); exact hk)
      | (refine Pz.mk ?_; cbv)
      | (refine TabG.mk ?_ (by kernel_rfl) ?_; rotate_left; cbv; rotate_right)
      | refine ⟨rfl, ?_⟩
      | refine And.intro ?_ ?_
      | exact rfl
      | fail
  all_goals
    refine Br.split (fun h4 => ?_) (fun h4 => ?_) <;> (cbv; repeat (refine Pz.mk ?_; cbv))
    · have h4 : (frm != -1) = true := h4
      have h5 : frm ≠ -1 := by simpa using h4
      have hfi : 0 ≤ frm ∧ frm < (h.cabins.length : Int) := frm_in (p := (joinP h id cab frm siz tier)) hf h5
      have hfi2 : 0 ≤ frm ∧ frm < ((joinRow h (joinP h id cab frm siz tier)).cabins.length : Int) := by rw [joinRow, rowTo, setC_len]; exact hfi
      obtain rfl : x = { setC (joinRow h (joinP h id cab frm siz tier)) frm (tieC (cabOf (joinRow h (joinP h id cab frm siz tier)) frm) siz) with todo := todoPut h.todo cab } := hx.trans (by rw [joinTo, tieTo, if_neg (show ¬ (joinP h id cab frm siz tier).frm = -1 from h5)]; rfl)
      apply cutK
      · intro hk
        repeat' first
          | exact trivial
          | (refine Ob.mk (hfi2) ?_; cbv; repeat (refine Pz.mk ?_; cbv))
          | (refine CallA.by hP (implSeatsTie_ok (cabOf (joinRow h (joinP h id cab frm siz tier)) frm).seats siz (seatsOf (cabOf (joinRow h (joinP h id cab frm siz tier)) frm).seats siz 0 0 0 1) rfl (seatsB (cabOf (joinRow h (joinP h id cab frm siz tier)) frm).seats siz 0 0 0 1) rfl) ?_; cbv; repeat (refine Pz.mk ?_; cbv))
          | (refine Sv.mk (fun _ => (setC (joinRow h (joinP h id cab frm siz tier)) frm (tieC (cabOf (joinRow h (joinP h id cab frm siz tier)) frm) siz)).cabins) (rfl) ?_; cbv; (repeat (refine Pz.mk ?_; cbv)); exact hk)
          | (refine Pz.mk ?_; cbv)
          | (refine TabG.mk ?_ (by kernel_rfl) ?_; rotate_left; cbv; rotate_right)
          | refine ⟨rfl, ?_⟩
          | refine And.intro ?_ ?_
          | exact rfl
          | fail
      repeat' first
        | exact trivial
        | (refine CallA.by hP (implTodoPut_ok h.todo cab hs.2.2.2.1 (todoPut h.todo cab) rfl) ?_; cbv; repeat (refine Pz.mk ?_; cbv))
        | (refine Pz.mk ?_; cbv)
        | (refine TabG.mk ?_ (by kernel_rfl) ?_; rotate_left; cbv; rotate_right)
        | refine ⟨rfl, ?_⟩
        | refine And.intro ?_ ?_
        | exact rfl
        | fail
    · have h4 : (frm != -1) = false := h4
      have h5 : frm = -1 := by simpa using h4
      obtain rfl : x = { joinRow h (joinP h id cab frm siz tier) with todo := todoPut h.todo cab } := hx.trans (by rw [joinTo, tieTo, if_pos (show (joinP h id cab frm siz tier).frm = -1 from h5)]; rfl)
      repeat' first
        | exact trivial
        | (refine CallA.by hP (implTodoPut_ok h.todo cab hs.2.2.2.1 (todoPut h.todo cab) rfl) ?_; cbv; repeat (refine Pz.mk ?_; cbv))
        | (refine Pz.mk ?_; cbv)
        | (refine TabG.mk ?_ (by kernel_rfl) ?_; rotate_left; cbv; rotate_right)
        | refine ⟨rfl, ?_⟩
        | refine And.intro ?_ ?_
        | exact rfl
        | fail
end Go.Proofs.YtnenmkiabclncaaGreat

