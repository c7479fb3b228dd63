/- Parts of a proof. No conditions. -/

import Derived.Test.YtnenmkiabclncaaGreatG25
import Derived.Test.YtnenmkiabclncaaGreatG22
set_option linter.unusedSimpArgs false
set_option linter.unusedVariables false
namespace Go.Proofs.YtnenmkiabclncaaGreat
open Go
set_option maxRecDepth 100000
set_option maxHeartbeats 1000000 in
theorem l13Drop_ok (h : House) (p : Party) (hc : 0 ≤ p.cab ∧ p.cab < (h.cabins.length : Int)) (hw : smallSpk (cabOf h p.cab).spoke) : SpecM Tryz.prog 110 [hoO h, eA .pty p] (hoBs h) (RetM (hoR fun _ => dropTo h p) []) := by
  refine specM_of tabOk Tryz.func110 rfl rfl (fr := true) (fun _ => by kernel_rfl) rfl rfl fun P hP hA hB => ?_
  cbv
  repeat (refine Pz.mk ?_; cbv)
  repeat' first
    | exact trivial
    | (refine Ob.mk (hc) ?_; cbv; repeat (refine Pz.mk ?_; cbv))
    | (refine CallA.by hP (specSeatsDrop_ok (cabOf h p.cab).seats p.siz (seatsOf (cabOf h p.cab).seats p.siz 1 (-1) 0 0) rfl (seatsB (cabOf h p.cab).seats p.siz 1 (-1) 0 0) rfl) ?_; cbv; repeat (refine Pz.mk ?_; cbv))
    | (refine CallA.by hP (specWheelCut_ok (cabOf h p.cab).spoke (offP p) hw (wCut (cabOf h p.cab).spoke (offP p)) rfl (wCutB (cabOf h p.cab).spoke (offP p)) rfl) ?_; cbv; repeat (refine Pz.mk ?_; cbv))
    | (refine Sv.mk (fun _ => (dropTo h p).cabins) (rfl) ?_; cbv; repeat (refine Pz.mk ?_; cbv))
    | (refine Pz.mk ?_; cbv)
    | (refine TabG.mk ?_ (by kernel_rfl) ?_; rotate_left; cbv; rotate_right)
    | refine ⟨rfl, ?_⟩
    | refine And.intro ?_ ?_
    | exact rfl
    | fail
set_option maxHeartbeats 1000000 in
theorem l13Gone_ok (h : House) (p : Party) (hl : h.parties.length ≤ bigN) (hf : p.frm = -1 ∨ ∃ f, FrmOk h p f) : SpecM Tryz.prog 105 [hoO h, eA .pty p] (hoBs h) (RetM (hoR fun _ => goneTo h p) []) := by
  refine specM_of tabOk Tryz.func105 rfl rfl (fr := true) (fun _ => by kernel_rfl) rfl rfl fun P hP hA hB => ?_
  cbv
  repeat (refine Pz.mk ?_; cbv)
  refine CallA.by hP (specPartyCut_ok h.parties p.id hl (partyCut h.parties p.id) rfl) ?_
  cbv
  repeat (refine Pz.mk ?_; cbv)
  refine Br.dec (fun h0 => ?_) (fun h0 => ?_) <;> (cbv; repeat (refine Pz.mk ?_; cbv))
  · have h0 : p.frm ≥ 0 := h0
    obtain ⟨f, hf⟩ := hf.resolve_left (by omega)
    have oi : 0 ≤ p.frm ∧ p.frm < (h.cabins.length : Int) := by have := hf.lt; have := hf.eq; omega
    have ee : goneTo h p = setC { h with parties := partyCut h.parties p.id } p.frm (untieC (cabOf h p.frm) p.siz) := by
      rw [goneTo, untieTo, if_neg (by omega)]; rfl
    rw [ee]
    repeat' first
      | exact trivial
      | (refine Ob.mk (oi) ?_; cbv; repeat (refine Pz.mk ?_; cbv))
      | (refine CallA.by hP (specSeatsUntie_ok (cabOf h p.frm).seats p.siz (seatsOf (cabOf h p.frm).seats p.siz 0 0 0 (-1)) rfl (seatsB (cabOf h p.frm).seats p.siz 0 0 0 (-1)) rfl) ?_; cbv; repeat (refine Pz.mk ?_; cbv))
      | (refine Sv.mk (fun _ => (setC h p.frm (untieC (cabOf h p.frm) p.siz)).cabins) (rfl) ?_; cbv; repeat (refine Pz.mk ?_; cbv))
      | (refine Pz.mk ?_; cbv)
      | (refine TabG.mk ?_ (by kernel_rfl) ?_; rotate_left; cbv; rotate_right)
      | refine ⟨rfl, ?_⟩
      | refine And.intro ?_ ?_
      | exact rfl
      | fail
  · have h0 : ¬ p.frm ≥ 0 := h0
    have h1 : p.frm = -1 := hf.resolve_right (fun ⟨f, hf⟩ => by have := hf.eq; omega)
    have ee : goneTo h p = { h with parties := partyCut h.parties p.id } := by rw [goneTo, untieTo, if_pos h1]
    rw [ee]
    cbv
    repeat (refine Pz.mk ?_; cbv)
    repeat' first | exact trivial | refine ⟨rfl, ?_⟩ | fail
end Go.Proofs.YtnenmkiabclncaaGreat
namespace Go.Proofs.YtnenmkiabclncaaGreat
open Go
set_option maxRecDepth 100000
set_option maxHeartbeats 1000000 in
theorem l14FreeI_ok (h : House) (k : Int) (hk : 0 ≤ k ∧ k < (h.cabins.length : Int)) (n : Int) (ht : h.todo.length ≤ bigN) : SpecM Tryz.prog 95 [hoO h, iA k, iA n] (hoBs h) (RetM (hoR fun _ => freeTo h k n) []) := by
  refine specM_of tabOk Tryz.func95 rfl rfl (fr := true) (fun _ => by kernel_rfl) rfl rfl fun P hP hA hB => ?_
  cbv
  repeat (refine Pz.mk ?_; cbv)
  repeat' first
    | exact trivial
    | (refine Ob.mk (hk) ?_; cbv; repeat (refine Pz.mk ?_; cbv))
    | (refine CallA.by hP (specSeatsFree_ok (h.cabins.getD k.toNat default).seats n (seatsOf (cabOf h k).seats n 1 0 (-1) 0) rfl (seatsB (cabOf h k).seats n 1 0 (-1) 0) rfl) ?_; cbv; repeat (refine Pz.mk ?_; cbv))
    | (refine Sv.mk (fun _ => (freeTo h k n).cabins) (rfl) ?_; cbv; repeat (refine Pz.mk ?_; cbv))
    | (refine CallA.by hP (specTodoPut_ok h.todo k ht (todoPut h.todo k) rfl) ?_; cbv; repeat (refine Pz.mk ?_; cbv))
    | (refine Pz.mk ?_; cbv)
    | (refine TabG.mk ?_ (by kernel_rfl) ?_; rotate_left; cbv; rotate_right)
    | refine ⟨rfl, ?_⟩
    | refine And.intro ?_ ?_
    | exact rfl
    | fail
end Go.Proofs.YtnenmkiabclncaaGreat
namespace Go.Proofs.YtnenmkiabclncaaGreat
open Go
set_option maxRecDepth 100000
set_option maxHeartbeats 1000000 in
theorem l13Row_ok (h : House) (p : Party) (hc : 0 ≤ p.cab ∧ p.cab < (h.cabins.length : Int)) (hs : h.rules.seats.length ≤ bigN) (hw : (cabOf h p.cab).row.length ≤ bigN) : SpecM Tryz.prog 116 [hoO h, eA .pty p] (hoBs h) (RetM (hoR fun _ => rowTo h p) []) := by
  refine specM_of tabOk Tryz.func116 rfl rfl (fr := true) (fun _ => by kernel_rfl) rfl rfl fun P hP hA hB => ?_
  cbv
  repeat (refine Pz.mk ?_; cbv)
  repeat' first
    | exact trivial
    | (refine CallA.by hP (specEntryOf_ok h.rules p h.now hs (entryOf h.rules p h.now) rfl (entOkB h.rules p h.now) rfl) ?_; cbv; repeat (refine Pz.mk ?_; cbv))
    | (refine Ob.mk (hc) ?_; cbv; repeat (refine Pz.mk ?_; cbv))
    | (refine CallA.by hP (l7Put_ok (cabOf h p.cab).row (entryOf h.rules p h.now) hw) ?_; cbv; repeat (refine Pz.mk ?_; cbv))
    | (refine Sv.mk (fun _ => (rowTo h p).cabins) (rfl) ?_; cbv; repeat (refine Pz.mk ?_; cbv))
    | (refine Pz.mk ?_; cbv)
    | (refine TabG.mk ?_ (by kernel_rfl) ?_; rotate_left; cbv; rotate_right)
    | refine ⟨rfl, ?_⟩
    | refine And.intro ?_ ?_
    | exact rfl
    | fail
end Go.Proofs.YtnenmkiabclncaaGreat

