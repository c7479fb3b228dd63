/- Parts of a proof. No conditions. -/

import Derived.Test.YtlochjpjlhkjaaaG19
import Derived.Test.YtlochjpjlhkjaaaG18
import Derived.Test.YtlochjpjlhkjaaaG23
set_option linter.unusedSimpArgs false
set_option linter.unusedVariables false
namespace Go.Proofs.Ytlochjpjlhkjaaa
open Go
set_option maxRecDepth 100000
def spN (p : Pin) : Nat := (p.tm.tmod 9).toNat
def spOf (w : List (List Pin)) (p : Pin) : List Pin := w.getD (spN p) []
def wIns (w : List (List Pin)) (p : Pin) : List (List Pin) := w.set (spN p) (insL pinLt p (spOf w p))
def wPutB (w : List (List Pin)) (p : Pin) : Bool := wheelOkB w && (decide (1 ≤ p.tm) && wheelOkB (wIns w p))
def wPut (w : List (List Pin)) (p : Pin) : List (List Pin) := if wPutB w p = true then wIns w p else w
theorem wG {w : List (List Pin)} (h : wheelOkB w = true) : WhG w := of_decide_eq_true h
theorem sp_in {w : List (List Pin)} (h : wheelOkB w = true) {p : Pin} (hp : 1 ≤ p.tm) : (0 ≤ p.tm.tmod 9 ∧ p.tm.tmod 9 < (w.length : Int)) ∧ spN p < w.length := by
  have h9 := (wG h).len
  have h1 : 0 ≤ p.tm.tmod 9 := Int.tmod_nonneg _ (by omega)
  have h2 : p.tm.tmod 9 < 9 := Int.tmod_lt_of_pos _ (by omega)
  have e : spN p = (p.tm.tmod 9).toNat := rfl
  omega
theorem getD_get {α : Type} {l : List α} {d : α} {k : Nat} (h : k < l.length) : l[k]? = some (l.getD k d) := by
  rw [List.getD_eq_getElem?_getD, List.getElem?_eq_getElem h]; rfl
theorem sp_few {w : List (List Pin)} (h : wheelOkB w = true) {k : Nat} (hk : k < w.length) : (w.getD k []).length ≤ 10 := by
  have h1 := (wG h).few
  have h2 : ∀ {w : List (List Pin)} {l : List Pin}, l ∈ w → l.length ≤ w.flatten.length := by
    intro w l hl
    induction w with
    | nil => cases hl
    | cons a w ih =>
      simp only [List.flatten_cons, List.length_append]
      rcases List.mem_cons.1 hl with rfl | hl
      · omega
      · have := ih hl; omega
  exact Nat.le_trans (h2 (List.mem_of_getElem? (getD_get hk))) h1
theorem wIns_small {w : List (List Pin)} (h : wheelOkB w = true) {p : Pin} {k : Nat} (hk : k < w.length) : smallSpk (w.set k (insL pinLt p (w.getD k []))) := by
  have h9 := (wG h).len
  refine ⟨by rw [List.length_set]; show _ ≤ 1048576; omega, fun x hx => ?_⟩
  rcases List.mem_or_eq_of_mem_set hx with q | rfl
  · obtain ⟨j, hj⟩ := List.mem_iff_getElem?.1 q
    have := sp_few h (lt_of_get hj)
    rw [List.getD_eq_getElem?_getD, hj] at this
    have this : x.length ≤ 10 := this
    show _ ≤ 1048576; omega
  · rw [insL_len]
    have := sp_few h hk
    show _ ≤ 1048576; omega
theorem SmP.small {w : List (List Pin)} (h : smallSpk w) : SmP w := SmP.of h.1 h.2
theorem wPut_no {w : List (List Pin)} {p : Pin} {x : List (List Pin)} {b : Bool} (hx : x = wPut w p) (hb : b = wPutB w p) (e : wPutB w p = false) : x = w ∧ b = false := ⟨hx.trans (if_neg (by rw [e]; simp)), hb.trans e⟩
set_option maxHeartbeats 1000000 in
theorem specWheelPut_ok (w : List (List Pin)) (p : Pin) (hw : smallSpk w) (x : List (List Pin)) (hx : x = wPut w p) (b : Bool) (hb : b = wPutB w p) : Spec Try.prog 50 [whA w, eA .pin p] (Ret (.tup [(true, [.own .spk fun _ => x]), (false, [.bool fun _ => b])])) := by
  refine spec_of tabOk Try.func50 rfl rfl (fr := true) (fun _ => by kernel_rfl) fun P hP hA => ?_
  cbv
  repeat (refine Pz.mk ?_; cbv)
  refine CallA.by hP (l9Copy_ok w hw) ?_
  cbv
  repeat (refine Pz.mk ?_; cbv)
  refine CallA.by hP (specWheelOk_ok w (SmP.small hw) (wheelOkB w) rfl) ?_
  cbv
  repeat (refine Pz.mk ?_; cbv)
  refine Br.split (fun k0 => ?_) (fun k0 => ?_) <;> (cbv; repeat (refine Pz.mk ?_; cbv))
  · have k0 : (!wheelOkB w) = true := k0
    have k0 : wheelOkB w = false := by simpa using k0
    have e := wPut_no hx hb (by rw [wPutB, k0]; rfl)
    obtain rfl : x = w := e.1
    obtain rfl : b = false := e.2
    repeat' first | exact trivial | refine ⟨rfl, ?_⟩ | fail
  have k0 : (!wheelOkB w) = false := k0
  have k0 : wheelOkB w = true := by simpa using k0
  refine Br.dec (fun h1 => ?_) (fun h1 => ?_) <;> (cbv; repeat (refine Pz.mk ?_; cbv))
  · have h1 : p.tm < 1 := h1
    have e := wPut_no hx hb (by rw [wPutB, k0, decide_eq_false (by omega : ¬ 1 ≤ p.tm)]; rfl)
    obtain rfl : x = w := e.1
    obtain rfl : b = false := e.2
    repeat' first | exact trivial | refine ⟨rfl, ?_⟩ | fail
  have h1 : ¬ p.tm < 1 := h1
  have h1 : 1 ≤ p.tm := by omega
  have hh := sp_in k0 h1
  have hf : (spOf w p).length ≤ 10 := sp_few k0 hh.2
  have si : smallSpk (wIns w p) := wIns_small k0 hh.2
  repeat' first
    | exact trivial
    | (refine Ob.mk (by decide) ?_; cbv)
    | (refine Ob.mk (hh.1) ?_; cbv)
    | (refine CallA.by hP (l9Put_ok (spOf w p) p (by show _ ≤ 1048576; omega)) ?_; cbv)
    | (refine Sv.mk (fun _ => wIns w p) (rfl) ?_; cbv)
    | (refine CallA.by hP (specWheelOk_ok (wIns w p) (SmP.small si) (wheelOkB (wIns w p)) rfl) ?_; cbv)
    | (refine Pz.mk ?_; cbv) | (refine TabG.mk ?_ (by kernel_rfl) ?_; rotate_left; cbv; rotate_right) | refine ⟨rfl, ?_⟩ | refine And.intro ?_ ?_ | exact rfl | fail
  all_goals
    refine Br.split (fun k2 => ?_) (fun k2 => ?_) <;> (cbv; repeat (refine Pz.mk ?_; cbv))
    · have k2 : (!wheelOkB (wIns w p)) = true := k2
      have k2 : wheelOkB (wIns w p) = false := by simpa using k2
      have e := wPut_no hx hb (by rw [wPutB, k2]; simp)
      obtain rfl : x = w := e.1
      obtain rfl : b = false := e.2
      refine CallA.by hP (l9Copy_ok x hw) ?_
      cbv
      repeat (refine Pz.mk ?_; cbv)
      repeat' first | exact trivial | refine ⟨rfl, ?_⟩ | fail
    have k2 : (!wheelOkB (wIns w p)) = false := k2
    have k2 : wheelOkB (wIns w p) = true := by simpa using k2
    have eb : wPutB w p = true := by rw [wPutB, k0, k2, decide_eq_true h1]; rfl
    obtain rfl : b = true := hb.trans eb
    obtain rfl : x = wIns w p := hx.trans (if_pos eb)
    repeat' first | exact trivial | refine ⟨rfl, ?_⟩ | fail
end Go.Proofs.Ytlochjpjlhkjaaa

