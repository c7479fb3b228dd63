/- Parts of a proof. No conditions. -/

import Derived.Test.YtnenmkiabclncaaGreatG19
import Derived.Test.YtnenmkiabclncaaGreatG18
import Derived.Test.YtnenmkiabclncaaGreatG23
set_option linter.unusedSimpArgs false
set_option linter.unusedVariables false
namespace Go.Proofs.YtnenmkiabclncaaGreat
open Go
set_option maxRecDepth 100000
def pinIx (l : List Pin) (p : Pin) : Int := atOf (fun q => decide (q = p)) l
def spN (p : Pin) : Nat := (p.tm.tmod 9).toNat
def spOf (w : List (List Pin)) (p : Pin) : List Pin := w.getD (spN p) []
def wCutB (w : List (List Pin)) (p : Pin) : Bool := wheelOkB w && (decide (1 ≤ p.tm) && decide (0 ≤ pinIx (spOf w p) p))
def wCut (w : List (List Pin)) (p : Pin) : List (List Pin) := if wCutB w p = true then w.set (spN p) (cutAt (spOf w p) (pinIx (spOf w p) p)) else w
theorem pin_iff {a b : Pin} : a = b ↔ a.tm = b.tm ∧ a.pid = b.pid := by
  constructor
  · rintro rfl; exact ⟨rfl, rfl⟩
  · intro ⟨h1, h2⟩
    cases a; cases b
    simp only at h1 h2
    subst h1 h2
    rfl
theorem wG {w : List (List Pin)} (h : wheelOkB w = true) : WhG w := of_decide_eq_true h
theorem wG_iff {w : List (List Pin)} : wheelOkB w = true ↔ WhG w := ⟨wG, fun h => decide_eq_true h⟩
theorem sp_in {w : List (List Pin)} (h : wheelOkB w = true) {p : Pin} (hp : 1 ≤ p.tm) : (0 ≤ p.tm.tmod 9 ∧ p.tm.tmod 9 < (w.length : Int)) ∧ spN p < w.length := by
  have h9 := (wG h).len
  have h1 : 0 ≤ p.tm.tmod 9 := Int.tmod_nonneg _ (by omega)
  have h2 : p.tm.tmod 9 < 9 := Int.tmod_lt_of_pos _ (by omega)
  have e : spN p = (p.tm.tmod 9).toNat := rfl
  omega
theorem mem_allP {w : List (List Pin)} {k : Nat} {l : List Pin} (hk : w[k]? = some l) {q : Pin} (hq : q ∈ l) : q ∈ allP w := List.mem_flatten.2 ⟨l, List.mem_of_getElem? hk, hq⟩
theorem getD_get {α : Type} {l : List α} {d : α} {k : Nat} (h : k < l.length) : l[k]? = some (l.getD k d) := by
  rw [List.getD_eq_getElem?_getD, List.getElem?_eq_getElem h]; rfl
theorem pin_not {w : List (List Pin)} (h : wheelOkB w = true) {p : Pin} (hp : pinOkB p = false) {k : Nat} (hk : k < w.length) : pinIx (w.getD k []) p < 0 := by
  rcases atOf_cases (fun q : Pin => decide (q = p)) (w.getD k []) with ⟨e, _⟩ | ⟨i, hi, _, e, _⟩
  · have e : pinIx (w.getD k []) p = -1 := e
    omega
  · have e : (w.getD k [])[i] = p := of_decide_eq_true e
    have h1 := (wG h).ok p (mem_allP (getD_get hk) (e ▸ List.getElem_mem hi))
    rw [hp] at h1; cases h1
theorem sp_few {w : List (List Pin)} (h : wheelOkB w = true) {k : Nat} (hk : k < w.length) : (w.getD k []).length ≤ 10 := by
  have h1 := (wG h).few
  have h2 : ∀ {w : List (List Pin)} {l : List Pin}, l ∈ w → l.length ≤ w.flatten.length := by
    intro w l hl
    induction w with
    | nil => cases hl
    | cons a w ih =>
      simp only [List.flatten_cons, List.length_append]
      rcases List.mem_cons.1 hl with rfl | hl
      · omega
      · have := ih hl; omega
  exact Nat.le_trans (h2 (List.mem_of_getElem? (getD_get hk))) h1
theorem SmP.small {w : List (List Pin)} (h : smallSpk w) : SmP w := SmP.of h.1 h.2
theorem indexPin_ok (a : List Pin) (v : Pin) (x : Int) (hx : x = pinIx a v) : Spec Tryz.prog 180 [lA .pin a, eA .pin v] (Ret (iR fun _ => x)) := by
  refine spec_of tabOk Tryz.func180 rfl rfl (fr := true) (fun _ => by kernel_rfl) fun P hP hA => ?_
  obtain ⟨⟨ha, _⟩, _⟩ := hA
  have ha : a.length ≤ 9223372036854775807 := ha
  cbv
  repeat (refine Pz.mk ?_; cbv)
  refine LoopE.by (X := Nat) (fun i => [(0, lA .pin a), (3, pN 0), (7, nT fun _ => a.length), (8, nT fun _ => i)]) (fun _ => [(0, .box ((cellsT .pin fun _ => v).map .lf))]) (fun i => i ≤ a.length ∧ ∀ (j : Nat) y, j < i → a[j]? = some y → decide (y = v) = false) (fun i _ => a.length - i) 0 ⟨Nat.zero_le _, fun j y hj => by omega⟩ ?_ ?_
  · cbv
    repeat (refine Pz.mk ?_; cbv)
    repeat' first | exact trivial | refine ⟨rfl, ?_⟩ | fail
  · intro i ⟨hi, hn⟩
    cbv
    repeat (refine Pz.mk ?_; cbv)
    refine Br.dec (fun h2 => ?_) (fun h2 => ?_) <;> (cbv; repeat (refine Pz.mk ?_; cbv))
    · have h2 : i < a.length := by simpa using h2
      refine ⟨a[i], by simp, get_cast a h2, ?_⟩
      cbv
      repeat (refine Pz.mk ?_; cbv)
      refine Br.split (fun h3 => ?_) (fun h3 => ?_) <;> (cbv; repeat (refine Pz.mk ?_; cbv))
      · have h3 : a[i] = v := pin_iff.2 (by simp at h3; exact ⟨h3.1.symm, h3.2.symm⟩)
        refine ⟨?_, trivial⟩
        exact (hx.trans (atOf_hit (p := fun y : Pin => decide (y = v)) h2 (decide_eq_true h3) hn)).symm
      · have h3 : ¬ a[i] = v := fun h => by rw [h] at h3; simp at h3
        refine Ar.exact (by (try simp only [nc] at *); omega) (by (try simp only [nc] at *); omega) ?_
        cbv
        repeat (refine Pz.mk ?_; cbv)
        refine NextE.by (i + 1) ?_ ?_ ?_
        · show a.length - (i + 1) < a.length - i
          omega
        · exact ⟨h2, pre_step h2 hn (decide_eq_false h3)⟩
        · cbv
          repeat (refine Pz.mk ?_; cbv)
          repeat' first | exact trivial | refine ⟨rfl, ?_⟩ | fail
    · have h2 : a.length ≤ i := by simp at h2; omega
      refine ⟨?_, trivial⟩
      exact (hx.trans (atOf_miss (pre_all h2 hn))).symm
theorem sp_get {w : List (List Pin)} {p : Pin} (hk : spN p < w.length) : w[(p.tm.tmod 9).toNat]? = some (spOf w p) := getD_get hk
theorem sp_set {w : List (List Pin)} {p : Pin} (hk : spN p < w.length) : w.set (spN p) (spOf w p) = w := by
  have e : spOf w p = w[spN p] := by
    show w.getD (spN p) [] = _
    rw [List.getD_eq_getElem?_getD, List.getElem?_eq_getElem hk]; rfl
  rw [e]; exact List.set_getElem_self hk
theorem tm_of {p : Pin} (k1 : pinOkB p = true) : 1 ≤ p.tm := by
  simp only [pinOkB, Bool.and_eq_true] at k1
  exact (isIn_ok k1.1).1
theorem wCut_no {w : List (List Pin)} {p : Pin} {x : List (List Pin)} {b : Bool} (hx : x = wCut w p) (hb : b = wCutB w p) (e : wCutB w p = false) : x = w ∧ b = false := ⟨hx.trans (if_neg (by rw [e]; simp)), hb.trans e⟩
theorem wCut_at {w : List (List Pin)} {p : Pin} {i : Nat} (e : pinIx (spOf w p) p = (i : Int)) (eb : wCutB w p = true) : w.set (spN p) ((spOf w p).take i ++ (spOf w p).drop (i + 1)) = wCut w p := by
  rw [wCut, if_pos eb, cutAt, e, if_neg (by omega), Int.toNat_natCast]
theorem wCutB_of {w : List (List Pin)} {p : Pin} (k0 : wheelOkB w = true) (h1 : 1 ≤ p.tm) : wCutB w p = decide (0 ≤ pinIx (spOf w p) p) := by
  rw [wCutB, k0, decide_eq_true h1]; rfl
theorem wCutB_pin {w : List (List Pin)} {p : Pin} (k0 : wheelOkB w = true) (k1 : pinOkB p = false) : wCutB w p = false := by
  by_cases h1 : 1 ≤ p.tm
  · obtain ⟨_, hk⟩ := sp_in k0 h1
    rw [wCutB_of k0 h1]
    have := pin_not k0 k1 hk
    exact decide_eq_false (by show ¬ 0 ≤ pinIx (w.getD (spN p) []) p; omega)
  · rw [wCutB, k0, decide_eq_false h1]; rfl
set_option maxHeartbeats 1000000 in
theorem implWheelCut_ok (w : List (List Pin)) (p : Pin) (hw : smallSpk w) (x : List (List Pin)) (hx : x = wCut w p) (b : Bool) (hb : b = wCutB w p) : Spec Tryz.prog 107 [whA w, eA .pin p] (Ret (.tup [(true, [.own .spk fun _ => x]), (false, [.bool fun _ => b])])) := by
  refine spec_of tabOk Tryz.func107 rfl rfl (fr := true) (fun _ => by kernel_rfl) fun P hP hA => ?_
  cbv
  repeat (refine Pz.mk ?_; cbv)
  refine CallA.by hP (copyWheel_ok w hw) ?_
  cbv
  repeat (refine Pz.mk ?_; cbv)
  refine CallA.by hP (implWheelOk_ok w (SmP.small hw) (wheelOkB w) rfl) ?_
  cbv
  repeat (refine Pz.mk ?_; cbv)
  refine Br.split (fun k0 => ?_) (fun k0 => ?_) <;> (cbv; repeat (refine Pz.mk ?_; cbv))
  · have k0 : (!wheelOkB w) = true := k0
    have k0 : wheelOkB w = false := by simpa using k0
    have e := wCut_no hx hb (by rw [wCutB, k0]; rfl)
    obtain rfl : x = w := e.1
    obtain rfl : b = false := e.2
    repeat' first | exact trivial | refine ⟨rfl, ?_⟩ | fail
  have k0 : (!wheelOkB w) = false := k0
  have k0 : wheelOkB w = true := by simpa using k0
  refine CallA.by hP (pinOk_ok p) ?_
  cbv
  repeat (refine Pz.mk ?_; cbv)
  refine Br.split (fun k1 => ?_) (fun k1 => ?_) <;> (cbv; repeat (refine Pz.mk ?_; cbv))
  · have k1 : (!pinOkB p) = true := k1
    have k1 : pinOkB p = false := by simpa using k1
    have e := wCut_no hx hb (wCutB_pin k0 k1)
    obtain rfl : x = w := e.1
    obtain rfl : b = false := e.2
    repeat' first | exact trivial | refine ⟨rfl, ?_⟩ | fail
  have k1 : (!pinOkB p) = false := k1
  have k1 : pinOkB p = true := by simpa using k1
  have h1 := tm_of k1
  have hh := sp_in k0 h1
  repeat' first
    | exact trivial
    | (refine Ob.mk (by decide) ?_; cbv; repeat (refine Pz.mk ?_; cbv))
    | (refine Ob.mk (hh.1) ?_; cbv; repeat (refine Pz.mk ?_; cbv))
    | (refine CallA.by hP (indexPin_ok (spOf w p) p (pinIx (spOf w p) p) rfl) ?_; cbv; repeat (refine Pz.mk ?_; cbv))
    | (refine Pz.mk ?_; cbv)
    | (refine TabG.mk ?_ (by kernel_rfl) ?_; rotate_left; cbv; rotate_right)
    | refine ⟨rfl, ?_⟩
    | refine And.intro ?_ ?_
    | exact rfl
    | fail
  refine Br.dec (fun h2 => ?_) (fun h2 => ?_) <;> (cbv; repeat (refine Pz.mk ?_; cbv))
  · have h2 : pinIx (spOf w p) p < 0 := h2
    have e := wCut_no hx hb (by rw [wCutB_of k0 h1]; exact decide_eq_false (by omega))
    have ex : x = w := e.1
    obtain rfl : b = false := e.2
    have ex2 : w.set (spN p) (spOf w p) = x := by rw [ex]; exact sp_set hh.2
    repeat' first
      | exact trivial
      | (refine ⟨ex2, ?_⟩)
      | (refine Pz.mk ?_; cbv)
      | (refine TabG.mk ?_ (by kernel_rfl) ?_; rotate_left; cbv; rotate_right)
      | refine ⟨rfl, ?_⟩
      | refine And.intro ?_ ?_
      | exact rfl
      | fail
  have h2 : ¬ pinIx (spOf w p) p < 0 := h2
  rcases atOf_cases (fun q : Pin => decide (q = p)) (spOf w p) with ⟨e, _⟩ | ⟨i, hi, e, _, _⟩
  · have : pinIx (spOf w p) p = -1 := e
    omega
  have e : pinIx (spOf w p) p = (i : Int) := e
  have eb : wCutB w p = true := by rw [wCutB_of k0 h1]; exact decide_eq_true (by omega)
  obtain rfl : b = true := hb.trans eb
  have ex : w.set (spN p) ((spOf w p).take i ++ (spOf w p).drop (i + 1)) = x := (wCut_at e eb).trans hx.symm
  have hf : (spOf w p).length ≤ 10 := sp_few k0 hh.2
  rw [e]
  cbv
  repeat (refine Pz.mk ?_; cbv)
  repeat' first
    | exact trivial
    | (refine Ob.mk (by decide) ?_; cbv; repeat (refine Pz.mk ?_; cbv))
    | (refine Ar.exact (by (try simp only [nc] at *); omega) (by (try simp only [nc] at *); omega) ?_; cbv; repeat (refine Pz.mk ?_; cbv))
    | (refine Ob.mk (hh.1) ?_; cbv; repeat (refine Pz.mk ?_; cbv))
    | (refine CallM.by hP (deletePin_ok (spOf w p) i hi) ?_; cbv; repeat (refine Pz.mk ?_; cbv))
    | (refine Sv.mk (fun _ => x) (ex) ?_; cbv; repeat (refine Pz.mk ?_; cbv))
    | (refine Pz.mk ?_; cbv)
    | (refine TabG.mk ?_ (by kernel_rfl) ?_; rotate_left; cbv; rotate_right)
    | refine ⟨rfl, ?_⟩
    | refine And.intro ?_ ?_
    | exact rfl
    | fail
set_option maxHeartbeats 1000000 in
theorem specWheelCut_ok (w : List (List Pin)) (p : Pin) (hw : smallSpk w) (x : List (List Pin)) (hx : x = wCut w p) (b : Bool) (hb : b = wCutB w p) : Spec Tryz.prog 104 [whA w, eA .pin p] (Ret (.tup [(true, [.own .spk fun _ => x]), (false, [.bool fun _ => b])])) := by
  refine spec_of tabOk Tryz.func104 rfl rfl (fr := true) (fun _ => by kernel_rfl) fun P hP hA => ?_
  cbv
  repeat (refine Pz.mk ?_; cbv)
  refine CallA.by hP (l9Copy_ok w hw) ?_
  cbv
  repeat (refine Pz.mk ?_; cbv)
  refine CallA.by hP (specWheelOk_ok w (SmP.small hw) (wheelOkB w) rfl) ?_
  cbv
  repeat (refine Pz.mk ?_; cbv)
  refine Br.split (fun k0 => ?_) (fun k0 => ?_) <;> (cbv; repeat (refine Pz.mk ?_; cbv))
  · have k0 : (!wheelOkB w) = true := k0
    have k0 : wheelOkB w = false := by simpa using k0
    have e := wCut_no hx hb (by rw [wCutB, k0]; rfl)
    obtain rfl : x = w := e.1
    obtain rfl : b = false := e.2
    repeat' first | exact trivial | refine ⟨rfl, ?_⟩ | fail
  have k0 : (!wheelOkB w) = false := k0
  have k0 : wheelOkB w = true := by simpa using k0
  refine Br.dec (fun h1 => ?_) (fun h1 => ?_) <;> (cbv; repeat (refine Pz.mk ?_; cbv))
  · have h1 : p.tm < 1 := h1
    have e := wCut_no hx hb (by rw [wCutB, k0, decide_eq_false (by omega : ¬ 1 ≤ p.tm)]; rfl)
    obtain rfl : x = w := e.1
    obtain rfl : b = false := e.2
    repeat' first | exact trivial | refine ⟨rfl, ?_⟩ | fail
  have h1 : ¬ p.tm < 1 := h1
  have h1 : 1 ≤ p.tm := by omega
  have hh := sp_in k0 h1
  have hg := sp_get hh.2
  have hf : (spOf w p).length ≤ 10 := sp_few k0 hh.2
  generalize hl : spOf w p = l at hg hf
  repeat' first
    | exact trivial
    | (refine Ob.mk (by decide) ?_; cbv; repeat (refine Pz.mk ?_; cbv))
    | (refine Pz.mk ?_; cbv)
    | (refine TabG.mk ?_ (by kernel_rfl) ?_; rotate_left; cbv; rotate_right)
    | refine ⟨rfl, ?_⟩
    | refine And.intro ?_ ?_
    | exact rfl
    | fail
  refine LoopE.by (X := Nat) (fun i => [(2, pN 0), (3, pN 1), (4, pN 2), (6, pN 3), (7, iT fun _ => p.tm.tmod 9), (8, nT fun _ => i)]) (fun _ => [(0, .box [.lf (.list .spk fun _ => w)]), (1, .box ((cellsT .pin fun _ => p).map .lf)), (2, .box [.nil]), (3, .box [.own 4]), (4, ownB' .spk fun _ => w)]) (fun i => i ≤ l.length ∧ ∀ (j : Nat) y, j < i → l[j]? = some y → decide (y = p) = false) (fun i _ => l.length - i) 0 ⟨Nat.zero_le _, fun j y hj => by omega⟩ ?_ ?_
  · cbv
    repeat (refine Pz.mk ?_; cbv)
    repeat' first | exact trivial | refine ⟨rfl, ?_⟩ | fail
  · intro i ⟨hi, hn⟩
    cbv
    repeat (refine Pz.mk ?_; cbv)
    repeat' first
      | exact trivial
      | (refine Ix.mk (l) (hh.1.1) (hg) ?_; cbv; repeat (refine Pz.mk ?_; cbv))
      | (refine Pz.mk ?_; cbv)
      | (refine TabG.mk ?_ (by kernel_rfl) ?_; rotate_left; cbv; rotate_right)
      | refine ⟨rfl, ?_⟩
      | refine And.intro ?_ ?_
      | exact rfl
      | fail
    refine Br.dec (fun h2 => ?_) (fun h2 => ?_) <;> (cbv; repeat (refine Pz.mk ?_; cbv))
    rotate_left
    · have h2 : l.length ≤ i := by simp at h2; omega
      have e4 : pinIx (spOf w p) p = -1 := by rw [hl]; exact atOf_miss (pre_all h2 hn)
      have e := wCut_no hx hb (by rw [wCutB_of k0 h1, e4]; rfl)
      obtain rfl : x = w := e.1
      obtain rfl : b = false := e.2
      repeat' first | exact trivial | refine ⟨rfl, ?_⟩ | fail
    have h2 : i < l.length := by simpa using h2
    repeat' first
      | exact trivial
      | (refine Ix.mk (l) (hh.1.1) (hg) ?_; cbv; repeat (refine Pz.mk ?_; cbv))
      | (refine Ix.mk l[i] (by simp) (get_cast l h2) ?_; cbv; repeat (refine Pz.mk ?_; cbv))
      | (refine Pz.mk ?_; cbv)
      | (refine TabG.mk ?_ (by kernel_rfl) ?_; rotate_left; cbv; rotate_right)
      | refine ⟨rfl, ?_⟩
      | refine And.intro ?_ ?_
      | exact rfl
      | fail
    refine Br.split (fun h3 => ?_) (fun h3 => ?_) <;> (cbv; repeat (refine Pz.mk ?_; cbv))
    · have h3 : l[i] = p := pin_iff.2 (by simp at h3; exact h3)
      have e : pinIx (spOf w p) p = (i : Int) := by rw [hl]; exact atOf_hit (p := fun y : Pin => decide (y = p)) h2 (decide_eq_true h3) hn
      have eb : wCutB w p = true := by rw [wCutB_of k0 h1]; exact decide_eq_true (by omega)
      obtain rfl : b = true := hb.trans eb
      have ex := (wCut_at e eb).trans hx.symm
      rw [hl] at ex
      have o1 : 0 ≤ (0 : Int) ∧ (0 : Int) ≤ (i : Int) ∧ (i : Int) ≤ (l.length : Int) := ⟨by omega, by omega, by omega⟩
      have o2 : (([] : List Pin).length + ((l.take ((i : Int)).toNat).drop ((0 : Int)).toNat).length) * 16 ≤ 140737488355328 := by
        rw [List.length_drop, List.length_take]; simp only [List.length_nil]; omega
      have o3 : 0 ≤ (i : Int) + 1 ∧ (i : Int) + 1 ≤ (l.length : Int) ∧ (l.length : Int) ≤ (l.length : Int) := ⟨by omega, by omega, by omega⟩
      have o4 : (([] ++ (l.take ((i : Int)).toNat).drop ((0 : Int)).toNat : List Pin).length + ((l.take ((l.length : Int)).toNat).drop ((i : Int) + 1).toNat).length) * 16 ≤ 140737488355328 := by
        rw [List.length_append, List.length_drop, List.length_take, List.length_drop, List.length_take]; simp only [List.length_nil]; omega
      have fin : w.set (p.tm.tmod 9).toNat ([] ++ (l.take ((i : Int)).toNat).drop ((0 : Int)).toNat ++ (l.take ((l.length : Int)).toNat).drop ((i : Int) + 1).toNat) = x := by
        rw [← ex, show ((i : Int) + 1).toNat = i + 1 by omega]; simp [spN]
      repeat' first
        | exact trivial
        | (refine Ob.mk (o1) ?_; cbv; repeat (refine Pz.mk ?_; cbv))
        | (refine Ob.mk (o3) ?_; cbv; repeat (refine Pz.mk ?_; cbv))
        | (refine Ob.mk (o2) ?_; cbv; repeat (refine Pz.mk ?_; cbv))
        | (refine Ob.mk (o4) ?_; cbv; repeat (refine Pz.mk ?_; cbv))
        | (refine Ob.mk (hh.1) ?_; cbv; repeat (refine Pz.mk ?_; cbv))
        | (refine Ix.mk (l) (hh.1.1) (hg) ?_; cbv; repeat (refine Pz.mk ?_; cbv))
        | (refine Ar.exact (by (try simp only [nc] at *); omega) (by (try simp only [nc] at *); omega) ?_; cbv; repeat (refine Pz.mk ?_; cbv))
        | (refine Sv.mk (fun _ => x) (fin) ?_; cbv; repeat (refine Pz.mk ?_; cbv))
        | (refine Pz.mk ?_; cbv)
        | (refine TabG.mk ?_ (by kernel_rfl) ?_; rotate_left; cbv; rotate_right)
        | refine ⟨rfl, ?_⟩
        | refine And.intro ?_ ?_
        | exact rfl
        | fail
    · have h3 : ¬ l[i] = p := fun h => by rw [h] at h3; simp at h3
      refine Ar.exact (by (try simp only [nc] at *); omega) (by (try simp only [nc] at *); omega) ?_
      cbv
      repeat (refine Pz.mk ?_; cbv)
      refine NextE.by (i + 1) ?_ ?_ ?_
      · show l.length - (i + 1) < l.length - i
        omega
      · exact ⟨h2, pre_step h2 hn (decide_eq_false h3)⟩
      · cbv
        repeat (refine Pz.mk ?_; cbv)
        repeat' first | exact trivial | refine ⟨rfl, ?_⟩ | fail
end Go.Proofs.YtnenmkiabclncaaGreat

