/- Parts of a proof. No conditions. -/

import Derived.Test.YtnenmkiabclncaaGreatG14
import Derived.Test.YtnenmkiabclncaaGreatG05
import Derived.Test.YtnenmkiabclncaaGreatG15
import Derived.Test.YtnenmkiabclncaaGreatG07
set_option linter.unusedSimpArgs false
set_option linter.unusedVariables false
namespace Go.Proofs.YtnenmkiabclncaaGreat
open Go
set_option maxRecDepth 100000
def cntOf (h : House) (k : Int) : Int := ((zAll (cntIn k) h.parties : Nat) : Int)
def inHouse (h : House) (k : Int) : Bool := isIn k 0 ((h.cabins.length : Int) - 1)
def joinV (h : House) (q : Req) : Int :=
  if inHouse h q.cab = false then 4 else if isIn q.frm (-1) ((h.cabins.length : Int) - 1) = false then 4 else if q.frm = q.cab then 4
  else if isIn q.siz 1 h.rules.size = false then 5
  else if q.tier ≥ h.rules.tiers then 6
  else if isIn q.id 1 999 = false then 7
  else if pAt h.parties q.id ≥ 0 then 8
  else if cntOf h q.cab ≥ h.rules.room then 9
  else if q.frm ≠ -1 ∧ looseC (cabOf h q.frm) < q.siz then 10
  else if h.turn > 1000000 then 11 else 0
def freeV (h : House) (q : Req) : Int :=
  if inHouse h q.cab = false then 4 else if isIn q.siz 1 60 = false then 5 else if looseC (cabOf h q.cab) < q.siz then 12 else 0
def answerV (h : House) (id : Int) : Int :=
  if pAt h.parties id < 0 then 7 else if (ptyOf h id).st ≠ 2 then 13 else if dueB (ptyOf h id) h.now = true then 14 else 0
def pickV (h : House) (who : Int) : Int :=
  if who ≥ h.rules.crew then 16 else if ((h.jobs[who.toNat]?).getD 0) = -1 ∧ h.todo = [] then 17 else 0
def verdictOf (h : House) (q : Req) : Int :=
  if houseOkB h = false then 1 else if isIn q.kind 1 7 = false then 2 else if reqOk q = false then 3
  else if q.kind = 1 then joinV h q
  else if q.kind = 2 then (if pAt h.parties q.id < 0 then 7 else 0)
  else if q.kind = 3 then freeV h q
  else if q.kind = 4 ∨ q.kind = 5 then answerV h q.id
  else if q.kind = 6 then (if h.now = 1000000 then 15 else 0)
  else pickV h q.id
theorem field_in {n : Int} (h : field n = true) : 0 ≤ n ∧ n ≤ 9999 := by simpa [field] using h
structure JoinR (q : Req) : Prop where
  id : 0 ≤ q.id ∧ q.id ≤ 9999
  cab : 0 ≤ q.cab ∧ q.cab ≤ 9999
  frm : -1 ≤ q.frm ∧ q.frm ≤ 9999
  siz : 0 ≤ q.siz ∧ q.siz ≤ 9999
  tier : 0 ≤ q.tier ∧ q.tier ≤ 9999
theorem joinR {q : Req} (h : reqOk q = true) (hk : q.kind = 1) : JoinR q := by
  rw [reqOk, if_pos hk] at h
  simp only [Bool.and_eq_true, decide_eq_true_eq] at h
  exact ⟨field_in h.1.1.1.1, field_in h.1.1.1.2, h.1.1.2, field_in h.1.2, field_in h.2⟩
theorem freeR {q : Req} (h : reqOk q = true) (hk : q.kind = 3) : (0 ≤ q.cab ∧ q.cab ≤ 9999) ∧ 0 ≤ q.siz ∧ q.siz ≤ 9999 := by
  rw [reqOk, if_neg (by omega), if_neg (by omega), if_pos hk] at h
  simp only [Bool.and_eq_true] at h
  exact ⟨field_in h.1.1, field_in h.1.2⟩
theorem pickR {q : Req} (h : reqOk q = true) (hk : q.kind = 7) : 0 ≤ q.id ∧ q.id ≤ 9999 := by
  rw [reqOk, if_neg (by omega), if_pos (by omega)] at h
  simp only [Bool.and_eq_true] at h
  exact field_in h.1
theorem vd_bad {h : House} {q : Req} (h0 : houseOkB h = false) : verdictOf h q = 1 := if_pos h0
theorem vd_kind {h : House} {q : Req} (h0 : houseOkB h = true) (h1 : isIn q.kind 1 7 = false) : verdictOf h q = 2 := by simp [verdictOf, h0, h1]
theorem vd_form {h : House} {q : Req} (h0 : houseOkB h = true) (h1 : isIn q.kind 1 7 = true) (h2 : reqOk q = false) : verdictOf h q = 3 := by simp [verdictOf, h0, h1, h2]
theorem vd_join {h : House} {q : Req} (h0 : houseOkB h = true) (h2 : reqOk q = true) (k : q.kind = 1) : verdictOf h q = joinV h q := by simp [verdictOf, h0, h2, k, isIn]
theorem vd_cancel {h : House} {q : Req} (h0 : houseOkB h = true) (h2 : reqOk q = true) (k : q.kind = 2) : verdictOf h q = if pAt h.parties q.id < 0 then 7 else 0 := by simp [verdictOf, h0, h2, k, isIn]
theorem vd_free {h : House} {q : Req} (h0 : houseOkB h = true) (h2 : reqOk q = true) (k : q.kind = 3) : verdictOf h q = freeV h q := by simp [verdictOf, h0, h2, k, isIn]
theorem vd_answer {h : House} {q : Req} (h0 : houseOkB h = true) (h2 : reqOk q = true) (k : q.kind = 4 ∨ q.kind = 5) : verdictOf h q = answerV h q.id := by
  rcases k with k | k <;> simp [verdictOf, h0, h2, k, isIn]
theorem vd_tick {h : House} {q : Req} (h0 : houseOkB h = true) (h2 : reqOk q = true) (k : q.kind = 6) : verdictOf h q = if h.now = 1000000 then 15 else 0 := by simp [verdictOf, h0, h2, k, isIn]
theorem vd_pick {h : House} {q : Req} (h0 : houseOkB h = true) (h2 : reqOk q = true) (k : q.kind = 7) : verdictOf h q = pickV h q.id := by simp [verdictOf, h0, h2, k, isIn]
theorem inH_no {h : House} {k : Int} (q : (h.cabins.length : Int) ≤ k) : inHouse h k = false := by simp [inHouse, isIn]; omega
theorem inH_yes {h : House} {k : Int} (q0 : 0 ≤ k) (q : k < (h.cabins.length : Int)) : inHouse h k = true := by simp [inHouse, isIn]; omega
theorem inF_no {h : House} {k : Int} (q : (h.cabins.length : Int) ≤ k) : isIn k (-1) ((h.cabins.length : Int) - 1) = false := by simp [isIn]; omega
theorem inF_yes {h : House} {k : Int} (q0 : -1 ≤ k) (q : k < (h.cabins.length : Int)) : isIn k (-1) ((h.cabins.length : Int) - 1) = true := by simp [isIn]; omega
theorem frm_has {h : House} {k : Int} (k0 : houseOkB h = true) (q : isIn k (-1) ((h.cabins.length : Int) - 1) = true) (n : k ≠ -1) : hasCabB h k = true := by
  have q := isIn_ok q
  rw [hasCabB, k0]; simp [isIn]; omega
theorem cab_has {h : House} {k : Int} (k0 : houseOkB h = true) (q : inHouse h k = true) : hasCabB h k = true := by rw [hasCabB, k0]; exact q
theorem todo0 {l : List Int} (h : (((l.length : Nat) : Int) == 0) = true) : l = [] := by
  cases l with
  | nil => rfl
  | cons a l => simp at h; omega
theorem todo1 {l : List Int} (h : (((l.length : Nat) : Int) == 0) = false) : ¬ l = [] := by
  intro e; subst e; simp at h
set_option maxHeartbeats 4000000 in
theorem l12Join_ok (h : House) (q : Req) (hs : smallHo h) (k0 : houseOkB h = true) (jr : JoinR q) (x : Int) (hx : x = joinV h q) : Spec Tryz.prog 77 [hoA h, eA .req q] (Ret (iR fun _ => x)) := by
  have s2 := hs.2.1
  have hc : h.cabins.length ≤ 1048576 := hs.2.2.1.1
  refine spec_of tabOk Tryz.func77 rfl rfl (fr := true) (fun _ => by kernel_rfl) fun P hP hA => ?_
  cbv
  repeat (refine Pz.mk ?_; cbv)
  refine Br.dec (fun j0 => ?_) (fun j0 => ?_) <;> (cbv; repeat (refine Pz.mk ?_; cbv))
  · have j0 : q.cab ≥ (h.cabins.length : Int) := j0
    refine ⟨?_, trivial⟩
    exact (hx.trans (if_pos (inH_no j0))).symm
  have j0 : ¬ q.cab ≥ (h.cabins.length : Int) := j0
  have j0 : inHouse h q.cab = true := inH_yes jr.cab.1 (by omega)
  have hx1 := hx.trans (if_neg (by rw [j0]; simp))
  refine Br.dec (fun j1 => ?_) (fun j1 => ?_) <;> (cbv; repeat (refine Pz.mk ?_; cbv))
  · have j1 : q.frm ≥ (h.cabins.length : Int) := j1
    refine ⟨?_, trivial⟩
    exact (hx1.trans (if_pos (inF_no j1))).symm
  have j1 : ¬ q.frm ≥ (h.cabins.length : Int) := j1
  have j1 : isIn q.frm (-1) ((h.cabins.length : Int) - 1) = true := inF_yes jr.frm.1 (by omega)
  have hx1 := hx1.trans (if_neg (by rw [j1]; simp))
  refine Br.split (fun j2 => ?_) (fun j2 => ?_) <;> (cbv; repeat (refine Pz.mk ?_; cbv))
  · have j2 : (q.frm == q.cab) = true := j2
    refine ⟨?_, trivial⟩
    exact (hx1.trans (if_pos (by simpa using j2))).symm
  have j2 : (q.frm == q.cab) = false := j2
  have j2 : ¬ q.frm = q.cab := by simpa using j2
  refine CallA.by hP (l1InB_ok q.siz 1 h.rules.size) ?_
  cbv
  repeat (refine Pz.mk ?_; cbv)
  refine Br.split (fun j3 => ?_) (fun j3 => ?_) <;> (cbv; repeat (refine Pz.mk ?_; cbv))
  · have j3 : (!isIn q.siz 1 h.rules.size) = true := j3
    have j3 : isIn q.siz 1 h.rules.size = false := by simpa using j3
    refine ⟨?_, trivial⟩
    exact (hx1.trans ((if_neg j2).trans (if_pos j3))).symm
  have j3 : (!isIn q.siz 1 h.rules.size) = false := j3
  have j3 : isIn q.siz 1 h.rules.size = true := by simpa using j3
  have hx := hx1.trans ((if_neg j2).trans (if_neg (by rw [j3]; simp)))
  refine Br.dec (fun j4 => ?_) (fun j4 => ?_) <;> (cbv; repeat (refine Pz.mk ?_; cbv))
  · have j4 : q.tier ≥ h.rules.tiers := j4
    refine ⟨?_, trivial⟩
    exact (hx.trans (if_pos j4)).symm
  have j4 : ¬ q.tier ≥ h.rules.tiers := j4
  have hx := hx.trans (if_neg j4)
  refine CallA.by hP (l1InB_ok q.id 1 999) ?_
  cbv
  repeat (refine Pz.mk ?_; cbv)
  refine Br.split (fun j5 => ?_) (fun j5 => ?_) <;> (cbv; repeat (refine Pz.mk ?_; cbv))
  · have j5 : (!isIn q.id 1 999) = true := j5
    have j5 : isIn q.id 1 999 = false := by simpa using j5
    refine ⟨?_, trivial⟩
    exact (hx.trans (if_pos j5)).symm
  have j5 : (!isIn q.id 1 999) = false := j5
  have j5 : isIn q.id 1 999 = true := by simpa using j5
  have hx := hx.trans (if_neg (by rw [j5]; simp))
  refine CallA.by hP (specPartyAt_ok h q.id (pAt h.parties q.id) rfl) ?_
  cbv
  repeat (refine Pz.mk ?_; cbv)
  refine Br.dec (fun j6 => ?_) (fun j6 => ?_) <;> (cbv; repeat (refine Pz.mk ?_; cbv))
  · have j6 : pAt h.parties q.id ≥ 0 := j6
    refine ⟨?_, trivial⟩
    exact (hx.trans (if_pos j6)).symm
  have j6 : ¬ pAt h.parties q.id ≥ 0 := j6
  have hx := hx.trans (if_neg j6)
  refine CallA.by hP (specCountIn_ok h.parties q.cab s2) ?_
  cbv
  repeat (refine Pz.mk ?_; cbv)
  refine Br.dec (fun j7 => ?_) (fun j7 => ?_) <;> (cbv; repeat (refine Pz.mk ?_; cbv))
  · have j7 : cntOf h q.cab ≥ h.rules.room := j7
    refine ⟨?_, trivial⟩
    exact (hx.trans (if_pos j7)).symm
  have j7 : ¬ cntOf h q.cab ≥ h.rules.room := j7
  have jv : (if cntOf h q.cab ≥ h.rules.room then (9 : Int) else if q.frm ≠ -1 ∧ looseC (cabOf h q.frm) < q.siz then 10 else if h.turn > 1000000 then 11 else 0) = if q.frm ≠ -1 ∧ looseC (cabOf h q.frm) < q.siz then 10 else if h.turn > 1000000 then 11 else 0 := if_neg j7
  refine Br.dec (fun j8 => ?_) (fun j8 => ?_) <;> (cbv; repeat (refine Pz.mk ?_; cbv))
  · have j8 : q.frm ≠ -1 := by have j8 : q.frm ≥ 0 := j8; omega
    refine CallA.by hP (l12Loose_ok h q.frm (frm_has k0 j1 j8) (looseC (cabOf h q.frm)) rfl) ?_
    cbv
    repeat (refine Pz.mk ?_; cbv)
    refine Br.dec (fun j9 => ?_) (fun j9 => ?_) <;> (cbv; repeat (refine Pz.mk ?_; cbv))
    · have j9 : looseC (cabOf h q.frm) < q.siz := j9
      refine ⟨?_, trivial⟩
      exact (hx.trans (jv.trans (if_pos ⟨j8, j9⟩))).symm
    have j9 : ¬ looseC (cabOf h q.frm) < q.siz := j9
    refine Br.dec (fun j10 => ?_) (fun j10 => ?_) <;> (cbv; repeat (refine Pz.mk ?_; cbv))
    · have j10 : h.turn > 1000000 := j10
      refine ⟨?_, trivial⟩
      exact (hx.trans (by rw [jv, if_neg fun z => j9 z.2, if_pos j10])).symm
    · have j10 : ¬ h.turn > 1000000 := j10
      refine ⟨?_, trivial⟩
      exact (hx.trans (by rw [jv, if_neg fun z => j9 z.2, if_neg j10])).symm
  · have j8 : q.frm = -1 := by have j8 : ¬ q.frm ≥ 0 := j8; have := jr.frm; omega
    refine Br.dec (fun j10 => ?_) (fun j10 => ?_) <;> (cbv; repeat (refine Pz.mk ?_; cbv))
    · have j10 : h.turn > 1000000 := j10
      refine ⟨?_, trivial⟩
      exact (hx.trans (by rw [jv, if_neg fun z => z.1 j8, if_pos j10])).symm
    · have j10 : ¬ h.turn > 1000000 := j10
      refine ⟨?_, trivial⟩
      exact (hx.trans (by rw [jv, if_neg fun z => z.1 j8, if_neg j10])).symm
set_option maxHeartbeats 4000000 in
theorem l12Answer_ok (h : House) (id : Int) (hs : smallHo h) (k0 : houseOkB h = true) (x : Int) (hx : x = answerV h id) : Spec Tryz.prog 80 [hoA h, iA id] (Ret (iR fun _ => x)) := by
  have s2 := hs.2.1
  have hc : h.cabins.length ≤ 1048576 := hs.2.2.1.1
  have hg := houseOk_iff.1 k0
  refine spec_of tabOk Tryz.func80 rfl rfl (fr := true) (fun _ => by kernel_rfl) fun P hP hA => ?_
  cbv
  repeat (refine Pz.mk ?_; cbv)
  refine CallA.by hP (specPartyAt_ok h id (pAt h.parties id) rfl) ?_
  cbv
  repeat (refine Pz.mk ?_; cbv)
  refine Br.dec (fun a0 => ?_) (fun a0 => ?_) <;> (cbv; repeat (refine Pz.mk ?_; cbv))
  · have a0 : pAt h.parties id < 0 := a0
    refine ⟨?_, trivial⟩
    exact (hx.trans (if_pos a0)).symm
  have a0 : ¬ pAt h.parties id < 0 := a0
  have hx := hx.trans (if_neg a0)
  obtain ⟨i, c, g⟩ := known hg (by omega : 0 ≤ pAt h.parties id)
  have hi := g.lt
  have og : 0 ≤ pAt h.parties id := by omega
  have gg : h.parties[(pAt h.parties id).toNat]? = some h.parties[i] := by rw [g.at_, Int.toNat_natCast]; exact List.getElem?_eq_getElem hi
  rw [g.pty] at hx
  refine ⟨h.parties[i], og, gg, ?_⟩
  cbv
  repeat (refine Pz.mk ?_; cbv)
  refine Br.split (fun a1 => ?_) (fun a1 => ?_) <;> (cbv; repeat (refine Pz.mk ?_; cbv))
  · have a1 : (h.parties[i].st != 2) = true := a1
    refine ⟨?_, trivial⟩
    exact (hx.trans (if_pos (by simpa using a1))).symm
  have a1 : (h.parties[i].st != 2) = false := a1
  have hx := hx.trans (if_neg (by simpa using a1))
  refine ⟨h.parties[i], og, gg, ?_⟩
  cbv
  repeat (refine Pz.mk ?_; cbv)
  refine CallA.by hP (specDue_ok h.parties[i] h.now) ?_
  cbv
  repeat (refine Pz.mk ?_; cbv)
  refine Br.split (fun a2 => ?_) (fun a2 => ?_) <;> (cbv; repeat (refine Pz.mk ?_; cbv))
  · have a2 : dueB h.parties[i] h.now = true := a2
    refine ⟨?_, trivial⟩
    exact (hx.trans (if_pos a2)).symm
  · have a2 : dueB h.parties[i] h.now = false := a2
    refine ⟨?_, trivial⟩
    exact (hx.trans (if_neg (by rw [a2]; simp))).symm
set_option maxHeartbeats 4000000 in
theorem specVerdict_ok (h : House) (q : Req) (hs : smallHo h) (x : Int) (hx : x = verdictOf h q) : Spec Tryz.prog 29 [hoA h, eA .req q] (Ret (iR fun _ => x)) := by
  have s2 := hs.2.1
  have hc : h.cabins.length ≤ 1048576 := hs.2.2.1.1
  refine spec_of tabOk Tryz.func29 rfl rfl (fr := true) (fun _ => by kernel_rfl) fun P hP hA => ?_
  cbv
  repeat (refine Pz.mk ?_; cbv)
  refine CallA.by hP (specHouseOk_ok h hs (houseOkB h) rfl) ?_
  cbv
  repeat (refine Pz.mk ?_; cbv)
  refine Br.split (fun k0 => ?_) (fun k0 => ?_) <;> (cbv; repeat (refine Pz.mk ?_; cbv))
  · have k0 : (!houseOkB h) = true := k0
    refine ⟨?_, trivial⟩
    exact (hx.trans (vd_bad (by simpa using k0))).symm
  have k0 : (!houseOkB h) = false := k0
  have k0 : houseOkB h = true := by simpa using k0
  refine CallA.by hP (l1InB_ok q.kind 1 7) ?_
  cbv
  repeat (refine Pz.mk ?_; cbv)
  refine Br.split (fun k1 => ?_) (fun k1 => ?_) <;> (cbv; repeat (refine Pz.mk ?_; cbv))
  · have k1 : (!isIn q.kind 1 7) = true := k1
    refine ⟨?_, trivial⟩
    exact (hx.trans (vd_kind k0 (by simpa using k1))).symm
  have k1 : (!isIn q.kind 1 7) = false := k1
  have k1 : isIn q.kind 1 7 = true := by simpa using k1
  refine CallA.by hP (specReqOk_ok q (reqOk q) rfl) ?_
  cbv
  repeat (refine Pz.mk ?_; cbv)
  refine Br.split (fun k2 => ?_) (fun k2 => ?_) <;> (cbv; repeat (refine Pz.mk ?_; cbv))
  · have k2 : (!reqOk q) = true := k2
    refine ⟨?_, trivial⟩
    exact (hx.trans (vd_form k0 k1 (by simpa using k2))).symm
  have k2 : (!reqOk q) = false := k2
  have k2 : reqOk q = true := by simpa using k2
  have hg := houseOk_iff.1 k0
  have kr := isIn_ok k1
  refine Br.split (fun c1 => ?_) (fun c1 => ?_) <;> (cbv; repeat (refine Pz.mk ?_; cbv))
  · have kk : q.kind = 1 := by have c1 : (q.kind == 1) = true := c1; simpa using c1
    have jr := joinR k2 kk
    have hx := hx.trans (vd_join k0 k2 kk)
    refine CallA.by hP (l12Join_ok h q hs k0 jr x hx) ?_
    cbv
    repeat (refine Pz.mk ?_; cbv)
    repeat' first | exact trivial | refine ⟨rfl, ?_⟩ | fail
  have c1 : ¬ q.kind = 1 := by have c1 : (q.kind == 1) = false := c1; simpa using c1
  refine Br.split (fun c2 => ?_) (fun c2 => ?_) <;> (cbv; repeat (refine Pz.mk ?_; cbv))
  · have kk : q.kind = 2 := by have c2 : (q.kind == 2) = true := c2; simpa using c2
    have hx := hx.trans (vd_cancel k0 k2 kk)
    refine CallA.by hP (specPartyAt_ok h q.id (pAt h.parties q.id) rfl) ?_
    cbv
    repeat (refine Pz.mk ?_; cbv)
    refine Br.dec (fun a0 => ?_) (fun a0 => ?_) <;> (cbv; repeat (refine Pz.mk ?_; cbv))
    · have a0 : pAt h.parties q.id < 0 := a0
      refine ⟨?_, trivial⟩
      exact (hx.trans (if_pos a0)).symm
    · have a0 : ¬ pAt h.parties q.id < 0 := a0
      refine ⟨?_, trivial⟩
      exact (hx.trans (if_neg a0)).symm
  have c2 : ¬ q.kind = 2 := by have c2 : (q.kind == 2) = false := c2; simpa using c2
  refine Br.split (fun c3 => ?_) (fun c3 => ?_) <;> (cbv; repeat (refine Pz.mk ?_; cbv))
  · have kk : q.kind = 3 := by have c3 : (q.kind == 3) = true := c3; simpa using c3
    have hx := hx.trans (vd_free k0 k2 kk)
    have fr := freeR k2 kk
    refine Br.dec (fun j0 => ?_) (fun j0 => ?_) <;> (cbv; repeat (refine Pz.mk ?_; cbv))
    · have j0 : q.cab ≥ (h.cabins.length : Int) := j0
      refine ⟨?_, trivial⟩
      exact (hx.trans (if_pos (inH_no j0))).symm
    have j0 : ¬ q.cab ≥ (h.cabins.length : Int) := j0
    have j0 : inHouse h q.cab = true := inH_yes fr.1.1 (by omega)
    have hx := hx.trans (if_neg (by rw [j0]; simp))
    refine CallA.by hP (l1InB_ok q.siz 1 60) ?_
    cbv
    repeat (refine Pz.mk ?_; cbv)
    refine Br.split (fun f1 => ?_) (fun f1 => ?_) <;> (cbv; repeat (refine Pz.mk ?_; cbv))
    · have f1 : (!isIn q.siz 1 60) = true := f1
      refine ⟨?_, trivial⟩
      exact (hx.trans (if_pos (by simpa using f1))).symm
    have f1 : (!isIn q.siz 1 60) = false := f1
    have hx := hx.trans (if_neg (by simpa using f1))
    refine CallA.by hP (l12Loose_ok h q.cab (cab_has k0 j0) (looseC (cabOf h q.cab)) rfl) ?_
    cbv
    repeat (refine Pz.mk ?_; cbv)
    refine Br.dec (fun f2 => ?_) (fun f2 => ?_) <;> (cbv; repeat (refine Pz.mk ?_; cbv))
    · have f2 : looseC (cabOf h q.cab) < q.siz := f2
      refine ⟨?_, trivial⟩
      exact (hx.trans (if_pos f2)).symm
    · have f2 : ¬ looseC (cabOf h q.cab) < q.siz := f2
      refine ⟨?_, trivial⟩
      exact (hx.trans (if_neg f2)).symm
  have c3 : ¬ q.kind = 3 := by have c3 : (q.kind == 3) = false := c3; simpa using c3
  refine Br.split (fun c4 => ?_) (fun c4 => ?_) <;> (cbv; repeat (refine Pz.mk ?_; cbv))
  · have kk : q.kind = 4 := by have c4 : (q.kind == 4) = true := c4; simpa using c4
    have hx := hx.trans (vd_answer k0 k2 (Or.inl kk))
    refine Br.split (fun d4 => ?_) (fun d4 => ?_) <;> (cbv; repeat (refine Pz.mk ?_; cbv))
    · refine CallA.by hP (l12Answer_ok h q.id hs k0 x hx) ?_
      cbv
      repeat (refine Pz.mk ?_; cbv)
      repeat' first | exact trivial | refine ⟨rfl, ?_⟩ | fail
    · exfalso
      have d4 : (q.kind == 4) = false := d4
      rw [kk] at d4; cases d4
  have c4 : ¬ q.kind = 4 := by have c4 : (q.kind == 4) = false := c4; simpa using c4
  refine Br.split (fun c5 => ?_) (fun c5 => ?_) <;> (cbv; repeat (refine Pz.mk ?_; cbv))
  · have kk : q.kind = 5 := by have c5 : (q.kind == 5) = true := c5; simpa using c5
    have hx := hx.trans (vd_answer k0 k2 (Or.inr kk))
    refine CallA.by hP (l12Answer_ok h q.id hs k0 x hx) ?_
    cbv
    repeat (refine Pz.mk ?_; cbv)
    repeat' first | exact trivial | refine ⟨rfl, ?_⟩ | fail
  have c5 : ¬ q.kind = 5 := by have c5 : (q.kind == 5) = false := c5; simpa using c5
  refine Br.split (fun c6 => ?_) (fun c6 => ?_) <;> (cbv; repeat (refine Pz.mk ?_; cbv))
  · have kk : q.kind = 6 := by have c6 : (q.kind == 6) = true := c6; simpa using c6
    have hx := hx.trans (vd_tick k0 k2 kk)
    have hn := isIn_ok hg.now
    refine Br.dec (fun t0 => ?_) (fun t0 => ?_) <;> (cbv; repeat (refine Pz.mk ?_; cbv))
    · have t0 : h.now ≥ 1000000 := t0
      refine ⟨?_, trivial⟩
      exact (hx.trans (if_pos (by omega))).symm
    · have t0 : ¬ h.now ≥ 1000000 := t0
      refine ⟨?_, trivial⟩
      exact (hx.trans (if_neg (by omega))).symm
  have c6 : ¬ q.kind = 6 := by have c6 : (q.kind == 6) = false := c6; simpa using c6
  refine Br.split (fun c7 => ?_) (fun c7 => ?_) <;> (cbv; repeat (refine Pz.mk ?_; cbv))
  · have kk : q.kind = 7 := by have c7 : (q.kind == 7) = true := c7; simpa using c7
    have hx := hx.trans (vd_pick k0 k2 kk)
    have pr := pickR k2 kk
    refine Br.dec (fun p0 => ?_) (fun p0 => ?_) <;> (cbv; repeat (refine Pz.mk ?_; cbv))
    · have p0 : q.id ≥ h.rules.crew := p0
      refine ⟨?_, trivial⟩
      exact (hx.trans (if_pos p0)).symm
    have p0 : ¬ q.id ≥ h.rules.crew := p0
    have hx := hx.trans (if_neg p0)
    have cr := hg.crew
    have hj : q.id.toNat < h.jobs.length := by omega
    have op : 0 ≤ q.id := pr.1
    have gp : h.jobs[q.id.toNat]? = some h.jobs[q.id.toNat] := List.getElem?_eq_getElem hj
    rw [gp] at hx
    have hx : x = if h.jobs[q.id.toNat] = -1 ∧ h.todo = [] then 17 else 0 := hx
    have jj := isIn_ok (hg.jobs.jobs _ (List.getElem_mem hj))
    refine ⟨h.jobs[q.id.toNat], op, gp, ?_⟩
    cbv
    repeat (refine Pz.mk ?_; cbv)
    refine Br.dec (fun p1 => ?_) (fun p1 => ?_) <;> (cbv; repeat (refine Pz.mk ?_; cbv))
    · have p1 : h.jobs[q.id.toNat] = -1 := by have p1 : h.jobs[q.id.toNat] < 0 := p1; omega
      refine Br.split (fun p2 => ?_) (fun p2 => ?_) <;> (cbv; repeat (refine Pz.mk ?_; cbv))
      · have p2 : (((h.todo.length : Nat) : Int) == 0) = true := p2
        refine ⟨?_, trivial⟩
        exact (hx.trans (if_pos ⟨p1, todo0 p2⟩)).symm
      · have p2 : (((h.todo.length : Nat) : Int) == 0) = false := p2
        refine ⟨?_, trivial⟩
        exact (hx.trans (if_neg fun z => todo1 p2 z.2)).symm
    · have p1 : ¬ h.jobs[q.id.toNat] = -1 := by have p1 : ¬ h.jobs[q.id.toNat] < 0 := p1; omega
      refine ⟨?_, trivial⟩
      exact (hx.trans (if_neg fun z => p1 z.1)).symm
  have c7 : ¬ q.kind = 7 := by have c7 : (q.kind == 7) = false := c7; simpa using c7
  exfalso; omega
set_option maxHeartbeats 4000000 in
theorem implVerdict_ok (h : House) (q : Req) (hs : smallHo h) (x : Int) (hx : x = verdictOf h q) : Spec Tryz.prog 31 [hoA h, eA .req q] (Ret (iR fun _ => x)) := by
  have s2 := hs.2.1
  have hc : h.cabins.length ≤ 1048576 := hs.2.2.1.1
  refine spec_of tabOk Tryz.func31 rfl rfl (fr := true) (fun _ => by kernel_rfl) fun P hP hA => ?_
  cbv
  repeat (refine Pz.mk ?_; cbv)
  refine CallA.by hP (implHouseOk_ok h hs (houseOkB h) rfl) ?_
  cbv
  repeat (refine Pz.mk ?_; cbv)
  refine Br.split (fun k0 => ?_) (fun k0 => ?_) <;> (cbv; repeat (refine Pz.mk ?_; cbv))
  · have k0 : (!houseOkB h) = true := k0
    refine ⟨?_, trivial⟩
    exact (hx.trans (vd_bad (by simpa using k0))).symm
  have k0 : (!houseOkB h) = false := k0
  have k0 : houseOkB h = true := by simpa using k0
  refine CallA.by hP (withinB_ok q.kind 1 7) ?_
  cbv
  repeat (refine Pz.mk ?_; cbv)
  refine Br.split (fun k1 => ?_) (fun k1 => ?_) <;> (cbv; repeat (refine Pz.mk ?_; cbv))
  · have k1 : (!isIn q.kind 1 7) = true := k1
    refine ⟨?_, trivial⟩
    exact (hx.trans (vd_kind k0 (by simpa using k1))).symm
  have k1 : (!isIn q.kind 1 7) = false := k1
  have k1 : isIn q.kind 1 7 = true := by simpa using k1
  refine CallA.by hP (implReqOk_ok q (reqOk q) rfl) ?_
  cbv
  repeat (refine Pz.mk ?_; cbv)
  refine Br.split (fun k2 => ?_) (fun k2 => ?_) <;> (cbv; repeat (refine Pz.mk ?_; cbv))
  · have k2 : (!reqOk q) = true := k2
    refine ⟨?_, trivial⟩
    exact (hx.trans (vd_form k0 k1 (by simpa using k2))).symm
  have k2 : (!reqOk q) = false := k2
  have k2 : reqOk q = true := by simpa using k2
  have hg := houseOk_iff.1 k0
  have kr := isIn_ok k1
  refine Br.split (fun c1 => ?_) (fun c1 => ?_) <;> (cbv; repeat (refine Pz.mk ?_; cbv))
  · have kk : q.kind = 1 := by have c1 : (q.kind == 1) = true := c1; simpa using c1
    have jr := joinR k2 kk
    have hx := hx.trans (vd_join k0 k2 kk)
    refine CallA.by hP (isIndexB_ok q.cab (h.cabins.length : Int) (by omega) (by omega)) ?_
    cbv
    repeat (refine Pz.mk ?_; cbv)
    refine Br.split (fun j0 => ?_) (fun j0 => ?_) <;> (cbv; repeat (refine Pz.mk ?_; cbv))
    · have j0 : (!inHouse h q.cab) = true := j0
      have j0 : inHouse h q.cab = false := by simpa using j0
      refine ⟨?_, trivial⟩
      exact (hx.trans (if_pos j0)).symm
    have j0 : (!inHouse h q.cab) = false := j0
    have j0 : inHouse h q.cab = true := by simpa using j0
    have hx1 := hx.trans (if_neg (by rw [j0]; simp))
    refine Ar.exact (by (try simp only [nc] at *); omega) (by (try simp only [nc] at *); omega) ?_
    cbv
    repeat (refine Pz.mk ?_; cbv)
    refine CallA.by hP (withinB_ok q.frm (-1) ((h.cabins.length : Int) - 1)) ?_
    cbv
    repeat (refine Pz.mk ?_; cbv)
    refine Br.split (fun j1 => ?_) (fun j1 => ?_) <;> (cbv; repeat (refine Pz.mk ?_; cbv))
    · have j1 : (!isIn q.frm (-1) ((h.cabins.length : Int) - 1)) = true := j1
      refine ⟨?_, trivial⟩
      exact (hx1.trans (if_pos (by simpa using j1))).symm
    have j1 : (!isIn q.frm (-1) ((h.cabins.length : Int) - 1)) = false := j1
    have j1 : isIn q.frm (-1) ((h.cabins.length : Int) - 1) = true := by simpa using j1
    have hx1 := hx1.trans (if_neg (by rw [j1]; simp))
    refine Br.split (fun j2 => ?_) (fun j2 => ?_) <;> (cbv; repeat (refine Pz.mk ?_; cbv))
    · have j2 : (q.frm == q.cab) = true := j2
      refine ⟨?_, trivial⟩
      exact (hx1.trans (if_pos (by simpa using j2))).symm
    have j2 : (q.frm == q.cab) = false := j2
    have j2 : ¬ q.frm = q.cab := by simpa using j2
    refine CallA.by hP (withinB_ok q.siz 1 h.rules.size) ?_
    cbv
    repeat (refine Pz.mk ?_; cbv)
    refine Br.split (fun j3 => ?_) (fun j3 => ?_) <;> (cbv; repeat (refine Pz.mk ?_; cbv))
    · have j3 : (!isIn q.siz 1 h.rules.size) = true := j3
      have j3 : isIn q.siz 1 h.rules.size = false := by simpa using j3
      refine ⟨?_, trivial⟩
      exact (hx1.trans ((if_neg j2).trans (if_pos j3))).symm
    have j3 : (!isIn q.siz 1 h.rules.size) = false := j3
    have j3 : isIn q.siz 1 h.rules.size = true := by simpa using j3
    have hx := hx1.trans ((if_neg j2).trans (if_neg (by rw [j3]; simp)))
    refine Br.dec (fun j4 => ?_) (fun j4 => ?_) <;> (cbv; repeat (refine Pz.mk ?_; cbv))
    · have j4 : q.tier ≥ h.rules.tiers := j4
      refine ⟨?_, trivial⟩
      exact (hx.trans (if_pos j4)).symm
    have j4 : ¬ q.tier ≥ h.rules.tiers := j4
    have hx := hx.trans (if_neg j4)
    refine CallA.by hP (withinB_ok q.id 1 999) ?_
    cbv
    repeat (refine Pz.mk ?_; cbv)
    refine Br.split (fun j5 => ?_) (fun j5 => ?_) <;> (cbv; repeat (refine Pz.mk ?_; cbv))
    · have j5 : (!isIn q.id 1 999) = true := j5
      have j5 : isIn q.id 1 999 = false := by simpa using j5
      refine ⟨?_, trivial⟩
      exact (hx.trans (if_pos j5)).symm
    have j5 : (!isIn q.id 1 999) = false := j5
    have j5 : isIn q.id 1 999 = true := by simpa using j5
    have hx := hx.trans (if_neg (by rw [j5]; simp))
    refine CallA.by hP (implPartyAt_ok h q.id (pAt h.parties q.id) rfl) ?_
    cbv
    repeat (refine Pz.mk ?_; cbv)
    refine Br.dec (fun j6 => ?_) (fun j6 => ?_) <;> (cbv; repeat (refine Pz.mk ?_; cbv))
    · have j6 : pAt h.parties q.id ≥ 0 := j6
      refine ⟨?_, trivial⟩
      exact (hx.trans (if_pos j6)).symm
    have j6 : ¬ pAt h.parties q.id ≥ 0 := j6
    have hx := hx.trans (if_neg j6)
    refine CallA.by hP (implCountIn_ok h.parties q.cab s2) ?_
    cbv
    repeat (refine Pz.mk ?_; cbv)
    refine Br.dec (fun j7 => ?_) (fun j7 => ?_) <;> (cbv; repeat (refine Pz.mk ?_; cbv))
    · have j7 : cntOf h q.cab ≥ h.rules.room := j7
      refine ⟨?_, trivial⟩
      exact (hx.trans (if_pos j7)).symm
    have j7 : ¬ cntOf h q.cab ≥ h.rules.room := j7
    have jv : (if cntOf h q.cab ≥ h.rules.room then (9 : Int) else if q.frm ≠ -1 ∧ looseC (cabOf h q.frm) < q.siz then 10 else if h.turn > 1000000 then 11 else 0) = if q.frm ≠ -1 ∧ looseC (cabOf h q.frm) < q.siz then 10 else if h.turn > 1000000 then 11 else 0 := if_neg j7
    refine Br.split (fun j8 => ?_) (fun j8 => ?_) <;> (cbv; repeat (refine Pz.mk ?_; cbv))
    · have j8 : q.frm ≠ -1 := by have j8 : (q.frm != -1) = true := j8; simpa using j8
      refine CallA.by hP (loose_ok h q.frm (frm_has k0 j1 j8) (looseC (cabOf h q.frm)) rfl) ?_
      cbv
      repeat (refine Pz.mk ?_; cbv)
      refine Br.dec (fun j9 => ?_) (fun j9 => ?_) <;> (cbv; repeat (refine Pz.mk ?_; cbv))
      · have j9 : looseC (cabOf h q.frm) < q.siz := j9
        refine ⟨?_, trivial⟩
        exact (hx.trans (jv.trans (if_pos ⟨j8, j9⟩))).symm
      have j9 : ¬ looseC (cabOf h q.frm) < q.siz := j9
      refine Br.dec (fun j10 => ?_) (fun j10 => ?_) <;> (cbv; repeat (refine Pz.mk ?_; cbv))
      · have j10 : h.turn > 1000000 := j10
        refine ⟨?_, trivial⟩
        exact (hx.trans (by rw [jv, if_neg fun z => j9 z.2, if_pos j10])).symm
      · have j10 : ¬ h.turn > 1000000 := j10
        refine ⟨?_, trivial⟩
        exact (hx.trans (by rw [jv, if_neg fun z => j9 z.2, if_neg j10])).symm
    · have j8 : q.frm = -1 := by have j8 : (q.frm != -1) = false := j8; simpa using j8
      refine Br.dec (fun j10 => ?_) (fun j10 => ?_) <;> (cbv; repeat (refine Pz.mk ?_; cbv))
      · have j10 : h.turn > 1000000 := j10
        refine ⟨?_, trivial⟩
        exact (hx.trans (by rw [jv, if_neg fun z => z.1 j8, if_pos j10])).symm
      · have j10 : ¬ h.turn > 1000000 := j10
        refine ⟨?_, trivial⟩
        exact (hx.trans (by rw [jv, if_neg fun z => z.1 j8, if_neg j10])).symm
  have c1 : ¬ q.kind = 1 := by have c1 : (q.kind == 1) = false := c1; simpa using c1
  refine Br.split (fun c2 => ?_) (fun c2 => ?_) <;> (cbv; repeat (refine Pz.mk ?_; cbv))
  · have kk : q.kind = 2 := by have c2 : (q.kind == 2) = true := c2; simpa using c2
    have hx := hx.trans (vd_cancel k0 k2 kk)
    refine CallA.by hP (implPartyAt_ok h q.id (pAt h.parties q.id) rfl) ?_
    cbv
    repeat (refine Pz.mk ?_; cbv)
    refine Br.dec (fun a0 => ?_) (fun a0 => ?_) <;> (cbv; repeat (refine Pz.mk ?_; cbv))
    · have a0 : pAt h.parties q.id < 0 := a0
      refine ⟨?_, trivial⟩
      exact (hx.trans (if_pos a0)).symm
    · have a0 : ¬ pAt h.parties q.id < 0 := a0
      refine ⟨?_, trivial⟩
      exact (hx.trans (if_neg a0)).symm
  have c2 : ¬ q.kind = 2 := by have c2 : (q.kind == 2) = false := c2; simpa using c2
  refine Br.split (fun c3 => ?_) (fun c3 => ?_) <;> (cbv; repeat (refine Pz.mk ?_; cbv))
  · have kk : q.kind = 3 := by have c3 : (q.kind == 3) = true := c3; simpa using c3
    have hx := hx.trans (vd_free k0 k2 kk)
    have fr := freeR k2 kk
    refine CallA.by hP (isIndexB_ok q.cab (h.cabins.length : Int) (by omega) (by omega)) ?_
    cbv
    repeat (refine Pz.mk ?_; cbv)
    refine Br.split (fun j0 => ?_) (fun j0 => ?_) <;> (cbv; repeat (refine Pz.mk ?_; cbv))
    · have j0 : (!inHouse h q.cab) = true := j0
      have j0 : inHouse h q.cab = false := by simpa using j0
      refine ⟨?_, trivial⟩
      exact (hx.trans (if_pos j0)).symm
    have j0 : (!inHouse h q.cab) = false := j0
    have j0 : inHouse h q.cab = true := by simpa using j0
    have hx := hx.trans (if_neg (by rw [j0]; simp))
    refine CallA.by hP (withinB_ok q.siz 1 60) ?_
    cbv
    repeat (refine Pz.mk ?_; cbv)
    refine Br.split (fun f1 => ?_) (fun f1 => ?_) <;> (cbv; repeat (refine Pz.mk ?_; cbv))
    · have f1 : (!isIn q.siz 1 60) = true := f1
      refine ⟨?_, trivial⟩
      exact (hx.trans (if_pos (by simpa using f1))).symm
    have f1 : (!isIn q.siz 1 60) = false := f1
    have hx := hx.trans (if_neg (by simpa using f1))
    refine CallA.by hP (loose_ok h q.cab (cab_has k0 j0) (looseC (cabOf h q.cab)) rfl) ?_
    cbv
    repeat (refine Pz.mk ?_; cbv)
    refine Br.dec (fun f2 => ?_) (fun f2 => ?_) <;> (cbv; repeat (refine Pz.mk ?_; cbv))
    · have f2 : looseC (cabOf h q.cab) < q.siz := f2
      refine ⟨?_, trivial⟩
      exact (hx.trans (if_pos f2)).symm
    · have f2 : ¬ looseC (cabOf h q.cab) < q.siz := f2
      refine ⟨?_, trivial⟩
      exact (hx.trans (if_neg f2)).symm
  have c3 : ¬ q.kind = 3 := by have c3 : (q.kind == 3) = false := c3; simpa using c3
  refine Br.split (fun c4 => ?_) (fun c4 => ?_) <;> (cbv; repeat (refine Pz.mk ?_; cbv))
  · have kk : q.kind = 4 := by have c4 : (q.kind == 4) = true := c4; simpa using c4
    have hx := hx.trans (vd_answer k0 k2 (Or.inl kk))
    refine Br.split (fun d4 => ?_) (fun d4 => ?_) <;> (cbv; repeat (refine Pz.mk ?_; cbv))
    · refine CallA.by hP (implPartyAt_ok h q.id (pAt h.parties q.id) rfl) ?_
      cbv
      repeat (refine Pz.mk ?_; cbv)
      refine Br.dec (fun a0 => ?_) (fun a0 => ?_) <;> (cbv; repeat (refine Pz.mk ?_; cbv))
      · have a0 : pAt h.parties q.id < 0 := a0
        refine ⟨?_, trivial⟩
        exact (hx.trans (if_pos a0)).symm
      have a0 : ¬ pAt h.parties q.id < 0 := a0
      have hx := hx.trans (if_neg a0)
      obtain ⟨i, c, g⟩ := known hg (by omega : 0 ≤ pAt h.parties q.id)
      have hi := g.lt
      have og : 0 ≤ pAt h.parties q.id := by omega
      have gg : h.parties[(pAt h.parties q.id).toNat]? = some h.parties[i] := by rw [g.at_, Int.toNat_natCast]; exact List.getElem?_eq_getElem hi
      rw [g.pty] at hx
      refine ⟨h.parties[i], og, gg, ?_⟩
      cbv
      repeat (refine Pz.mk ?_; cbv)
      refine Br.split (fun a1 => ?_) (fun a1 => ?_) <;> (cbv; repeat (refine Pz.mk ?_; cbv))
      · have a1 : (h.parties[i].st != 2) = true := a1
        refine ⟨?_, trivial⟩
        exact (hx.trans (if_pos (by simpa using a1))).symm
      have a1 : (h.parties[i].st != 2) = false := a1
      have hx := hx.trans (if_neg (by simpa using a1))
      refine ⟨h.parties[i], og, gg, ?_⟩
      cbv
      repeat (refine Pz.mk ?_; cbv)
      refine CallA.by hP (implDue_ok h.parties[i] h.now) ?_
      cbv
      repeat (refine Pz.mk ?_; cbv)
      refine Br.split (fun a2 => ?_) (fun a2 => ?_) <;> (cbv; repeat (refine Pz.mk ?_; cbv))
      · have a2 : dueB h.parties[i] h.now = true := a2
        refine ⟨?_, trivial⟩
        exact (hx.trans (if_pos a2)).symm
      · have a2 : dueB h.parties[i] h.now = false := a2
        refine ⟨?_, trivial⟩
        exact (hx.trans (if_neg (by rw [a2]; simp))).symm
    · exfalso
      have d4 : (q.kind == 4) = false := d4
      rw [kk] at d4; cases d4
  have c4 : ¬ q.kind = 4 := by have c4 : (q.kind == 4) = false := c4; simpa using c4
  refine Br.split (fun c5 => ?_) (fun c5 => ?_) <;> (cbv; repeat (refine Pz.mk ?_; cbv))
  · have kk : q.kind = 5 := by have c5 : (q.kind == 5) = true := c5; simpa using c5
    have hx := hx.trans (vd_answer k0 k2 (Or.inr kk))
    refine CallA.by hP (implPartyAt_ok h q.id (pAt h.parties q.id) rfl) ?_
    cbv
    repeat (refine Pz.mk ?_; cbv)
    refine Br.dec (fun a0 => ?_) (fun a0 => ?_) <;> (cbv; repeat (refine Pz.mk ?_; cbv))
    · have a0 : pAt h.parties q.id < 0 := a0
      refine ⟨?_, trivial⟩
      exact (hx.trans (if_pos a0)).symm
    have a0 : ¬ pAt h.parties q.id < 0 := a0
    have hx := hx.trans (if_neg a0)
    obtain ⟨i, c, g⟩ := known hg (by omega : 0 ≤ pAt h.parties q.id)
    have hi := g.lt
    have og : 0 ≤ pAt h.parties q.id := by omega
    have gg : h.parties[(pAt h.parties q.id).toNat]? = some h.parties[i] := by rw [g.at_, Int.toNat_natCast]; exact List.getElem?_eq_getElem hi
    rw [g.pty] at hx
    refine ⟨h.parties[i], og, gg, ?_⟩
    cbv
    repeat (refine Pz.mk ?_; cbv)
    refine Br.split (fun a1 => ?_) (fun a1 => ?_) <;> (cbv; repeat (refine Pz.mk ?_; cbv))
    · have a1 : (h.parties[i].st != 2) = true := a1
      refine ⟨?_, trivial⟩
      exact (hx.trans (if_pos (by simpa using a1))).symm
    have a1 : (h.parties[i].st != 2) = false := a1
    have hx := hx.trans (if_neg (by simpa using a1))
    refine ⟨h.parties[i], og, gg, ?_⟩
    cbv
    repeat (refine Pz.mk ?_; cbv)
    refine CallA.by hP (implDue_ok h.parties[i] h.now) ?_
    cbv
    repeat (refine Pz.mk ?_; cbv)
    refine Br.split (fun a2 => ?_) (fun a2 => ?_) <;> (cbv; repeat (refine Pz.mk ?_; cbv))
    · have a2 : dueB h.parties[i] h.now = true := a2
      refine ⟨?_, trivial⟩
      exact (hx.trans (if_pos a2)).symm
    · have a2 : dueB h.parties[i] h.now = false := a2
      refine ⟨?_, trivial⟩
      exact (hx.trans (if_neg (by rw [a2]; simp))).symm
  have c5 : ¬ q.kind = 5 := by have c5 : (q.kind == 5) = false := c5; simpa using c5
  refine Br.split (fun c6 => ?_) (fun c6 => ?_) <;> (cbv; repeat (refine Pz.mk ?_; cbv))
  · have kk : q.kind = 6 := by have c6 : (q.kind == 6) = true := c6; simpa using c6
    have hx := hx.trans (vd_tick k0 k2 kk)
    have hn := isIn_ok hg.now
    refine Br.split (fun t0 => ?_) (fun t0 => ?_) <;> (cbv; repeat (refine Pz.mk ?_; cbv))
    · have t0 : (h.now == 1000000) = true := t0
      refine ⟨?_, trivial⟩
      exact (hx.trans (if_pos (by simpa using t0))).symm
    · have t0 : (h.now == 1000000) = false := t0
      refine ⟨?_, trivial⟩
      exact (hx.trans (if_neg (by simpa using t0))).symm
  have c6 : ¬ q.kind = 6 := by have c6 : (q.kind == 6) = false := c6; simpa using c6
  refine Br.split (fun c7 => ?_) (fun c7 => ?_) <;> (cbv; repeat (refine Pz.mk ?_; cbv))
  · have kk : q.kind = 7 := by have c7 : (q.kind == 7) = true := c7; simpa using c7
    have hx := hx.trans (vd_pick k0 k2 kk)
    have pr := pickR k2 kk
    refine Br.dec (fun p0 => ?_) (fun p0 => ?_) <;> (cbv; repeat (refine Pz.mk ?_; cbv))
    · have p0 : q.id ≥ h.rules.crew := p0
      refine ⟨?_, trivial⟩
      exact (hx.trans (if_pos p0)).symm
    have p0 : ¬ q.id ≥ h.rules.crew := p0
    have hx := hx.trans (if_neg p0)
    have cr := hg.crew
    have hj : q.id.toNat < h.jobs.length := by omega
    have op : 0 ≤ q.id := pr.1
    have gp : h.jobs[q.id.toNat]? = some h.jobs[q.id.toNat] := List.getElem?_eq_getElem hj
    rw [gp] at hx
    have hx : x = if h.jobs[q.id.toNat] = -1 ∧ h.todo = [] then 17 else 0 := hx
    have jj := isIn_ok (hg.jobs.jobs _ (List.getElem_mem hj))
    refine ⟨h.jobs[q.id.toNat], op, gp, ?_⟩
    cbv
    repeat (refine Pz.mk ?_; cbv)
    refine Br.split (fun p1 => ?_) (fun p1 => ?_) <;> (cbv; repeat (refine Pz.mk ?_; cbv))
    · have p1 : h.jobs[q.id.toNat] = -1 := by have p1 : (h.jobs[q.id.toNat] == -1) = true := p1; simpa using p1
      refine Br.split (fun p2 => ?_) (fun p2 => ?_) <;> (cbv; repeat (refine Pz.mk ?_; cbv))
      · have p2 : (((h.todo.length : Nat) : Int) == 0) = true := p2
        refine ⟨?_, trivial⟩
        exact (hx.trans (if_pos ⟨p1, todo0 p2⟩)).symm
      · have p2 : (((h.todo.length : Nat) : Int) == 0) = false := p2
        refine ⟨?_, trivial⟩
        exact (hx.trans (if_neg fun z => todo1 p2 z.2)).symm
    · have p1 : ¬ h.jobs[q.id.toNat] = -1 := by have p1 : (h.jobs[q.id.toNat] == -1) = false := p1; simpa using p1
      refine ⟨?_, trivial⟩
      exact (hx.trans (if_neg fun z => p1 z.1)).symm
  have c7 : ¬ q.kind = 7 := by have c7 : (q.kind == 7) = false := c7; simpa using c7
  exfalso; omega
end Go.Proofs.YtnenmkiabclncaaGreat
namespace Go.Proofs.YtnenmkiabclncaaGreat
open Go
set_option maxRecDepth 100000
def pinsDue (w : List (List Pin)) (now : Int) : List Pin := (wheelPins w).filter fun p => decide (p.tm ≤ now)
def dueC (c : Cabin) (now : Int) : List Int := (pinsDue c.spoke now).map fun p => p.pid
end Go.Proofs.YtnenmkiabclncaaGreat
namespace Go.Proofs.YtnenmkiabclncaaGreat
open Go
set_option maxRecDepth 100000
theorem zHo_le {a : House} (hs : smallHo a) : zHo a ≤ 4600000000000000000 := by
  obtain ⟨h1, h2, ⟨h3, h3'⟩, h4, h5⟩ := hs
  have e1 : a.rules.seats.length ≤ 1048576 := h1
  have e4 : a.todo.length ≤ 1048576 := h4
  have e5 : a.jobs.length ≤ 1048576 := h5
  have e2 := zAll_le zPty 10 1048576 a.parties (fun _ _ => Nat.le_refl 10) h2
  have e3 := zAll_le zCab (5 + 1048576 * 4 + 1048576 * (1048576 * 2)) 1048576 a.cabins (fun c hc => by
    obtain ⟨q1, q2, q3⟩ := h3' c hc
    have f1 := zAll_le zEnt 4 1048576 c.row (fun _ _ => Nat.le_refl 4) q1
    have f2 := zAll_le zPinS (1048576 * 2) 1048576 c.spoke (fun x hx => zAll_le zPin 2 1048576 x (fun _ _ => Nat.le_refl 2) (q3 x hx)) q2
    show 5 + zAll zEnt c.row + zAll zPinS c.spoke ≤ _
    omega) h3
  show a.rules.seats.length + zAll zPty a.parties + zAll zCab a.cabins + a.todo.length + a.jobs.length ≤ _
  omega
end Go.Proofs.YtnenmkiabclncaaGreat

