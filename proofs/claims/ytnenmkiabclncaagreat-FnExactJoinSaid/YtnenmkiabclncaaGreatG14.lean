/- Parts of a proof. No conditions. -/

import Derived.Test.YtnenmkiabclncaaGreatG13
set_option linter.unusedSimpArgs false
set_option linter.unusedVariables false
namespace Go.Proofs.YtnenmkiabclncaaGreat
open Go
set_option maxRecDepth 100000
def cabOf (h : House) (k : Int) : Cabin := (h.cabins[k.toNat]?).getD default
def hasCabB (h : House) (k : Int) : Bool := houseOkB h && isIn k 0 ((h.cabins.length : Int) - 1)
def looseC (c : Cabin) : Int := c.seats.sold - c.seats.tied
theorem cab_at {h : House} {k : Int} (hk : isIn k 0 ((h.cabins.length : Int) - 1) = true) : ∃ i : Nat, ∃ hi : i < h.cabins.length, k = (i : Int) ∧ cabOf h (i : Int) = h.cabins[i] := by
  obtain ⟨h0, h1⟩ := isIn_ok hk
  refine ⟨k.toNat, by omega, by omega, ?_⟩
  rw [cabOf, Int.toNat_natCast, List.getElem?_eq_getElem (by omega)]; rfl
structure LedG (x : Ledger) : Prop where
  total : 1 ≤ x.total ∧ x.total ≤ 60
  free : 0 ≤ x.free ∧ x.free ≤ x.total
  held : 0 ≤ x.held ∧ x.held ≤ x.total
  sold : 0 ≤ x.sold ∧ x.sold ≤ x.total
  sum : x.free + x.held + x.sold = x.total
  tied : 0 ≤ x.tied ∧ x.tied ≤ x.sold
theorem ledG {x : Ledger} (h : ledOkB x = true) : LedG x := by
  simp only [ledOkB, Bool.and_eq_true, decide_eq_true_eq] at h
  obtain ⟨a, b, c, d, e, f⟩ := h
  exact ⟨isIn_ok a, isIn_ok b, isIn_ok c, isIn_ok d, e, isIn_ok f⟩
structure CabG (h : House) (k : Nat) (c : Cabin) : Prop where
  total : c.seats.total = h.rules.seats.getD k 0
  led : ledOkB c.seats = true
  q : queueOkB c.row = true
  w : wheelOkB c.spoke = true
  few : ((zAll (cntIn (k : Int)) h.parties : Nat) : Int) ≤ h.rules.room
  row : c.row = queueOf h.rules h.parties (k : Int) h.now
  pins : wheelPins c.spoke = pinsIn h.parties (k : Int)
  held : c.seats.held = ((zAll (heldZ (k : Int)) h.parties : Nat) : Int)
  tied : c.seats.tied = ((zAll (tiedZ (k : Int)) h.parties : Nat) : Int)
theorem HG.at_ {h : House} (hg : HG h) {k : Nat} (hk : k < h.cabins.length) : CabG h k h.cabins[k] := by
  have hc := hg.cab k _ (List.getElem?_eq_getElem hk)
  simp only [cabAtB, agreesB, cabinOkB, Bool.and_eq_true, decide_eq_true_eq, beq_iff_eq] at hc
  obtain ⟨a, b, ⟨c, d, e⟩, f, g, i, j⟩ := hc
  exact ⟨a, c, d, e, b, f, g, i, j⟩
theorem l12Loose_ok (h : House) (k : Int) (hk : hasCabB h k = true) (x : Int) (hx : x = looseC (cabOf h k)) : Spec Tryz.prog 79 [hoA h, iA k] (Ret (iR fun _ => x)) := by
  refine spec_of tabOk Tryz.func79 rfl rfl (fr := true) (fun _ => by kernel_rfl) fun P hP hA => ?_
  have hk := Bool.and_eq_true_iff.1 hk
  obtain ⟨i, hi, rfl, e⟩ := cab_at hk.2
  have hl := ledG ((houseOk_iff.1 hk.1).at_ hi).led
  obtain ⟨t0, t1⟩ := hl.total
  obtain ⟨s0, s1⟩ := hl.sold
  obtain ⟨u0, u1⟩ := hl.tied
  cbv
  repeat (refine Pz.mk ?_; cbv)
  refine ⟨h.cabins[i], by simp, get_cast h.cabins hi, ?_⟩
  cbv
  repeat (refine Pz.mk ?_; cbv)
  refine ⟨h.cabins[i], by simp, get_cast h.cabins hi, ?_⟩
  cbv
  repeat (refine Pz.mk ?_; cbv)
  refine Ar.exact (by (try simp only [nc] at *); omega) (by (try simp only [nc] at *); omega) ?_
  cbv
  repeat (refine Pz.mk ?_; cbv)
  refine ⟨?_, trivial⟩
  exact (hx.trans (by rw [e]; rfl)).symm
theorem loose_ok (h : House) (k : Int) (hk : hasCabB h k = true) (x : Int) (hx : x = looseC (cabOf h k)) : Spec Tryz.prog 85 [hoA h, iA k] (Ret (iR fun _ => x)) := by
  refine spec_of tabOk Tryz.func85 rfl rfl (fr := true) (fun _ => by kernel_rfl) fun P hP hA => ?_
  have hk := Bool.and_eq_true_iff.1 hk
  obtain ⟨i, hi, rfl, e⟩ := cab_at hk.2
  have hl := ledG ((houseOk_iff.1 hk.1).at_ hi).led
  obtain ⟨t0, t1⟩ := hl.total
  obtain ⟨s0, s1⟩ := hl.sold
  obtain ⟨u0, u1⟩ := hl.tied
  cbv
  repeat (refine Pz.mk ?_; cbv)
  refine ⟨h.cabins[i], by simp, get_cast h.cabins hi, ?_⟩
  cbv
  repeat (refine Pz.mk ?_; cbv)
  refine ⟨h.cabins[i], by simp, get_cast h.cabins hi, ?_⟩
  cbv
  repeat (refine Pz.mk ?_; cbv)
  refine Ar.exact (by (try simp only [nc] at *); omega) (by (try simp only [nc] at *); omega) ?_
  cbv
  repeat (refine Pz.mk ?_; cbv)
  refine ⟨?_, trivial⟩
  exact (hx.trans (by rw [e]; rfl)).symm
end Go.Proofs.YtnenmkiabclncaaGreat
namespace Go.Proofs.YtnenmkiabclncaaGreat
open Go
set_option maxRecDepth 100000
end Go.Proofs.YtnenmkiabclncaaGreat
namespace Go.Proofs.YtnenmkiabclncaaGreat
open Go
set_option maxRecDepth 100000
def ptyOf (h : House) (id : Int) : Party := (h.parties[(pAt h.parties id).toNat]?).getD default
structure Known (h : House) (id : Int) (i : Nat) (c : Nat) : Prop where
  lt : i < h.parties.length
  at_ : pAt h.parties id = (i : Int)
  pty : ptyOf h id = h.parties[i]
  id : h.parties[i].id = id
  ok : partyOkB h.rules h.parties[i] h.now = true
  cab : h.parties[i].cab = (c : Int)
  clt : c < h.cabins.length
  ceq : cabOf h (c : Int) = h.cabins[c]
theorem known {h : House} {id : Int} (hg : HG h) (hk : 0 ≤ pAt h.parties id) : ∃ i c, Known h id i c := by
  rcases atOf_cases (fun p : Party => p.id == id) h.parties with ⟨e, _⟩ | ⟨i, hi, e, e1, _⟩
  · have : pAt h.parties id = -1 := e
    omega
  · have e : pAt h.parties id = (i : Int) := e
    have ok := (hg.parties.ok _ (List.getElem_mem hi)).1
    have ok' := ok
    simp only [partyOkB, Bool.and_eq_true] at ok'
    obtain ⟨_, _, _, hc, _⟩ := ok'
    obtain ⟨c0, c1⟩ := isIn_ok hc
    have hl := hg.cabs
    refine ⟨i, h.parties[i].cab.toNat, hi, e, ?_, beq_iff_eq.1 e1, ok, by omega, by omega, ?_⟩
    · rw [ptyOf, e, Int.toNat_natCast, List.getElem?_eq_getElem hi]; rfl
    · rw [cabOf, Int.toNat_natCast, List.getElem?_eq_getElem (by omega)]; rfl
end Go.Proofs.YtnenmkiabclncaaGreat

