/-
  What a house is asked: seats, loose seats, whether it is idle, places, offers. No conditions.
-/
import Derived.Test.YtmigflddbhiajaaGreatG13
set_option linter.unusedSimpArgs false
set_option linter.unusedVariables false

namespace Go.Proofs.YtmigflddbhiajaaGreat
open Go
set_option maxRecDepth 100000

def cabOf (h : House) (k : Int) : Cabin := (h.cabins[k.toNat]?).getD default
def hasCabB (h : House) (k : Int) : Bool := houseOkB h && isIn k 0 ((h.cabins.length : Int) - 1)
def canHoldB (h : House) (k n : Int) : Bool := hasCabB h k && isIn n 1 (cabOf h k).seats.free
def looseC (c : Cabin) : Int := c.seats.sold - c.seats.tied
def looseIn (h : House) (k : Int) : Int := if hasCabB h k = true then looseC (cabOf h k) else -1
def idleB (h : House) : Bool := houseOkB h && (decide (h.todo = []) && h.jobs.all fun x => x == -1)

theorem cab_at {h : House} {k : Int} (hk : isIn k 0 ((h.cabins.length : Int) - 1) = true) : ∃ i : Nat, ∃ hi : i < h.cabins.length, k = (i : Int) ∧ cabOf h (i : Int) = h.cabins[i] := by
  obtain ⟨h0, h1⟩ := isIn_ok hk
  refine ⟨k.toNat, by omega, by omega, ?_⟩
  rw [cabOf, Int.toNat_natCast, List.getElem?_eq_getElem (by omega)]; rfl

structure LedG (x : Ledger) : Prop where
  total : 1 ≤ x.total ∧ x.total ≤ 60
  free : 0 ≤ x.free ∧ x.free ≤ x.total
  held : 0 ≤ x.held ∧ x.held ≤ x.total
  sold : 0 ≤ x.sold ∧ x.sold ≤ x.total
  sum : x.free + x.held + x.sold = x.total
  tied : 0 ≤ x.tied ∧ x.tied ≤ x.sold

theorem ledG {x : Ledger} (h : ledOkB x = true) : LedG x := by
  simp only [ledOkB, Bool.and_eq_true, decide_eq_true_eq] at h
  obtain ⟨a, b, c, d, e, f⟩ := h
  exact ⟨isIn_ok a, isIn_ok b, isIn_ok c, isIn_ok d, e, isIn_ok f⟩

structure CabG (h : House) (k : Nat) (c : Cabin) : Prop where
  total : c.seats.total = h.rules.seats.getD k 0
  led : ledOkB c.seats = true
  q : queueOkB c.row = true
  w : wheelOkB c.spoke = true
  few : ((zAll (cntIn (k : Int)) h.parties : Nat) : Int) ≤ h.rules.room
  row : c.row = queueOf h.rules h.parties (k : Int) h.now
  pins : wheelPins c.spoke = pinsIn h.parties (k : Int)
  held : c.seats.held = ((zAll (heldZ (k : Int)) h.parties : Nat) : Int)
  tied : c.seats.tied = ((zAll (tiedZ (k : Int)) h.parties : Nat) : Int)

theorem HG.at_ {h : House} (hg : HG h) {k : Nat} (hk : k < h.cabins.length) : CabG h k h.cabins[k] := by
  have hc := hg.cab k _ (List.getElem?_eq_getElem hk)
  simp only [cabAtB, agreesB, cabinOkB, Bool.and_eq_true, decide_eq_true_eq, beq_iff_eq] at hc
  obtain ⟨a, b, ⟨c, d, e⟩, f, g, i, j⟩ := hc
  exact ⟨a, c, d, e, b, f, g, i, j⟩

theorem l12Loose_ok (h : House) (k : Int) (hk : hasCabB h k = true) (x : Int) (hx : x = looseC (cabOf h k)) : Spec Tryz.prog 80 [hoA h, iA k] (Ret (iR fun _ => x)) := by
  refine spec_of tabOk Tryz.func80 rfl rfl (fr := true) (fun _ => by kernel_rfl) fun P hP hA => ?_
  have hk := Bool.and_eq_true_iff.1 hk
  obtain ⟨i, hi, rfl, e⟩ := cab_at hk.2
  have hl := ledG ((houseOk_iff.1 hk.1).at_ hi).led
  obtain ⟨t0, t1⟩ := hl.total
  obtain ⟨s0, s1⟩ := hl.sold
  obtain ⟨u0, u1⟩ := hl.tied
  cbv
  repeat (refine Pz.mk ?_; cbv)
  refine ⟨h.cabins[i], by simp, get_cast h.cabins hi, ?_⟩
  cbv
  repeat (refine Pz.mk ?_; cbv)
  refine ⟨h.cabins[i], by simp, get_cast h.cabins hi, ?_⟩
  cbv
  repeat (refine Pz.mk ?_; cbv)
  refine Ar.exact (by (try simp only [nc] at *); omega) (by (try simp only [nc] at *); omega) ?_
  cbv
  repeat (refine Pz.mk ?_; cbv)
  refine ⟨?_, trivial⟩
  exact (hx.trans (by rw [e]; rfl)).symm

theorem loose_ok (h : House) (k : Int) (hk : hasCabB h k = true) (x : Int) (hx : x = looseC (cabOf h k)) : Spec Tryz.prog 81 [hoA h, iA k] (Ret (iR fun _ => x)) := by
  refine spec_of tabOk Tryz.func81 rfl rfl (fr := true) (fun _ => by kernel_rfl) fun P hP hA => ?_
  have hk := Bool.and_eq_true_iff.1 hk
  obtain ⟨i, hi, rfl, e⟩ := cab_at hk.2
  have hl := ledG ((houseOk_iff.1 hk.1).at_ hi).led
  obtain ⟨t0, t1⟩ := hl.total
  obtain ⟨s0, s1⟩ := hl.sold
  obtain ⟨u0, u1⟩ := hl.tied
  cbv
  repeat (refine Pz.mk ?_; cbv)
  refine ⟨h.cabins[i], by simp, get_cast h.cabins hi, ?_⟩
  cbv
  repeat (refine Pz.mk ?_; cbv)
  refine ⟨h.cabins[i], by simp, get_cast h.cabins hi, ?_⟩
  cbv
  repeat (refine Pz.mk ?_; cbv)
  refine Ar.exact (by (try simp only [nc] at *); omega) (by (try simp only [nc] at *); omega) ?_
  cbv
  repeat (refine Pz.mk ?_; cbv)
  refine ⟨?_, trivial⟩
  exact (hx.trans (by rw [e]; rfl)).symm

theorem specCanHold_ok (h : House) (k n : Int) (hs : smallHo h) (b : Bool) (hb : b = canHoldB h k n) : Spec Tryz.prog 25 [hoA h, iA k, iA n] (Ret (bR fun _ => b)) := by
  refine spec_of tabOk Tryz.func25 rfl rfl (fr := true) (fun _ => by kernel_rfl) fun P hP hA => ?_
  have hc : h.cabins.length ≤ 1048576 := hs.2.2.1.1
  cbv
  repeat (refine Pz.mk ?_; cbv)
  refine CallA.by hP (specHouseOk_ok h hs (houseOkB h) rfl) ?_
  cbv
  repeat (refine Pz.mk ?_; cbv)
  refine Br.split (fun k0 => ?_) (fun k0 => ?_) <;> (cbv; repeat (refine Pz.mk ?_; cbv))
  rotate_left
  · refine ⟨?_, trivial⟩
    have k0 : houseOkB h = false := k0
    exact (hb.trans (by rw [canHoldB, hasCabB, k0]; rfl)).symm
  have k0 : houseOkB h = true := k0
  refine Ar.exact (by (try simp only [nc] at *); omega) (by (try simp only [nc] at *); omega) ?_
  cbv
  repeat (refine Pz.mk ?_; cbv)
  refine CallA.by hP (l1InB_ok k 0 ((h.cabins.length : Int) - 1)) ?_
  cbv
  repeat (refine Pz.mk ?_; cbv)
  refine Br.split (fun k1 => ?_) (fun k1 => ?_) <;> (cbv; repeat (refine Pz.mk ?_; cbv))
  rotate_left
  · refine ⟨?_, trivial⟩
    have k1 : isIn k 0 ((h.cabins.length : Int) - 1) = false := k1
    exact (hb.trans (by rw [canHoldB, hasCabB, k0, k1]; rfl)).symm
  have k1 : isIn k 0 ((h.cabins.length : Int) - 1) = true := k1
  obtain ⟨i, hi, rfl, e⟩ := cab_at k1
  refine ⟨h.cabins[i], by simp, get_cast h.cabins hi, ?_⟩
  cbv
  repeat (refine Pz.mk ?_; cbv)
  refine CallA.by hP (l1InB_ok n 1 h.cabins[i].seats.free) ?_
  cbv
  repeat (refine Pz.mk ?_; cbv)
  refine ⟨?_, trivial⟩
  exact (hb.trans (by rw [canHoldB, hasCabB, k0, k1, e]; rfl)).symm

theorem implCanHold_ok (h : House) (k n : Int) (hs : smallHo h) (b : Bool) (hb : b = canHoldB h k n) : Spec Tryz.prog 26 [hoA h, iA k, iA n] (Ret (bR fun _ => b)) := by
  refine spec_of tabOk Tryz.func26 rfl rfl (fr := true) (fun _ => by kernel_rfl) fun P hP hA => ?_
  have hc : h.cabins.length ≤ 1048576 := hs.2.2.1.1
  cbv
  repeat (refine Pz.mk ?_; cbv)
  refine CallA.by hP (implHouseOk_ok h hs (houseOkB h) rfl) ?_
  cbv
  repeat (refine Pz.mk ?_; cbv)
  refine Br.split (fun k0 => ?_) (fun k0 => ?_) <;> (cbv; repeat (refine Pz.mk ?_; cbv))
  rotate_left
  · refine ⟨?_, trivial⟩
    have k0 : houseOkB h = false := k0
    exact (hb.trans (by rw [canHoldB, hasCabB, k0]; rfl)).symm
  have k0 : houseOkB h = true := k0
  refine CallA.by hP (isIndexB_ok k (h.cabins.length : Int) (by omega) (by omega)) ?_
  cbv
  repeat (refine Pz.mk ?_; cbv)
  refine Br.split (fun k1 => ?_) (fun k1 => ?_) <;> (cbv; repeat (refine Pz.mk ?_; cbv))
  rotate_left
  · refine ⟨?_, trivial⟩
    have k1 : isIn k 0 ((h.cabins.length : Int) - 1) = false := k1
    exact (hb.trans (by rw [canHoldB, hasCabB, k0, k1]; rfl)).symm
  have k1 : isIn k 0 ((h.cabins.length : Int) - 1) = true := k1
  obtain ⟨i, hi, rfl, e⟩ := cab_at k1
  refine ⟨h.cabins[i], by simp, get_cast h.cabins hi, ?_⟩
  cbv
  repeat (refine Pz.mk ?_; cbv)
  refine CallA.by hP (withinB_ok n 1 h.cabins[i].seats.free) ?_
  cbv
  repeat (refine Pz.mk ?_; cbv)
  refine ⟨?_, trivial⟩
  exact (hb.trans (by rw [canHoldB, hasCabB, k0, k1, e]; rfl)).symm

theorem specLooseIn_ok (h : House) (k : Int) (hs : smallHo h) (x : Int) (hx : x = looseIn h k) : Spec Tryz.prog 27 [hoA h, iA k] (Ret (iR fun _ => x)) := by
  refine spec_of tabOk Tryz.func27 rfl rfl (fr := true) (fun _ => by kernel_rfl) fun P hP hA => ?_
  have hc : h.cabins.length ≤ 1048576 := hs.2.2.1.1
  have no : hasCabB h k = false → x = -1 := fun e => hx.trans (by rw [looseIn, e]; rfl)
  cbv
  repeat (refine Pz.mk ?_; cbv)
  refine CallA.by hP (specHouseOk_ok h hs (houseOkB h) rfl) ?_
  cbv
  repeat (refine Pz.mk ?_; cbv)
  refine Br.split (fun k0 => ?_) (fun k0 => ?_) <;> (cbv; repeat (refine Pz.mk ?_; cbv))
  · refine ⟨?_, trivial⟩
    have k0 : (!houseOkB h) = true := k0
    exact (no (by rw [hasCabB]; revert k0; cases houseOkB h <;> intro k0 <;> simp at k0 ⊢)).symm
  have k0 : (!houseOkB h) = false := k0
  have k0 : houseOkB h = true := by simpa using k0
  refine Ar.exact (by (try simp only [nc] at *); omega) (by (try simp only [nc] at *); omega) ?_
  cbv
  repeat (refine Pz.mk ?_; cbv)
  refine CallA.by hP (l1InB_ok k 0 ((h.cabins.length : Int) - 1)) ?_
  cbv
  repeat (refine Pz.mk ?_; cbv)
  refine Br.split (fun k1 => ?_) (fun k1 => ?_) <;> (cbv; repeat (refine Pz.mk ?_; cbv))
  · refine ⟨?_, trivial⟩
    have k1 : (!isIn k 0 ((h.cabins.length : Int) - 1)) = true := k1
    have k1 : isIn k 0 ((h.cabins.length : Int) - 1) = false := by simpa using k1
    exact (no (by rw [hasCabB, k0, k1]; rfl)).symm
  have k1 : (!isIn k 0 ((h.cabins.length : Int) - 1)) = false := k1
  have k1 : isIn k 0 ((h.cabins.length : Int) - 1) = true := by simpa using k1
  have kk : hasCabB h k = true := by rw [hasCabB, k0, k1]; rfl
  refine CallA.by hP (l12Loose_ok h k kk x (hx.trans (if_pos kk))) ?_
  cbv
  repeat (refine Pz.mk ?_; cbv)
  repeat' first | exact trivial | refine ⟨rfl, ?_⟩ | fail

theorem implLooseIn_ok (h : House) (k : Int) (hs : smallHo h) (x : Int) (hx : x = looseIn h k) : Spec Tryz.prog 28 [hoA h, iA k] (Ret (iR fun _ => x)) := by
  refine spec_of tabOk Tryz.func28 rfl rfl (fr := true) (fun _ => by kernel_rfl) fun P hP hA => ?_
  have hc : h.cabins.length ≤ 1048576 := hs.2.2.1.1
  have no : hasCabB h k = false → x = -1 := fun e => hx.trans (by rw [looseIn, e]; rfl)
  cbv
  repeat (refine Pz.mk ?_; cbv)
  refine CallA.by hP (implHouseOk_ok h hs (houseOkB h) rfl) ?_
  cbv
  repeat (refine Pz.mk ?_; cbv)
  refine Br.split (fun k0 => ?_) (fun k0 => ?_) <;> (cbv; repeat (refine Pz.mk ?_; cbv))
  · refine ⟨?_, trivial⟩
    have k0 : (!houseOkB h) = true := k0
    exact (no (by rw [hasCabB]; revert k0; cases houseOkB h <;> intro k0 <;> simp at k0 ⊢)).symm
  have k0 : (!houseOkB h) = false := k0
  have k0 : houseOkB h = true := by simpa using k0
  refine CallA.by hP (isIndexB_ok k (h.cabins.length : Int) (by omega) (by omega)) ?_
  cbv
  repeat (refine Pz.mk ?_; cbv)
  refine Br.split (fun k1 => ?_) (fun k1 => ?_) <;> (cbv; repeat (refine Pz.mk ?_; cbv))
  · refine ⟨?_, trivial⟩
    have k1 : (!isIn k 0 ((h.cabins.length : Int) - 1)) = true := k1
    have k1 : isIn k 0 ((h.cabins.length : Int) - 1) = false := by simpa using k1
    exact (no (by rw [hasCabB, k0, k1]; rfl)).symm
  have k1 : (!isIn k 0 ((h.cabins.length : Int) - 1)) = false := k1
  have k1 : isIn k 0 ((h.cabins.length : Int) - 1) = true := by simpa using k1
  have kk : hasCabB h k = true := by rw [hasCabB, k0, k1]; rfl
  refine CallA.by hP (loose_ok h k kk x (hx.trans (if_pos kk))) ?_
  cbv
  repeat (refine Pz.mk ?_; cbv)
  repeat' first | exact trivial | refine ⟨rfl, ?_⟩ | fail

end Go.Proofs.YtmigflddbhiajaaGreat

/-
  What a house is asked about a party: its place, its offer, its standing. No conditions.
-/
namespace Go.Proofs.YtmigflddbhiajaaGreat
open Go
set_option maxRecDepth 100000

def ptyOf (h : House) (id : Int) : Party := (h.parties[(pAt h.parties id).toNat]?).getD default
def knownB (h : House) (id : Int) : Bool := houseOkB h && decide (0 ≤ pAt h.parties id)
def placeOf (h : House) (id : Int) : Int := if knownB h id = true then qAt (cabOf h (ptyOf h id).cab).row id else -1
def offerOkB (h : House) (id : Int) : Bool := knownB h id && ((ptyOf h id).st == 2)
def offerOf (h : House) (id : Int) : Pin := if offerOkB h id = true then ⟨(ptyOf h id).untl, id⟩ else default

structure Known (h : House) (id : Int) (i : Nat) (c : Nat) : Prop where
  lt : i < h.parties.length
  at_ : pAt h.parties id = (i : Int)
  pty : ptyOf h id = h.parties[i]
  id : h.parties[i].id = id
  ok : partyOkB h.rules h.parties[i] h.now = true
  cab : h.parties[i].cab = (c : Int)
  clt : c < h.cabins.length
  ceq : cabOf h (c : Int) = h.cabins[c]

theorem known {h : House} {id : Int} (hg : HG h) (hk : 0 ≤ pAt h.parties id) : ∃ i c, Known h id i c := by
  rcases atOf_cases (fun p : Party => p.id == id) h.parties with ⟨e, _⟩ | ⟨i, hi, e, e1, _⟩
  · have : pAt h.parties id = -1 := e
    omega
  · have e : pAt h.parties id = (i : Int) := e
    have ok := (hg.parties.ok _ (List.getElem_mem hi)).1
    have ok' := ok
    simp only [partyOkB, Bool.and_eq_true] at ok'
    obtain ⟨_, _, _, hc, _⟩ := ok'
    obtain ⟨c0, c1⟩ := isIn_ok hc
    have hl := hg.cabs
    refine ⟨i, h.parties[i].cab.toNat, hi, e, ?_, beq_iff_eq.1 e1, ok, by omega, by omega, ?_⟩
    · rw [ptyOf, e, Int.toNat_natCast, List.getElem?_eq_getElem hi]; rfl
    · rw [cabOf, Int.toNat_natCast, List.getElem?_eq_getElem (by omega)]; rfl

theorem unknown {h : House} {id : Int} (hk : pAt h.parties id < 0 ∨ houseOkB h = false) : knownB h id = false := by
  rcases hk with hk | hk
  · rw [knownB, decide_eq_false (by omega)]; simp
  · rw [knownB, hk]; rfl

theorem untl_in {R : Rules} {p : Party} {now : Int} (h : partyOkB R p now = true) : 0 ≤ p.untl ∧ p.untl ≤ now + 8 := by
  simp only [partyOkB, Bool.and_eq_true, Bool.or_eq_true] at h
  obtain ⟨h1, _, _, _, _, _, _, _, _, _, _, hu⟩ := h
  have hr := ruG h1
  have a := hr.rest
  have b := hr.window
  rcases hu with ⟨_, hu⟩ | ⟨_, hu⟩
  · have := isIn_ok hu; omega
  · have := isIn_ok hu; omega

structure Stg where
  st : Int
  cab : Int
  lvl : Int
  place : Int
  left : Int
  asked : Int
deriving DecidableEq, Inhabited

def stA (x : Stg) : V := .agg [.lf (.int .i64 fun _ => x.st), .lf (.int .i64 fun _ => x.cab), .lf (.int .i64 fun _ => x.lvl), .lf (.int .i64 fun _ => x.place), .lf (.int .i64 fun _ => x.left), .lf (.int .i64 fun _ => x.asked)]
def stS (x : Unit → Stg) : List Sh := [.int .i64 fun _ => (x ()).st, .int .i64 fun _ => (x ()).cab, .int .i64 fun _ => (x ()).lvl, .int .i64 fun _ => (x ()).place, .int .i64 fun _ => (x ()).left, .int .i64 fun _ => (x ()).asked]
def piS (x : Unit → Pin) : List Sh := [.int .i64 fun _ => (x ()).tm, .int .i64 fun _ => (x ()).pid]
def stgAt (h : House) (id : Int) (p : Party) : Stg := ⟨p.st, p.cab, levelOf h.rules p h.now, placeOf h id, if p.untl - h.now > 0 then p.untl - h.now else 0, p.asked⟩
def stgOf (h : House) (id : Int) : Stg := if knownB h id = true then stgAt h id (ptyOf h id) else default

theorem eqStanding_ok (a b : Stg) : Spec Tryz.prog 41 [stA a, stA b] (Ret (bR fun _ => decide (a = b))) := by
  refine spec_of tabOk Tryz.func41 rfl rfl (fr := true) (fun _ => by kernel_rfl) fun P hP hA => ?_
  cbv
  repeat' first
    | (refine Br.split (fun h => ?_) (fun h => ?_) <;> (cbv; repeat (refine Pz.mk ?_; cbv)))
    | fail
  all_goals refine ⟨?_, trivial⟩
  all_goals (cases a; cases b; simp_all)

theorem specPlaceOf_ok (h : House) (id : Int) (hs : smallHo h) (x : Int) (hx : x = placeOf h id) : Spec Tryz.prog 34 [hoA h, iA id] (Ret (iR fun _ => x)) := by
  refine spec_of tabOk Tryz.func34 rfl rfl (fr := true) (fun _ => by kernel_rfl) fun P hP hA => ?_
  cbv
  repeat (refine Pz.mk ?_; cbv)
  refine CallA.by hP (specPartyAt_ok h id (pAt h.parties id) rfl) ?_
  cbv
  repeat (refine Pz.mk ?_; cbv)
  refine CallA.by hP (specHouseOk_ok h hs (houseOkB h) rfl) ?_
  cbv
  repeat (refine Pz.mk ?_; cbv)
  refine Br.split (fun k0 => ?_) (fun k0 => ?_) <;> (cbv; repeat (refine Pz.mk ?_; cbv))
  · have k0 : (!houseOkB h) = true := k0
    have k0 : houseOkB h = false := by simpa using k0
    have kn := unknown (id := id) (Or.inr k0)
    refine ⟨?_, trivial⟩
    exact (hx.trans (by rw [placeOf, kn]; rfl)).symm
  have k0 : (!houseOkB h) = false := k0
  have k0 : houseOkB h = true := by simpa using k0
  refine Br.dec (fun n0 => ?_) (fun n0 => ?_) <;> (cbv; repeat (refine Pz.mk ?_; cbv))
  · have n0 : pAt h.parties id < 0 := n0
    have kn := unknown (Or.inl n0)
    refine ⟨?_, trivial⟩
    exact (hx.trans (by rw [placeOf, kn]; rfl)).symm
  have n0 : ¬ pAt h.parties id < 0 := n0
  have hg := houseOk_iff.1 k0
  have kn : knownB h id = true := by rw [knownB, k0, decide_eq_true (by omega)]; rfl
  obtain ⟨i, c, g⟩ := known hg (by omega : 0 ≤ pAt h.parties id)
  have hi := g.lt
  have hc := g.clt
  have og : 0 ≤ pAt h.parties id := by omega
  have gg : h.parties[(pAt h.parties id).toNat]? = some h.parties[i] := by rw [g.at_, Int.toNat_natCast]; exact List.getElem?_eq_getElem hi
  have oc : 0 ≤ h.parties[i].cab := by rw [g.cab]; omega
  have gc : h.cabins[h.parties[i].cab.toNat]? = some h.cabins[c] := by rw [g.cab, Int.toNat_natCast]; exact List.getElem?_eq_getElem hc
  refine ⟨h.parties[i], og, gg, ?_⟩
  cbv
  repeat (refine Pz.mk ?_; cbv)
  refine ⟨h.cabins[c], oc, gc, ?_⟩
  cbv
  repeat (refine Pz.mk ?_; cbv)
  refine CallA.by hP (specQueueAt_ok h.cabins[c].row id x (hx.trans (by rw [placeOf, if_pos kn, g.pty, g.cab, g.ceq]))) ?_
  cbv
  repeat (refine Pz.mk ?_; cbv)
  repeat' first | exact trivial | refine ⟨rfl, ?_⟩ | fail

theorem specOfferOf_ok (h : House) (id : Int) (hs : smallHo h) (x : Pin) (hx : x = offerOf h id) (b : Bool) (hb : b = offerOkB h id) : Spec Tryz.prog 31 [hoA h, iA id] (Ret (.tup [(true, piS fun _ => x), (false, [.bool fun _ => b])])) := by
  refine spec_of tabOk Tryz.func31 rfl rfl (fr := true) (fun _ => by kernel_rfl) fun P hP hA => ?_
  cbv
  repeat (refine Pz.mk ?_; cbv)
  refine CallA.by hP (specPartyAt_ok h id (pAt h.parties id) rfl) ?_
  cbv
  repeat (refine Pz.mk ?_; cbv)
  refine CallA.by hP (specHouseOk_ok h hs (houseOkB h) rfl) ?_
  cbv
  repeat (refine Pz.mk ?_; cbv)
  refine Br.split (fun k0 => ?_) (fun k0 => ?_) <;> (cbv; repeat (refine Pz.mk ?_; cbv))
  · have k0 : (!houseOkB h) = true := k0
    have k0 : houseOkB h = false := by simpa using k0
    have kn := unknown (id := id) (Or.inr k0)
    have e : offerOkB h id = false := by rw [offerOkB, kn]; rfl
    obtain rfl : b = false := hb.trans e
    obtain rfl : x = default := hx.trans (if_neg (by rw [e]; simp))
    repeat' first | exact trivial | refine ⟨rfl, ?_⟩ | fail
  have k0 : (!houseOkB h) = false := k0
  have k0 : houseOkB h = true := by simpa using k0
  refine Br.dec (fun n0 => ?_) (fun n0 => ?_) <;> (cbv; repeat (refine Pz.mk ?_; cbv))
  · have n0 : pAt h.parties id < 0 := n0
    have kn := unknown (Or.inl n0)
    have e : offerOkB h id = false := by rw [offerOkB, kn]; rfl
    obtain rfl : b = false := hb.trans e
    obtain rfl : x = default := hx.trans (if_neg (by rw [e]; simp))
    repeat' first | exact trivial | refine ⟨rfl, ?_⟩ | fail
  have n0 : ¬ pAt h.parties id < 0 := n0
  have hg := houseOk_iff.1 k0
  have kn : knownB h id = true := by rw [knownB, k0, decide_eq_true (by omega)]; rfl
  obtain ⟨i, c, g⟩ := known hg (by omega : 0 ≤ pAt h.parties id)
  have hi := g.lt
  have hc := g.clt
  have og : 0 ≤ pAt h.parties id := by omega
  have gg : h.parties[(pAt h.parties id).toNat]? = some h.parties[i] := by rw [g.at_, Int.toNat_natCast]; exact List.getElem?_eq_getElem hi
  have oc : 0 ≤ h.parties[i].cab := by rw [g.cab]; omega
  have gc : h.cabins[h.parties[i].cab.toNat]? = some h.cabins[c] := by rw [g.cab, Int.toNat_natCast]; exact List.getElem?_eq_getElem hc
  refine ⟨h.parties[i], og, gg, ?_⟩
  cbv
  repeat (refine Pz.mk ?_; cbv)
  refine Br.split (fun k1 => ?_) (fun k1 => ?_) <;> (cbv; repeat (refine Pz.mk ?_; cbv))
  · have k1 : (h.parties[i].st != 2) = true := k1
    have e : offerOkB h id = false := by rw [offerOkB, kn, g.pty]; simpa using k1
    obtain rfl : b = false := hb.trans e
    obtain rfl : x = default := hx.trans (if_neg (by rw [e]; simp))
    repeat' first | exact trivial | refine ⟨rfl, ?_⟩ | fail
  have k1 : (h.parties[i].st != 2) = false := k1
  have e : offerOkB h id = true := by rw [offerOkB, kn, g.pty]; simpa using k1
  obtain rfl : b = true := hb.trans e
  obtain rfl : x = ⟨h.parties[i].untl, id⟩ := hx.trans ((if_pos e).trans (by rw [g.pty]))
  refine ⟨h.parties[i], og, gg, ?_⟩
  cbv
  repeat (refine Pz.mk ?_; cbv)
  repeat' first | exact trivial | refine ⟨rfl, ?_⟩ | fail

theorem specAsk_ok (h : House) (id : Int) (hs : smallHo h) (x : Stg) (hx : x = stgOf h id) (b : Bool) (hb : b = knownB h id) : Spec Tryz.prog 39 [hoA h, iA id] (Ret (.tup [(true, stS fun _ => x), (false, [.bool fun _ => b])])) := by
  refine spec_of tabOk Tryz.func39 rfl rfl (fr := true) (fun _ => by kernel_rfl) fun P hP hA => ?_
  cbv
  repeat (refine Pz.mk ?_; cbv)
  refine CallA.by hP (specPartyAt_ok h id (pAt h.parties id) rfl) ?_
  cbv
  repeat (refine Pz.mk ?_; cbv)
  refine CallA.by hP (specHouseOk_ok h hs (houseOkB h) rfl) ?_
  cbv
  repeat (refine Pz.mk ?_; cbv)
  refine Br.split (fun k0 => ?_) (fun k0 => ?_) <;> (cbv; repeat (refine Pz.mk ?_; cbv))
  · have k0 : (!houseOkB h) = true := k0
    have k0 : houseOkB h = false := by simpa using k0
    have kn := unknown (id := id) (Or.inr k0)
    obtain rfl : b = false := hb.trans kn
    obtain rfl : x = default := hx.trans (if_neg (by rw [kn]; simp))
    repeat' first | exact trivial | refine ⟨rfl, ?_⟩ | fail
  have k0 : (!houseOkB h) = false := k0
  have k0 : houseOkB h = true := by simpa using k0
  refine Br.dec (fun n0 => ?_) (fun n0 => ?_) <;> (cbv; repeat (refine Pz.mk ?_; cbv))
  · have n0 : pAt h.parties id < 0 := n0
    have kn := unknown (Or.inl n0)
    obtain rfl : b = false := hb.trans kn
    obtain rfl : x = default := hx.trans (if_neg (by rw [kn]; simp))
    repeat' first | exact trivial | refine ⟨rfl, ?_⟩ | fail
  have n0 : ¬ pAt h.parties id < 0 := n0
  have hg := houseOk_iff.1 k0
  have kn : knownB h id = true := by rw [knownB, k0, decide_eq_true (by omega)]; rfl
  obtain ⟨i, c, g⟩ := known hg (by omega : 0 ≤ pAt h.parties id)
  have hi := g.lt
  have hc := g.clt
  have og : 0 ≤ pAt h.parties id := by omega
  have gg : h.parties[(pAt h.parties id).toNat]? = some h.parties[i] := by rw [g.at_, Int.toNat_natCast]; exact List.getElem?_eq_getElem hi
  have oc : 0 ≤ h.parties[i].cab := by rw [g.cab]; omega
  have gc : h.cabins[h.parties[i].cab.toNat]? = some h.cabins[c] := by rw [g.cab, Int.toNat_natCast]; exact List.getElem?_eq_getElem hc
  obtain rfl : b = true := hb.trans kn
  have hx := hx.trans (if_pos kn)
  rw [g.pty] at hx
  obtain ⟨r1, r2⟩ := (parG g.ok).nowR
  obtain ⟨u0, u1⟩ := untl_in g.ok
  have hx := hx
  obtain rfl : x = stgAt h id h.parties[i] := hx
  have lf : (if 0 > h.parties[i].untl - h.now then 0 else h.parties[i].untl - h.now) = (if h.parties[i].untl - h.now > 0 then h.parties[i].untl - h.now else 0) := by split <;> split <;> omega
  refine ⟨h.parties[i], og, gg, ?_⟩
  cbv
  repeat (refine Pz.mk ?_; cbv)
  repeat' first
    | exact trivial
    | (refine CallA.by hP (specLevelOf_ok h.rules h.parties[i] h.now hs.1 (levelOf h.rules h.parties[i] h.now) rfl) ?_; cbv; repeat (refine Pz.mk ?_; cbv))
    | (refine CallA.by hP (specPlaceOf_ok h id hs (placeOf h id) rfl) ?_; cbv; repeat (refine Pz.mk ?_; cbv))
    | (refine Ar.exact (by omega) (by omega) ?_; cbv; repeat (refine Pz.mk ?_; cbv))
    | (refine CallA.by hP (l1Max_ok 0 (h.parties[i].untl - h.now)) ?_; cbv; repeat (refine Pz.mk ?_; cbv))
    | refine ⟨rfl, ?_⟩
    | refine ⟨lf, ?_⟩
    | fail

theorem implPlaceOf_ok (h : House) (id : Int) (hs : smallHo h) (x : Int) (hx : x = placeOf h id) : Spec Tryz.prog 35 [hoA h, iA id] (Ret (iR fun _ => x)) := by
  refine spec_of tabOk Tryz.func35 rfl rfl (fr := true) (fun _ => by kernel_rfl) fun P hP hA => ?_
  cbv
  repeat (refine Pz.mk ?_; cbv)
  refine CallA.by hP (implPartyAt_ok h id (pAt h.parties id) rfl) ?_
  cbv
  repeat (refine Pz.mk ?_; cbv)
  refine Br.dec (fun n0 => ?_) (fun n0 => ?_) <;> (cbv; repeat (refine Pz.mk ?_; cbv))
  · have n0 : pAt h.parties id < 0 := n0
    have kn := unknown (Or.inl n0)
    refine ⟨?_, trivial⟩
    exact (hx.trans (by rw [placeOf, kn]; rfl)).symm
  have n0 : ¬ pAt h.parties id < 0 := n0
  refine CallA.by hP (implHouseOk_ok h hs (houseOkB h) rfl) ?_
  cbv
  repeat (refine Pz.mk ?_; cbv)
  refine Br.split (fun k0 => ?_) (fun k0 => ?_) <;> (cbv; repeat (refine Pz.mk ?_; cbv))
  · have k0 : (!houseOkB h) = true := k0
    have k0 : houseOkB h = false := by simpa using k0
    have kn := unknown (id := id) (Or.inr k0)
    refine ⟨?_, trivial⟩
    exact (hx.trans (by rw [placeOf, kn]; rfl)).symm
  have k0 : (!houseOkB h) = false := k0
  have k0 : houseOkB h = true := by simpa using k0
  have hg := houseOk_iff.1 k0
  have kn : knownB h id = true := by rw [knownB, k0, decide_eq_true (by omega)]; rfl
  obtain ⟨i, c, g⟩ := known hg (by omega : 0 ≤ pAt h.parties id)
  have hi := g.lt
  have hc := g.clt
  have og : 0 ≤ pAt h.parties id := by omega
  have gg : h.parties[(pAt h.parties id).toNat]? = some h.parties[i] := by rw [g.at_, Int.toNat_natCast]; exact List.getElem?_eq_getElem hi
  have oc : 0 ≤ h.parties[i].cab := by rw [g.cab]; omega
  have gc : h.cabins[h.parties[i].cab.toNat]? = some h.cabins[c] := by rw [g.cab, Int.toNat_natCast]; exact List.getElem?_eq_getElem hc
  refine ⟨h.parties[i], og, gg, ?_⟩
  cbv
  repeat (refine Pz.mk ?_; cbv)
  refine ⟨h.cabins[c], oc, gc, ?_⟩
  cbv
  repeat (refine Pz.mk ?_; cbv)
  refine CallA.by hP (implQueueAt_ok h.cabins[c].row id x (hx.trans (by rw [placeOf, if_pos kn, g.pty, g.cab, g.ceq]))) ?_
  cbv
  repeat (refine Pz.mk ?_; cbv)
  repeat' first | exact trivial | refine ⟨rfl, ?_⟩ | fail

theorem implOfferOf_ok (h : House) (id : Int) (hs : smallHo h) (x : Pin) (hx : x = offerOf h id) (b : Bool) (hb : b = offerOkB h id) : Spec Tryz.prog 32 [hoA h, iA id] (Ret (.tup [(true, piS fun _ => x), (false, [.bool fun _ => b])])) := by
  refine spec_of tabOk Tryz.func32 rfl rfl (fr := true) (fun _ => by kernel_rfl) fun P hP hA => ?_
  cbv
  repeat (refine Pz.mk ?_; cbv)
  refine CallA.by hP (implPartyAt_ok h id (pAt h.parties id) rfl) ?_
  cbv
  repeat (refine Pz.mk ?_; cbv)
  refine Br.dec (fun n0 => ?_) (fun n0 => ?_) <;> (cbv; repeat (refine Pz.mk ?_; cbv))
  · have n0 : pAt h.parties id < 0 := n0
    have kn := unknown (Or.inl n0)
    have e : offerOkB h id = false := by rw [offerOkB, kn]; rfl
    obtain rfl : b = false := hb.trans e
    obtain rfl : x = default := hx.trans (if_neg (by rw [e]; simp))
    repeat' first | exact trivial | refine ⟨rfl, ?_⟩ | fail
  have n0 : ¬ pAt h.parties id < 0 := n0
  refine CallA.by hP (implHouseOk_ok h hs (houseOkB h) rfl) ?_
  cbv
  repeat (refine Pz.mk ?_; cbv)
  refine Br.split (fun k0 => ?_) (fun k0 => ?_) <;> (cbv; repeat (refine Pz.mk ?_; cbv))
  · have k0 : (!houseOkB h) = true := k0
    have k0 : houseOkB h = false := by simpa using k0
    have kn := unknown (id := id) (Or.inr k0)
    have e : offerOkB h id = false := by rw [offerOkB, kn]; rfl
    obtain rfl : b = false := hb.trans e
    obtain rfl : x = default := hx.trans (if_neg (by rw [e]; simp))
    repeat' first | exact trivial | refine ⟨rfl, ?_⟩ | fail
  have k0 : (!houseOkB h) = false := k0
  have k0 : houseOkB h = true := by simpa using k0
  have hg := houseOk_iff.1 k0
  have kn : knownB h id = true := by rw [knownB, k0, decide_eq_true (by omega)]; rfl
  obtain ⟨i, c, g⟩ := known hg (by omega : 0 ≤ pAt h.parties id)
  have hi := g.lt
  have hc := g.clt
  have og : 0 ≤ pAt h.parties id := by omega
  have gg : h.parties[(pAt h.parties id).toNat]? = some h.parties[i] := by rw [g.at_, Int.toNat_natCast]; exact List.getElem?_eq_getElem hi
  have oc : 0 ≤ h.parties[i].cab := by rw [g.cab]; omega
  have gc : h.cabins[h.parties[i].cab.toNat]? = some h.cabins[c] := by rw [g.cab, Int.toNat_natCast]; exact List.getElem?_eq_getElem hc
  refine ⟨h.parties[i], og, gg, ?_⟩
  cbv
  repeat (refine Pz.mk ?_; cbv)
  refine Br.split (fun k1 => ?_) (fun k1 => ?_) <;> (cbv; repeat (refine Pz.mk ?_; cbv))
  · have k1 : (h.parties[i].st != 2) = true := k1
    have e : offerOkB h id = false := by rw [offerOkB, kn, g.pty]; simpa using k1
    obtain rfl : b = false := hb.trans e
    obtain rfl : x = default := hx.trans (if_neg (by rw [e]; simp))
    repeat' first | exact trivial | refine ⟨rfl, ?_⟩ | fail
  have k1 : (h.parties[i].st != 2) = false := k1
  have e : offerOkB h id = true := by rw [offerOkB, kn, g.pty]; simpa using k1
  obtain rfl : b = true := hb.trans e
  obtain rfl : x = ⟨h.parties[i].untl, id⟩ := hx.trans ((if_pos e).trans (by rw [g.pty]))
  refine ⟨h.parties[i], og, gg, ?_⟩
  cbv
  repeat (refine Pz.mk ?_; cbv)
  repeat' first | exact trivial | refine ⟨rfl, ?_⟩ | fail

theorem implAsk_ok (h : House) (id : Int) (hs : smallHo h) (x : Stg) (hx : x = stgOf h id) (b : Bool) (hb : b = knownB h id) : Spec Tryz.prog 40 [hoA h, iA id] (Ret (.tup [(true, stS fun _ => x), (false, [.bool fun _ => b])])) := by
  refine spec_of tabOk Tryz.func40 rfl rfl (fr := true) (fun _ => by kernel_rfl) fun P hP hA => ?_
  cbv
  repeat (refine Pz.mk ?_; cbv)
  refine CallA.by hP (implPartyAt_ok h id (pAt h.parties id) rfl) ?_
  cbv
  repeat (refine Pz.mk ?_; cbv)
  refine Br.dec (fun n0 => ?_) (fun n0 => ?_) <;> (cbv; repeat (refine Pz.mk ?_; cbv))
  · have n0 : pAt h.parties id < 0 := n0
    have kn := unknown (Or.inl n0)
    obtain rfl : b = false := hb.trans kn
    obtain rfl : x = default := hx.trans (if_neg (by rw [kn]; simp))
    repeat' first | exact trivial | refine ⟨rfl, ?_⟩ | fail
  have n0 : ¬ pAt h.parties id < 0 := n0
  refine CallA.by hP (implHouseOk_ok h hs (houseOkB h) rfl) ?_
  cbv
  repeat (refine Pz.mk ?_; cbv)
  refine Br.split (fun k0 => ?_) (fun k0 => ?_) <;> (cbv; repeat (refine Pz.mk ?_; cbv))
  · have k0 : (!houseOkB h) = true := k0
    have k0 : houseOkB h = false := by simpa using k0
    have kn := unknown (id := id) (Or.inr k0)
    obtain rfl : b = false := hb.trans kn
    obtain rfl : x = default := hx.trans (if_neg (by rw [kn]; simp))
    repeat' first | exact trivial | refine ⟨rfl, ?_⟩ | fail
  have k0 : (!houseOkB h) = false := k0
  have k0 : houseOkB h = true := by simpa using k0
  have hg := houseOk_iff.1 k0
  have kn : knownB h id = true := by rw [knownB, k0, decide_eq_true (by omega)]; rfl
  obtain ⟨i, c, g⟩ := known hg (by omega : 0 ≤ pAt h.parties id)
  have hi := g.lt
  have hc := g.clt
  have og : 0 ≤ pAt h.parties id := by omega
  have gg : h.parties[(pAt h.parties id).toNat]? = some h.parties[i] := by rw [g.at_, Int.toNat_natCast]; exact List.getElem?_eq_getElem hi
  have oc : 0 ≤ h.parties[i].cab := by rw [g.cab]; omega
  have gc : h.cabins[h.parties[i].cab.toNat]? = some h.cabins[c] := by rw [g.cab, Int.toNat_natCast]; exact List.getElem?_eq_getElem hc
  obtain rfl : b = true := hb.trans kn
  have hx := hx.trans (if_pos kn)
  rw [g.pty] at hx
  obtain ⟨r1, r2⟩ := (parG g.ok).nowR
  obtain ⟨u0, u1⟩ := untl_in g.ok
  have hx := hx
  obtain rfl : x = stgAt h id h.parties[i] := hx
  have lf : (if 0 > h.parties[i].untl - h.now then 0 else h.parties[i].untl - h.now) = (if h.parties[i].untl - h.now > 0 then h.parties[i].untl - h.now else 0) := by split <;> split <;> omega
  refine ⟨h.parties[i], og, gg, ?_⟩
  cbv
  repeat (refine Pz.mk ?_; cbv)
  repeat' first
    | exact trivial
    | (refine CallA.by hP (implLevelOf_ok h.rules h.parties[i] h.now hs.1 (levelOf h.rules h.parties[i] h.now) rfl) ?_; cbv; repeat (refine Pz.mk ?_; cbv))
    | (refine CallA.by hP (implPlaceOf_ok h id hs (placeOf h id) rfl) ?_; cbv; repeat (refine Pz.mk ?_; cbv))
    | (refine Ar.exact (by omega) (by omega) ?_; cbv; repeat (refine Pz.mk ?_; cbv))
    | refine ⟨rfl, ?_⟩
    | refine ⟨lf, ?_⟩
    | fail

end Go.Proofs.YtmigflddbhiajaaGreat

/-
  Houses that are the same: rules, wheels, cabins, houses. No conditions.
-/
namespace Go.Proofs.YtmigflddbhiajaaGreat
open Go
set_option maxRecDepth 100000

theorem ru_ext {a b : Rules} (h0 : a.seats = b.seats) (h1 : a.tiers = b.tiers) (h2 : a.room = b.room) (h3 : a.size = b.size) (h4 : a.period = b.period) (h5 : a.window = b.window) (h6 : a.rest = b.rest) (h7 : a.tries = b.tries) (h8 : a.crew = b.crew) : a = b := by
  cases a; cases b; simp_all
theorem le_ext {a b : Ledger} (h0 : a.total = b.total) (h1 : a.free = b.free) (h2 : a.held = b.held) (h3 : a.sold = b.sold) (h4 : a.tied = b.tied) : a = b := by
  cases a; cases b; simp_all

def sameRuB (a b : Rules) : Bool := decide (a.seats = b.seats) && ((a.tiers == b.tiers) && ((a.room == b.room) && ((a.size == b.size) && ((a.period == b.period) && ((a.window == b.window) && ((a.rest == b.rest) && ((a.tries == b.tries) && (a.crew == b.crew))))))))
theorem sameRu_iff {a b : Rules} : sameRuB a b = decide (a = b) := by
  rw [Bool.eq_iff_iff]
  simp only [sameRuB, Bool.and_eq_true, decide_eq_true_eq, beq_iff_eq]
  constructor
  · intro ⟨h0, h1, h2, h3, h4, h5, h6, h7, h8⟩; exact ru_ext h0 h1 h2 h3 h4 h5 h6 h7 h8
  · intro h; subst h; exact ⟨rfl, rfl, rfl, rfl, rfl, rfl, rfl, rfl, rfl⟩

def sameWhB (a b : List (List Pin)) : Bool := wheelOkB a && (wheelOkB b && decide (wheelPins a = wheelPins b))
def sameLeB (a b : Ledger) : Bool := (a.total == b.total) && ((a.free == b.free) && ((a.held == b.held) && ((a.sold == b.sold) && (a.tied == b.tied))))
def sameCabB (a b : Cabin) : Bool := cabinOkB a && (cabinOkB b && (sameLeB a.seats b.seats && (decide (a.row = b.row) && sameWhB a.spoke b.spoke)))

theorem specSameRules_ok (a b : Rules) (r : Bool) (hr : r = sameRuB a b) : Spec Tryz.prog 92 [ruA a, ruA b] (Ret (bR fun _ => r)) := by
  refine spec_of tabOk Tryz.func92 rfl rfl (fr := true) (fun _ => by kernel_rfl) fun P hP hA => ?_
  cbv
  repeat (refine Pz.mk ?_; cbv)
  repeat' first
    | (refine CallA.by hP (l1Same_ok a.seats b.seats) ?_; cbv; repeat (refine Pz.mk ?_; cbv))
    | (refine Br.split (fun h => ?_) (fun h => ?_) <;> (cbv; repeat (refine Pz.mk ?_; cbv)))
    | fail
  all_goals refine ⟨?_, trivial⟩
  all_goals simp_all [sameRuB]

theorem implSameRules_ok (a b : Rules) (r : Bool) (hr : r = sameRuB a b) : Spec Tryz.prog 64 [ruA a, ruA b] (Ret (bR fun _ => r)) := by
  refine spec_of tabOk Tryz.func64 rfl rfl (fr := true) (fun _ => by kernel_rfl) fun P hP hA => ?_
  cbv
  repeat (refine Pz.mk ?_; cbv)
  repeat' first
    | (refine CallA.by hP (equalInt_ok a.seats b.seats) ?_; cbv; repeat (refine Pz.mk ?_; cbv))
    | (refine Br.split (fun h => ?_) (fun h => ?_) <;> (cbv; repeat (refine Pz.mk ?_; cbv)))
    | fail
  all_goals refine ⟨?_, trivial⟩
  all_goals simp_all [sameRuB]

theorem specSameWheel_ok (a b : List (List Pin)) (ha : SmP a) (hb : SmP b) (r : Bool) (hr : r = sameWhB a b) : Spec Tryz.prog 141 [whA a, whA b] (Ret (bR fun _ => r)) := by
  refine spec_of tabOk Tryz.func141 rfl rfl (fr := true) (fun _ => by kernel_rfl) fun P hP hA => ?_
  cbv
  repeat (refine Pz.mk ?_; cbv)
  repeat' first
    | (refine CallA.by hP (specWheelOk_ok a ha (wheelOkB a) rfl) ?_; cbv; repeat (refine Pz.mk ?_; cbv))
    | (refine CallA.by hP (specWheelOk_ok b hb (wheelOkB b) rfl) ?_; cbv; repeat (refine Pz.mk ?_; cbv))
    | (refine CallA.by hP (specPinsOf_ok a ha (wheelPins a) rfl) ?_; cbv; repeat (refine Pz.mk ?_; cbv))
    | (refine CallA.by hP (specPinsOf_ok b hb (wheelPins b) rfl) ?_; cbv; repeat (refine Pz.mk ?_; cbv))
    | (refine CallA.by hP (l9SamePins_ok (wheelPins a) (wheelPins b)) ?_; cbv; repeat (refine Pz.mk ?_; cbv))
    | (refine Br.split (fun h => ?_) (fun h => ?_) <;> (cbv; repeat (refine Pz.mk ?_; cbv)))
    | fail
  all_goals refine ⟨?_, trivial⟩
  all_goals simp_all [sameWhB]

theorem implSameWheel_ok (a b : List (List Pin)) (ha : SmP a) (hb : SmP b) (r : Bool) (hr : r = sameWhB a b) : Spec Tryz.prog 128 [whA a, whA b] (Ret (bR fun _ => r)) := by
  refine spec_of tabOk Tryz.func128 rfl rfl (fr := true) (fun _ => by kernel_rfl) fun P hP hA => ?_
  cbv
  repeat (refine Pz.mk ?_; cbv)
  repeat' first
    | (refine CallA.by hP (implWheelOk_ok a ha (wheelOkB a) rfl) ?_; cbv; repeat (refine Pz.mk ?_; cbv))
    | (refine CallA.by hP (implWheelOk_ok b hb (wheelOkB b) rfl) ?_; cbv; repeat (refine Pz.mk ?_; cbv))
    | (refine CallA.by hP (implPinsOf_ok a ha (wheelPins a) rfl) ?_; cbv; repeat (refine Pz.mk ?_; cbv))
    | (refine CallA.by hP (implPinsOf_ok b hb (wheelPins b) rfl) ?_; cbv; repeat (refine Pz.mk ?_; cbv))
    | (refine CallA.by hP (equalPin_ok (wheelPins a) (wheelPins b)) ?_; cbv; repeat (refine Pz.mk ?_; cbv))
    | (refine Br.split (fun h => ?_) (fun h => ?_) <;> (cbv; repeat (refine Pz.mk ?_; cbv)))
    | fail
  all_goals refine ⟨?_, trivial⟩
  all_goals simp_all [sameWhB]

theorem specSameCabin_ok (a b : Cabin) (ha : SmP a.spoke) (hb : SmP b.spoke) (r : Bool) (hr : r = sameCabB a b) : Spec Tryz.prog 94 [eA .cab a, eA .cab b] (Ret (bR fun _ => r)) := by
  refine spec_of tabOk Tryz.func94 rfl rfl (fr := true) (fun _ => by kernel_rfl) fun P hP hA => ?_
  cbv
  repeat (refine Pz.mk ?_; cbv)
  repeat' first
    | (refine CallA.by hP (specCabinOk_ok a ha (cabinOkB a) rfl) ?_; cbv; repeat (refine Pz.mk ?_; cbv))
    | (refine CallA.by hP (specCabinOk_ok b hb (cabinOkB b) rfl) ?_; cbv; repeat (refine Pz.mk ?_; cbv))
    | (refine CallA.by hP (l10SameRow_ok a.row b.row) ?_; cbv; repeat (refine Pz.mk ?_; cbv))
    | (refine CallA.by hP (specSameWheel_ok a.spoke b.spoke ha hb (sameWhB a.spoke b.spoke) rfl) ?_; cbv; repeat (refine Pz.mk ?_; cbv))
    | (refine Br.split (fun h => ?_) (fun h => ?_) <;> (cbv; repeat (refine Pz.mk ?_; cbv)))
    | fail
  all_goals refine ⟨?_, trivial⟩
  all_goals simp_all [sameCabB, sameLeB]

theorem implSameCabin_ok (a b : Cabin) (ha : SmP a.spoke) (hb : SmP b.spoke) (r : Bool) (hr : r = sameCabB a b) : Spec Tryz.prog 68 [eA .cab a, eA .cab b] (Ret (bR fun _ => r)) := by
  refine spec_of tabOk Tryz.func68 rfl rfl (fr := true) (fun _ => by kernel_rfl) fun P hP hA => ?_
  cbv
  repeat (refine Pz.mk ?_; cbv)
  repeat' first
    | (refine CallA.by hP (implCabinOk_ok a ha (cabinOkB a) rfl) ?_; cbv; repeat (refine Pz.mk ?_; cbv))
    | (refine CallA.by hP (implCabinOk_ok b hb (cabinOkB b) rfl) ?_; cbv; repeat (refine Pz.mk ?_; cbv))
    | (refine CallA.by hP (equalEnt_ok a.row b.row) ?_; cbv; repeat (refine Pz.mk ?_; cbv))
    | (refine CallA.by hP (implSameWheel_ok a.spoke b.spoke ha hb (sameWhB a.spoke b.spoke) rfl) ?_; cbv; repeat (refine Pz.mk ?_; cbv))
    | (refine Br.split (fun h => ?_) (fun h => ?_) <;> (cbv; repeat (refine Pz.mk ?_; cbv)))
    | fail
  all_goals refine ⟨?_, trivial⟩
  all_goals simp_all [sameCabB, sameLeB]

def cabsSameB (a b : List Cabin) : Bool := decide (a.length = b.length) && (List.zipWith sameCabB a b).all id

theorem zip_no {α : Type} {f : α → α → Bool} {a b : List α} {i : Nat} (h : i < a.length) (h' : i < b.length) (e : f a[i] b[i] = false) : (List.zipWith f a b).all id = false := by
  rw [List.all_eq_false]
  refine ⟨f a[i] b[i], ?_, by simp [e]⟩
  have hl : i < (List.zipWith f a b).length := by rw [List.length_zipWith]; omega
  have : (List.zipWith f a b)[i] = f a[i] b[i] := List.getElem_zipWith
  exact this ▸ List.getElem_mem hl

theorem zip_yes {α : Type} {f : α → α → Bool} {a b : List α} (hl : a.length = b.length) (hn : ∀ (j : Nat) x, a[j]? = some x → ∀ y, b[j]? = some y → f x y = true) : (List.zipWith f a b).all id = true := by
  rw [List.all_eq_true]
  intro x hx
  obtain ⟨i, hi, e⟩ := List.mem_iff_getElem.1 hx
  have h1 : i < a.length := by rw [List.length_zipWith] at hi; omega
  have h2 : i < b.length := by omega
  rw [List.getElem_zipWith] at e
  rw [← e]
  exact hn i _ (List.getElem?_eq_getElem h1) _ (List.getElem?_eq_getElem h2)

def sameHoB (a b : House) : Bool := houseOkB a && (houseOkB b && (sameRuB a.rules b.rules && ((a.now == b.now) && ((a.turn == b.turn) && (decide (a.parties = b.parties) && (decide (a.todo = b.todo) && (decide (a.jobs = b.jobs) && cabsSameB a.cabins b.cabins)))))))

end Go.Proofs.YtmigflddbhiajaaGreat
