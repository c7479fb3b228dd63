/-
  What a house is asked: seats, loose seats, whether it is idle, places, offers. No conditions.
-/
import Derived.Test.YtnenmkiabclncaaGreatG13
set_option linter.unusedSimpArgs false
set_option linter.unusedVariables false

namespace Go.Proofs.YtnenmkiabclncaaGreat
open Go
set_option maxRecDepth 100000

def cabOf (h : House) (k : Int) : Cabin := (h.cabins[k.toNat]?).getD default
def hasCabB (h : House) (k : Int) : Bool := houseOkB h && isIn k 0 ((h.cabins.length : Int) - 1)
def canHoldB (h : House) (k n : Int) : Bool := hasCabB h k && isIn n 1 (cabOf h k).seats.free
def looseC (c : Cabin) : Int := c.seats.sold - c.seats.tied
def looseIn (h : House) (k : Int) : Int := if hasCabB h k = true then looseC (cabOf h k) else -1
def idleB (h : House) : Bool := houseOkB h && (decide (h.todo = []) && h.jobs.all fun x => x == -1)

theorem cab_at {h : House} {k : Int} (hk : isIn k 0 ((h.cabins.length : Int) - 1) = true) : ∃ i : Nat, ∃ hi : i < h.cabins.length, k = (i : Int) ∧ cabOf h (i : Int) = h.cabins[i] := by
  obtain ⟨h0, h1⟩ := isIn_ok hk
  refine ⟨k.toNat, by omega, by omega, ?_⟩
  rw [cabOf, Int.toNat_natCast, List.getElem?_eq_getElem (by omega)]; rfl

structure LedG (x : Ledger) : Prop where
  total : 1 ≤ x.total ∧ x.total ≤ 60
  free : 0 ≤ x.free ∧ x.free ≤ x.total
  held : 0 ≤ x.held ∧ x.held ≤ x.total
  sold : 0 ≤ x.sold ∧ x.sold ≤ x.total
  sum : x.free + x.held + x.sold = x.total
  tied : 0 ≤ x.tied ∧ x.tied ≤ x.sold

theorem ledG {x : Ledger} (h : ledOkB x = true) : LedG x := by
  simp only [ledOkB, Bool.and_eq_true, decide_eq_true_eq] at h
  obtain ⟨a, b, c, d, e, f⟩ := h
  exact ⟨isIn_ok a, isIn_ok b, isIn_ok c, isIn_ok d, e, isIn_ok f⟩

structure CabG (h : House) (k : Nat) (c : Cabin) : Prop where
  total : c.seats.total = h.rules.seats.getD k 0
  led : ledOkB c.seats = true
  q : queueOkB c.row = true
  w : wheelOkB c.spoke = true
  few : ((zAll (cntIn (k : Int)) h.parties : Nat) : Int) ≤ h.rules.room
  row : c.row = queueOf h.rules h.parties (k : Int) h.now
  pins : wheelPins c.spoke = pinsIn h.parties (k : Int)
  held : c.seats.held = ((zAll (heldZ (k : Int)) h.parties : Nat) : Int)
  tied : c.seats.tied = ((zAll (tiedZ (k : Int)) h.parties : Nat) : Int)

theorem HG.at_ {h : House} (hg : HG h) {k : Nat} (hk : k < h.cabins.length) : CabG h k h.cabins[k] := by
  have hc := hg.cab k _ (List.getElem?_eq_getElem hk)
  simp only [cabAtB, agreesB, cabinOkB, Bool.and_eq_true, decide_eq_true_eq, beq_iff_eq] at hc
  obtain ⟨a, b, ⟨c, d, e⟩, f, g, i, j⟩ := hc
  exact ⟨a, c, d, e, b, f, g, i, j⟩

theorem l12Loose_ok (h : House) (k : Int) (hk : hasCabB h k = true) (x : Int) (hx : x = looseC (cabOf h k)) : Spec Tryz.prog 79 [hoA h, iA k] (Ret (iR fun _ => x)) := by
  refine spec_of tabOk Tryz.func79 rfl rfl (fr := true) (fun _ => by kernel_rfl) fun P hP hA => ?_
  have hk := Bool.and_eq_true_iff.1 hk
  obtain ⟨i, hi, rfl, e⟩ := cab_at hk.2
  have hl := ledG ((houseOk_iff.1 hk.1).at_ hi).led
  obtain ⟨t0, t1⟩ := hl.total
  obtain ⟨s0, s1⟩ := hl.sold
  obtain ⟨u0, u1⟩ := hl.tied
  cbv
  repeat (refine Pz.mk ?_; cbv)
  refine ⟨h.cabins[i], by simp, get_cast h.cabins hi, ?_⟩
  cbv
  repeat (refine Pz.mk ?_; cbv)
  refine ⟨h.cabins[i], by simp, get_cast h.cabins hi, ?_⟩
  cbv
  repeat (refine Pz.mk ?_; cbv)
  refine Ar.exact (by (try simp only [nc] at *); omega) (by (try simp only [nc] at *); omega) ?_
  cbv
  repeat (refine Pz.mk ?_; cbv)
  refine ⟨?_, trivial⟩
  exact (hx.trans (by rw [e]; rfl)).symm

theorem loose_ok (h : House) (k : Int) (hk : hasCabB h k = true) (x : Int) (hx : x = looseC (cabOf h k)) : Spec Tryz.prog 85 [hoA h, iA k] (Ret (iR fun _ => x)) := by
  refine spec_of tabOk Tryz.func85 rfl rfl (fr := true) (fun _ => by kernel_rfl) fun P hP hA => ?_
  have hk := Bool.and_eq_true_iff.1 hk
  obtain ⟨i, hi, rfl, e⟩ := cab_at hk.2
  have hl := ledG ((houseOk_iff.1 hk.1).at_ hi).led
  obtain ⟨t0, t1⟩ := hl.total
  obtain ⟨s0, s1⟩ := hl.sold
  obtain ⟨u0, u1⟩ := hl.tied
  cbv
  repeat (refine Pz.mk ?_; cbv)
  refine ⟨h.cabins[i], by simp, get_cast h.cabins hi, ?_⟩
  cbv
  repeat (refine Pz.mk ?_; cbv)
  refine ⟨h.cabins[i], by simp, get_cast h.cabins hi, ?_⟩
  cbv
  repeat (refine Pz.mk ?_; cbv)
  refine Ar.exact (by (try simp only [nc] at *); omega) (by (try simp only [nc] at *); omega) ?_
  cbv
  repeat (refine Pz.mk ?_; cbv)
  refine ⟨?_, trivial⟩
  exact (hx.trans (by rw [e]; rfl)).symm





end Go.Proofs.YtnenmkiabclncaaGreat

/-
  What a house is asked about a party: its place, its offer, its standing. No conditions.
-/
namespace Go.Proofs.YtnenmkiabclncaaGreat
open Go
set_option maxRecDepth 100000

def ptyOf (h : House) (id : Int) : Party := (h.parties[(pAt h.parties id).toNat]?).getD default
def knownB (h : House) (id : Int) : Bool := houseOkB h && decide (0 ≤ pAt h.parties id)
def placeOf (h : House) (id : Int) : Int := if knownB h id = true then qAt (cabOf h (ptyOf h id).cab).row id else -1
def offerOkB (h : House) (id : Int) : Bool := knownB h id && ((ptyOf h id).st == 2)
def offerOf (h : House) (id : Int) : Pin := if offerOkB h id = true then ⟨(ptyOf h id).untl, id⟩ else default

structure Known (h : House) (id : Int) (i : Nat) (c : Nat) : Prop where
  lt : i < h.parties.length
  at_ : pAt h.parties id = (i : Int)
  pty : ptyOf h id = h.parties[i]
  id : h.parties[i].id = id
  ok : partyOkB h.rules h.parties[i] h.now = true
  cab : h.parties[i].cab = (c : Int)
  clt : c < h.cabins.length
  ceq : cabOf h (c : Int) = h.cabins[c]

theorem known {h : House} {id : Int} (hg : HG h) (hk : 0 ≤ pAt h.parties id) : ∃ i c, Known h id i c := by
  rcases atOf_cases (fun p : Party => p.id == id) h.parties with ⟨e, _⟩ | ⟨i, hi, e, e1, _⟩
  · have : pAt h.parties id = -1 := e
    omega
  · have e : pAt h.parties id = (i : Int) := e
    have ok := (hg.parties.ok _ (List.getElem_mem hi)).1
    have ok' := ok
    simp only [partyOkB, Bool.and_eq_true] at ok'
    obtain ⟨_, _, _, hc, _⟩ := ok'
    obtain ⟨c0, c1⟩ := isIn_ok hc
    have hl := hg.cabs
    refine ⟨i, h.parties[i].cab.toNat, hi, e, ?_, beq_iff_eq.1 e1, ok, by omega, by omega, ?_⟩
    · rw [ptyOf, e, Int.toNat_natCast, List.getElem?_eq_getElem hi]; rfl
    · rw [cabOf, Int.toNat_natCast, List.getElem?_eq_getElem (by omega)]; rfl

theorem unknown {h : House} {id : Int} (hk : pAt h.parties id < 0 ∨ houseOkB h = false) : knownB h id = false := by
  rcases hk with hk | hk
  · rw [knownB, decide_eq_false (by omega)]; simp
  · rw [knownB, hk]; rfl

theorem untl_in {R : Rules} {p : Party} {now : Int} (h : partyOkB R p now = true) : 0 ≤ p.untl ∧ p.untl ≤ now + 8 := by
  simp only [partyOkB, Bool.and_eq_true, Bool.or_eq_true] at h
  obtain ⟨h1, _, _, _, _, _, _, _, _, _, _, hu⟩ := h
  have hr := ruG h1
  have a := hr.rest
  have b := hr.window
  rcases hu with ⟨_, hu⟩ | ⟨_, hu⟩
  · have := isIn_ok hu; omega
  · have := isIn_ok hu; omega

structure Stg where
  st : Int
  cab : Int
  lvl : Int
  place : Int
  left : Int
  asked : Int
deriving DecidableEq, Inhabited

def stA (x : Stg) : V := .agg [.lf (.int .i64 fun _ => x.st), .lf (.int .i64 fun _ => x.cab), .lf (.int .i64 fun _ => x.lvl), .lf (.int .i64 fun _ => x.place), .lf (.int .i64 fun _ => x.left), .lf (.int .i64 fun _ => x.asked)]
def stS (x : Unit → Stg) : List Sh := [.int .i64 fun _ => (x ()).st, .int .i64 fun _ => (x ()).cab, .int .i64 fun _ => (x ()).lvl, .int .i64 fun _ => (x ()).place, .int .i64 fun _ => (x ()).left, .int .i64 fun _ => (x ()).asked]
def piS (x : Unit → Pin) : List Sh := [.int .i64 fun _ => (x ()).tm, .int .i64 fun _ => (x ()).pid]
def stgAt (h : House) (id : Int) (p : Party) : Stg := ⟨p.st, p.cab, levelOf h.rules p h.now, placeOf h id, if p.untl - h.now > 0 then p.untl - h.now else 0, p.asked⟩
def stgOf (h : House) (id : Int) : Stg := if knownB h id = true then stgAt h id (ptyOf h id) else default








end Go.Proofs.YtnenmkiabclncaaGreat

/-
  Houses that are the same: rules, wheels, cabins, houses. No conditions.
-/
namespace Go.Proofs.YtnenmkiabclncaaGreat
open Go
set_option maxRecDepth 100000

theorem ru_ext {a b : Rules} (h0 : a.seats = b.seats) (h1 : a.tiers = b.tiers) (h2 : a.room = b.room) (h3 : a.size = b.size) (h4 : a.period = b.period) (h5 : a.window = b.window) (h6 : a.rest = b.rest) (h7 : a.tries = b.tries) (h8 : a.crew = b.crew) : a = b := by
  cases a; cases b; simp_all
theorem le_ext {a b : Ledger} (h0 : a.total = b.total) (h1 : a.free = b.free) (h2 : a.held = b.held) (h3 : a.sold = b.sold) (h4 : a.tied = b.tied) : a = b := by
  cases a; cases b; simp_all

def sameRuB (a b : Rules) : Bool := decide (a.seats = b.seats) && ((a.tiers == b.tiers) && ((a.room == b.room) && ((a.size == b.size) && ((a.period == b.period) && ((a.window == b.window) && ((a.rest == b.rest) && ((a.tries == b.tries) && (a.crew == b.crew))))))))
theorem sameRu_iff {a b : Rules} : sameRuB a b = decide (a = b) := by
  rw [Bool.eq_iff_iff]
  simp only [sameRuB, Bool.and_eq_true, decide_eq_true_eq, beq_iff_eq]
  constructor
  · intro ⟨h0, h1, h2, h3, h4, h5, h6, h7, h8⟩; exact ru_ext h0 h1 h2 h3 h4 h5 h6 h7 h8
  · intro h; subst h; exact ⟨rfl, rfl, rfl, rfl, rfl, rfl, rfl, rfl, rfl⟩

def sameWhB (a b : List (List Pin)) : Bool := wheelOkB a && (wheelOkB b && decide (wheelPins a = wheelPins b))
def sameLeB (a b : Ledger) : Bool := (a.total == b.total) && ((a.free == b.free) && ((a.held == b.held) && ((a.sold == b.sold) && (a.tied == b.tied))))
def sameCabB (a b : Cabin) : Bool := cabinOkB a && (cabinOkB b && (sameLeB a.seats b.seats && (decide (a.row = b.row) && sameWhB a.spoke b.spoke)))







def cabsSameB (a b : List Cabin) : Bool := decide (a.length = b.length) && (List.zipWith sameCabB a b).all id

theorem zip_no {α : Type} {f : α → α → Bool} {a b : List α} {i : Nat} (h : i < a.length) (h' : i < b.length) (e : f a[i] b[i] = false) : (List.zipWith f a b).all id = false := by
  rw [List.all_eq_false]
  refine ⟨f a[i] b[i], ?_, by simp [e]⟩
  have hl : i < (List.zipWith f a b).length := by rw [List.length_zipWith]; omega
  have : (List.zipWith f a b)[i] = f a[i] b[i] := List.getElem_zipWith
  exact this ▸ List.getElem_mem hl

theorem zip_yes {α : Type} {f : α → α → Bool} {a b : List α} (hl : a.length = b.length) (hn : ∀ (j : Nat) x, a[j]? = some x → ∀ y, b[j]? = some y → f x y = true) : (List.zipWith f a b).all id = true := by
  rw [List.all_eq_true]
  intro x hx
  obtain ⟨i, hi, e⟩ := List.mem_iff_getElem.1 hx
  have h1 : i < a.length := by rw [List.length_zipWith] at hi; omega
  have h2 : i < b.length := by omega
  rw [List.getElem_zipWith] at e
  rw [← e]
  exact hn i _ (List.getElem?_eq_getElem h1) _ (List.getElem?_eq_getElem h2)

def sameHoB (a b : House) : Bool := houseOkB a && (houseOkB b && (sameRuB a.rules b.rules && ((a.now == b.now) && ((a.turn == b.turn) && (decide (a.parties = b.parties) && (decide (a.todo = b.todo) && (decide (a.jobs = b.jobs) && cabsSameB a.cabins b.cabins)))))))

end Go.Proofs.YtnenmkiabclncaaGreat
