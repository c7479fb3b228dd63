/-
  The laws' own functions on structs and lists: comparison, copies, sizes. No conditions.
-/
import Derived.Test.YtmigflddbhiajaaIs
namespace Go.Proofs.Ytmigflddbhiajaa
open Go
set_option maxRecDepth 100000

def leA (x : Ledger) : V := .agg [.lf (.int .i64 fun _ => x.total), .lf (.int .i64 fun _ => x.free), .lf (.int .i64 fun _ => x.held), .lf (.int .i64 fun _ => x.sold), .lf (.int .i64 fun _ => x.tied)]
def leR (x : Unit → Ledger) : RSh := .agg [.int .i64 fun _ => (x ()).total, .int .i64 fun _ => (x ()).free, .int .i64 fun _ => (x ()).held, .int .i64 fun _ => (x ()).sold, .int .i64 fun _ => (x ()).tied]
def whA (x : List (List Pin)) : V := .agg [.lf (.list .spk fun _ => x)]
def whR (x : Unit → List (List Pin)) : RSh := .agg [.own .spk x]
def ruA (x : Rules) : V := .agg [.lf (.list .int fun _ => x.seats), .lf (.int .i64 fun _ => x.tiers), .lf (.int .i64 fun _ => x.room), .lf (.int .i64 fun _ => x.size), .lf (.int .i64 fun _ => x.period), .lf (.int .i64 fun _ => x.window), .lf (.int .i64 fun _ => x.rest), .lf (.int .i64 fun _ => x.tries), .lf (.int .i64 fun _ => x.crew)]
def ruR (x : Unit → Rules) : RSh := .agg [.own .int fun _ => (x ()).seats, .int .i64 fun _ => (x ()).tiers, .int .i64 fun _ => (x ()).room, .int .i64 fun _ => (x ()).size, .int .i64 fun _ => (x ()).period, .int .i64 fun _ => (x ()).window, .int .i64 fun _ => (x ()).rest, .int .i64 fun _ => (x ()).tries, .int .i64 fun _ => (x ()).crew]
def hoA (x : House) : V := .agg [.lf (.list .int fun _ => x.rules.seats), .lf (.int .i64 fun _ => x.rules.tiers), .lf (.int .i64 fun _ => x.rules.room), .lf (.int .i64 fun _ => x.rules.size), .lf (.int .i64 fun _ => x.rules.period), .lf (.int .i64 fun _ => x.rules.window), .lf (.int .i64 fun _ => x.rules.rest), .lf (.int .i64 fun _ => x.rules.tries), .lf (.int .i64 fun _ => x.rules.crew),
  .lf (.int .i64 fun _ => x.now), .lf (.int .i64 fun _ => x.turn), .lf (.list .pty fun _ => x.parties), .lf (.list .cab fun _ => x.cabins), .lf (.list .int fun _ => x.todo), .lf (.list .int fun _ => x.jobs)]
def hoS (x : Unit → House) : List Sh := [.own .int fun _ => (x ()).rules.seats, .int .i64 fun _ => (x ()).rules.tiers, .int .i64 fun _ => (x ()).rules.room, .int .i64 fun _ => (x ()).rules.size, .int .i64 fun _ => (x ()).rules.period, .int .i64 fun _ => (x ()).rules.window, .int .i64 fun _ => (x ()).rules.rest, .int .i64 fun _ => (x ()).rules.tries, .int .i64 fun _ => (x ()).rules.crew,
  .int .i64 fun _ => (x ()).now, .int .i64 fun _ => (x ()).turn, .own .pty fun _ => (x ()).parties, .own .cab fun _ => (x ()).cabins, .own .int fun _ => (x ()).todo, .own .int fun _ => (x ()).jobs]
def hoR (x : Unit → House) : RSh := .agg (hoS x)

def smallSpk (a : List (List Pin)) : Prop := a.length ≤ bigN ∧ ∀ x ∈ a, x.length ≤ bigN
def smallCab (x : Cabin) : Prop := x.row.length ≤ bigN ∧ smallSpk x.spoke
def smallCabs (a : List Cabin) : Prop := a.length ≤ bigN ∧ ∀ x ∈ a, smallCab x
def smallHo (x : House) : Prop := x.rules.seats.length ≤ bigN ∧ x.parties.length ≤ bigN ∧ smallCabs x.cabins ∧ x.todo.length ≤ bigN ∧ x.jobs.length ≤ bigN

theorem eqPin_ok (a b : Pin) : Spec Try.prog 54 [eA .pin a, eA .pin b] (Ret (bR fun _ => decide (a = b))) := by
  refine spec_of tabOk Try.func54 rfl rfl fun P hP hA => ?_
  cbv
  refine Br.split (fun h0 => ?_) (fun h0 => ?_) <;> cbv
  · refine ⟨?_, trivial⟩
    have : a ≠ b := fun h => by subst h; simp at h0
    simp [this]
  refine Br.split (fun h1 => ?_) (fun h1 => ?_) <;> cbv
  · refine ⟨?_, trivial⟩
    have : a ≠ b := fun h => by subst h; simp at h1
    simp [this]
  refine ⟨?_, trivial⟩
  have e0 : a.tm = b.tm := by simpa using h0
  have e1 : a.pid = b.pid := by simpa using h1
  have : a = b := by
    cases a; cases b
    simp only at e0 e1
    subst e0 e1
    rfl
  simp [this]

theorem eqEntry_ok (a b : Entry) : Spec Try.prog 51 [eA .ent a, eA .ent b] (Ret (bR fun _ => decide (a = b))) := by
  refine spec_of tabOk Try.func51 rfl rfl fun P hP hA => ?_
  cbv
  refine Br.split (fun h0 => ?_) (fun h0 => ?_) <;> cbv
  · refine ⟨?_, trivial⟩
    have : a ≠ b := fun h => by subst h; simp at h0
    simp [this]
  refine Br.split (fun h1 => ?_) (fun h1 => ?_) <;> cbv
  · refine ⟨?_, trivial⟩
    have : a ≠ b := fun h => by subst h; simp at h1
    simp [this]
  refine Br.split (fun h2 => ?_) (fun h2 => ?_) <;> cbv
  · refine ⟨?_, trivial⟩
    have : a ≠ b := fun h => by subst h; simp at h2
    simp [this]
  refine Br.split (fun h3 => ?_) (fun h3 => ?_) <;> cbv
  · refine ⟨?_, trivial⟩
    have : a ≠ b := fun h => by subst h; simp at h3
    simp [this]
  refine ⟨?_, trivial⟩
  have e0 : a.lvl = b.lvl := by simpa using h0
  have e1 : a.turn = b.turn := by simpa using h1
  have e2 : a.eid = b.eid := by simpa using h2
  have e3 : a.siz = b.siz := by simpa using h3
  have : a = b := by
    cases a; cases b
    simp only at e0 e1 e2 e3
    subst e0 e1 e2 e3
    rfl
  simp [this]

theorem eqParty_ok (a b : Party) : Spec Try.prog 38 [eA .pty a, eA .pty b] (Ret (bR fun _ => decide (a = b))) := by
  refine spec_of tabOk Try.func38 rfl rfl fun P hP hA => ?_
  cbv
  refine Br.split (fun h0 => ?_) (fun h0 => ?_) <;> cbv
  · refine ⟨?_, trivial⟩
    have : a ≠ b := fun h => by subst h; simp at h0
    simp [this]
  refine Br.split (fun h1 => ?_) (fun h1 => ?_) <;> cbv
  · refine ⟨?_, trivial⟩
    have : a ≠ b := fun h => by subst h; simp at h1
    simp [this]
  refine Br.split (fun h2 => ?_) (fun h2 => ?_) <;> cbv
  · refine ⟨?_, trivial⟩
    have : a ≠ b := fun h => by subst h; simp at h2
    simp [this]
  refine Br.split (fun h3 => ?_) (fun h3 => ?_) <;> cbv
  · refine ⟨?_, trivial⟩
    have : a ≠ b := fun h => by subst h; simp at h3
    simp [this]
  refine Br.split (fun h4 => ?_) (fun h4 => ?_) <;> cbv
  · refine ⟨?_, trivial⟩
    have : a ≠ b := fun h => by subst h; simp at h4
    simp [this]
  refine Br.split (fun h5 => ?_) (fun h5 => ?_) <;> cbv
  · refine ⟨?_, trivial⟩
    have : a ≠ b := fun h => by subst h; simp at h5
    simp [this]
  refine Br.split (fun h6 => ?_) (fun h6 => ?_) <;> cbv
  · refine ⟨?_, trivial⟩
    have : a ≠ b := fun h => by subst h; simp at h6
    simp [this]
  refine Br.split (fun h7 => ?_) (fun h7 => ?_) <;> cbv
  · refine ⟨?_, trivial⟩
    have : a ≠ b := fun h => by subst h; simp at h7
    simp [this]
  refine Br.split (fun h8 => ?_) (fun h8 => ?_) <;> cbv
  · refine ⟨?_, trivial⟩
    have : a ≠ b := fun h => by subst h; simp at h8
    simp [this]
  refine Br.split (fun h9 => ?_) (fun h9 => ?_) <;> cbv
  · refine ⟨?_, trivial⟩
    have : a ≠ b := fun h => by subst h; simp at h9
    simp [this]
  refine ⟨?_, trivial⟩
  have e0 : a.id = b.id := by simpa using h0
  have e1 : a.cab = b.cab := by simpa using h1
  have e2 : a.frm = b.frm := by simpa using h2
  have e3 : a.siz = b.siz := by simpa using h3
  have e4 : a.tier = b.tier := by simpa using h4
  have e5 : a.since = b.since := by simpa using h5
  have e6 : a.turn = b.turn := by simpa using h6
  have e7 : a.st = b.st := by simpa using h7
  have e8 : a.untl = b.untl := by simpa using h8
  have e9 : a.asked = b.asked := by simpa using h9
  have : a = b := by
    cases a; cases b
    simp only at e0 e1 e2 e3 e4 e5 e6 e7 e8 e9
    subst e0 e1 e2 e3 e4 e5 e6 e7 e8 e9
    rfl
  simp [this]

theorem eqLedger_ok (a b : Ledger) : Spec Try.prog 46 [leA a, leA b] (Ret (bR fun _ => decide (a = b))) := by
  refine spec_of tabOk Try.func46 rfl rfl fun P hP hA => ?_
  cbv
  refine Br.split (fun h0 => ?_) (fun h0 => ?_) <;> cbv
  · refine ⟨?_, trivial⟩
    have : a ≠ b := fun h => by subst h; simp at h0
    simp [this]
  refine Br.split (fun h1 => ?_) (fun h1 => ?_) <;> cbv
  · refine ⟨?_, trivial⟩
    have : a ≠ b := fun h => by subst h; simp at h1
    simp [this]
  refine Br.split (fun h2 => ?_) (fun h2 => ?_) <;> cbv
  · refine ⟨?_, trivial⟩
    have : a ≠ b := fun h => by subst h; simp at h2
    simp [this]
  refine Br.split (fun h3 => ?_) (fun h3 => ?_) <;> cbv
  · refine ⟨?_, trivial⟩
    have : a ≠ b := fun h => by subst h; simp at h3
    simp [this]
  refine Br.split (fun h4 => ?_) (fun h4 => ?_) <;> cbv
  · refine ⟨?_, trivial⟩
    have : a ≠ b := fun h => by subst h; simp at h4
    simp [this]
  refine ⟨?_, trivial⟩
  have e0 : a.total = b.total := by simpa using h0
  have e1 : a.free = b.free := by simpa using h1
  have e2 : a.held = b.held := by simpa using h2
  have e3 : a.sold = b.sold := by simpa using h3
  have e4 : a.tied = b.tied := by simpa using h4
  have : a = b := by
    cases a; cases b
    simp only at e0 e1 e2 e3 e4
    subst e0 e1 e2 e3 e4
    rfl
  simp [this]

theorem eqPinS_ok (a b : List Pin) : Spec Try.prog 53 [lA .pin a, lA .pin b] (Ret (bR fun _ => decide (a = b))) := by
  refine spec_of tabOk Try.func53 rfl rfl fun P hP hA => ?_
  obtain ⟨⟨ha, _⟩, _⟩ := hA
  have ha : a.length ≤ 9223372036854775807 := ha
  cbv
  refine Br.split (fun h1 => ?_) (fun h1 => ?_) <;> cbv
  · refine ⟨?_, trivial⟩
    have := len_ne (a := a) (b := b) h1
    simp [this]
  have h1 := len_eq (a := a) (b := b) h1
  refine LoopE.by (X := Nat) (fun i => [(0, lA .pin a), (1, lA .pin b), (5, nT fun _ => i)]) (fun _ => []) (fun i => i ≤ a.length ∧ a.take i = b.take i) (fun i _ => a.length - i) 0 ⟨Nat.zero_le _, by simp⟩ ?_ ?_
  · cbv; exact ⟨rfl, rfl, rfl, trivial⟩
  · intro i ⟨hi, ht⟩
    cbv
    refine Br.dec (fun h2 => ?_) (fun h2 => ?_) <;> cbv
    · have h2 : i < a.length := by simpa using h2
      refine ⟨a[i], by simp, get_cast a h2, ?_⟩
      cbv
      refine ⟨b[i], by simp, get_cast b (h1 ▸ h2), ?_⟩
      cbv
      refine CallA.by hP (eqPin_ok a[i] (b[i]'(h1 ▸ h2))) ?_
      cbv
      refine Br.split (fun h3 => ?_) (fun h3 => ?_) <;> cbv
      · refine ⟨?_, trivial⟩
        have := take_ne h2 (h1 ▸ h2) (by simpa using h3)
        simp [this]
      · refine Ar.exact ?_ ?_ ?_
        · show -9223372036854775808 ≤ (i : Int) + 1
          omega
        · show (i : Int) + 1 ≤ 9223372036854775807
          omega
        cbv
        refine NextE.by (i + 1) ?_ ?_ ?_
        · show a.length - (i + 1) < a.length - i
          omega
        · exact ⟨h2, take_step ht h2 (h1 ▸ h2) (by simpa using h3)⟩
        · cbv; exact ⟨rfl, rfl, rfl, trivial⟩
    · refine ⟨?_, trivial⟩
      have h2 : a.length ≤ i := by simp at h2; omega
      simp [take_all h1 h2 ht]

theorem eqPinSS_ok (a b : List (List Pin)) : Spec Try.prog 52 [lA .spk a, lA .spk b] (Ret (bR fun _ => decide (a = b))) := by
  refine spec_of tabOk Try.func52 rfl rfl fun P hP hA => ?_
  obtain ⟨⟨ha, _⟩, _⟩ := hA
  have ha : a.length ≤ 9223372036854775807 := ha
  cbv
  refine Br.split (fun h1 => ?_) (fun h1 => ?_) <;> cbv
  · refine ⟨?_, trivial⟩
    have := len_ne (a := a) (b := b) h1
    simp [this]
  have h1 := len_eq (a := a) (b := b) h1
  refine LoopE.by (X := Nat) (fun i => [(0, lA .spk a), (1, lA .spk b), (5, nT fun _ => i)]) (fun _ => []) (fun i => i ≤ a.length ∧ a.take i = b.take i) (fun i _ => a.length - i) 0 ⟨Nat.zero_le _, by simp⟩ ?_ ?_
  · cbv; exact ⟨rfl, rfl, rfl, trivial⟩
  · intro i ⟨hi, ht⟩
    cbv
    refine Br.dec (fun h2 => ?_) (fun h2 => ?_) <;> cbv
    · have h2 : i < a.length := by simpa using h2
      refine ⟨a[i], by simp, get_cast a h2, ?_⟩
      cbv
      refine ⟨b[i], by simp, get_cast b (h1 ▸ h2), ?_⟩
      cbv
      refine CallA.by hP (eqPinS_ok a[i] (b[i]'(h1 ▸ h2))) ?_
      cbv
      refine Br.split (fun h3 => ?_) (fun h3 => ?_) <;> cbv
      · refine ⟨?_, trivial⟩
        have := take_ne h2 (h1 ▸ h2) (by simpa using h3)
        simp [this]
      · refine Ar.exact ?_ ?_ ?_
        · show -9223372036854775808 ≤ (i : Int) + 1
          omega
        · show (i : Int) + 1 ≤ 9223372036854775807
          omega
        cbv
        refine NextE.by (i + 1) ?_ ?_ ?_
        · show a.length - (i + 1) < a.length - i
          omega
        · exact ⟨h2, take_step ht h2 (h1 ▸ h2) (by simpa using h3)⟩
        · cbv; exact ⟨rfl, rfl, rfl, trivial⟩
    · refine ⟨?_, trivial⟩
      have h2 : a.length ≤ i := by simp at h2; omega
      simp [take_all h1 h2 ht]

theorem eqEntryS_ok (a b : List Entry) : Spec Try.prog 47 [lA .ent a, lA .ent b] (Ret (bR fun _ => decide (a = b))) := by
  refine spec_of tabOk Try.func47 rfl rfl fun P hP hA => ?_
  obtain ⟨⟨ha, _⟩, _⟩ := hA
  have ha : a.length ≤ 9223372036854775807 := ha
  cbv
  refine Br.split (fun h1 => ?_) (fun h1 => ?_) <;> cbv
  · refine ⟨?_, trivial⟩
    have := len_ne (a := a) (b := b) h1
    simp [this]
  have h1 := len_eq (a := a) (b := b) h1
  refine LoopE.by (X := Nat) (fun i => [(0, lA .ent a), (1, lA .ent b), (5, nT fun _ => i)]) (fun _ => []) (fun i => i ≤ a.length ∧ a.take i = b.take i) (fun i _ => a.length - i) 0 ⟨Nat.zero_le _, by simp⟩ ?_ ?_
  · cbv; exact ⟨rfl, rfl, rfl, trivial⟩
  · intro i ⟨hi, ht⟩
    cbv
    refine Br.dec (fun h2 => ?_) (fun h2 => ?_) <;> cbv
    · have h2 : i < a.length := by simpa using h2
      refine ⟨a[i], by simp, get_cast a h2, ?_⟩
      cbv
      refine ⟨b[i], by simp, get_cast b (h1 ▸ h2), ?_⟩
      cbv
      refine CallA.by hP (eqEntry_ok a[i] (b[i]'(h1 ▸ h2))) ?_
      cbv
      refine Br.split (fun h3 => ?_) (fun h3 => ?_) <;> cbv
      · refine ⟨?_, trivial⟩
        have := take_ne h2 (h1 ▸ h2) (by simpa using h3)
        simp [this]
      · refine Ar.exact ?_ ?_ ?_
        · show -9223372036854775808 ≤ (i : Int) + 1
          omega
        · show (i : Int) + 1 ≤ 9223372036854775807
          omega
        cbv
        refine NextE.by (i + 1) ?_ ?_ ?_
        · show a.length - (i + 1) < a.length - i
          omega
        · exact ⟨h2, take_step ht h2 (h1 ▸ h2) (by simpa using h3)⟩
        · cbv; exact ⟨rfl, rfl, rfl, trivial⟩
    · refine ⟨?_, trivial⟩
      have h2 : a.length ≤ i := by simp at h2; omega
      simp [take_all h1 h2 ht]

theorem eqPartyS_ok (a b : List Party) : Spec Try.prog 21 [lA .pty a, lA .pty b] (Ret (bR fun _ => decide (a = b))) := by
  refine spec_of tabOk Try.func21 rfl rfl fun P hP hA => ?_
  obtain ⟨⟨ha, _⟩, _⟩ := hA
  have ha : a.length ≤ 9223372036854775807 := ha
  cbv
  refine Br.split (fun h1 => ?_) (fun h1 => ?_) <;> cbv
  · refine ⟨?_, trivial⟩
    have := len_ne (a := a) (b := b) h1
    simp [this]
  have h1 := len_eq (a := a) (b := b) h1
  refine LoopE.by (X := Nat) (fun i => [(0, lA .pty a), (1, lA .pty b), (5, nT fun _ => i)]) (fun _ => []) (fun i => i ≤ a.length ∧ a.take i = b.take i) (fun i _ => a.length - i) 0 ⟨Nat.zero_le _, by simp⟩ ?_ ?_
  · cbv; exact ⟨rfl, rfl, rfl, trivial⟩
  · intro i ⟨hi, ht⟩
    cbv
    refine Br.dec (fun h2 => ?_) (fun h2 => ?_) <;> cbv
    · have h2 : i < a.length := by simpa using h2
      refine ⟨a[i], by simp, get_cast a h2, ?_⟩
      cbv
      refine ⟨b[i], by simp, get_cast b (h1 ▸ h2), ?_⟩
      cbv
      refine CallA.by hP (eqParty_ok a[i] (b[i]'(h1 ▸ h2))) ?_
      cbv
      refine Br.split (fun h3 => ?_) (fun h3 => ?_) <;> cbv
      · refine ⟨?_, trivial⟩
        have := take_ne h2 (h1 ▸ h2) (by simpa using h3)
        simp [this]
      · refine Ar.exact ?_ ?_ ?_
        · show -9223372036854775808 ≤ (i : Int) + 1
          omega
        · show (i : Int) + 1 ≤ 9223372036854775807
          omega
        cbv
        refine NextE.by (i + 1) ?_ ?_ ?_
        · show a.length - (i + 1) < a.length - i
          omega
        · exact ⟨h2, take_step ht h2 (h1 ▸ h2) (by simpa using h3)⟩
        · cbv; exact ⟨rfl, rfl, rfl, trivial⟩
    · refine ⟨?_, trivial⟩
      have h2 : a.length ≤ i := by simp at h2; omega
      simp [take_all h1 h2 ht]

theorem eqWheel_ok (a b : List (List Pin)) : Spec Try.prog 48 [whA a, whA b] (Ret (bR fun _ => decide (a = b))) := by
  refine spec_of tabOk Try.func48 rfl rfl fun P hP hA => ?_
  cbv
  refine CallA.by hP (eqPinSS_ok a b) ?_
  cbv
  refine Br.split (fun h => ?_) (fun h => ?_) <;> cbv
  · refine ⟨?_, trivial⟩
    have : a ≠ b := by simpa using h
    simp [this]
  · refine ⟨?_, trivial⟩
    have : a = b := by simpa using h
    simp [this]

theorem eqCabin_ok (a b : Cabin) : Spec Try.prog 39 [eA .cab a, eA .cab b] (Ret (bR fun _ => decide (a = b))) := by
  refine spec_of tabOk Try.func39 rfl rfl fun P hP hA => ?_
  cbv
  refine CallA.by hP (eqLedger_ok a.seats b.seats) ?_
  cbv
  refine Br.split (fun h0 => ?_) (fun h0 => ?_) <;> cbv
  · refine ⟨?_, trivial⟩
    have : a ≠ b := fun h => by subst h; simp at h0
    simp [this]
  have e0 : a.seats = b.seats := by simpa using h0
  refine CallA.by hP (eqEntryS_ok a.row b.row) ?_
  cbv
  refine Br.split (fun h1 => ?_) (fun h1 => ?_) <;> cbv
  · refine ⟨?_, trivial⟩
    have : a ≠ b := fun h => by subst h; simp at h1
    simp [this]
  have e1 : a.row = b.row := by simpa using h1
  refine CallA.by hP (eqWheel_ok a.spoke b.spoke) ?_
  cbv
  refine Br.split (fun h2 => ?_) (fun h2 => ?_) <;> cbv
  · refine ⟨?_, trivial⟩
    have : a ≠ b := fun h => by subst h; simp at h2
    simp [this]
  have e2 : a.spoke = b.spoke := by simpa using h2
  refine ⟨?_, trivial⟩
  have : a = b := by
    cases a; cases b
    simp only at e0 e1 e2
    subst e0 e1 e2
    rfl
  simp [this]

theorem eqCabinS_ok (a b : List Cabin) : Spec Try.prog 22 [lA .cab a, lA .cab b] (Ret (bR fun _ => decide (a = b))) := by
  refine spec_of tabOk Try.func22 rfl rfl fun P hP hA => ?_
  obtain ⟨⟨ha, _⟩, _⟩ := hA
  have ha : a.length ≤ 9223372036854775807 := ha
  cbv
  refine Br.split (fun h1 => ?_) (fun h1 => ?_) <;> cbv
  · refine ⟨?_, trivial⟩
    have := len_ne (a := a) (b := b) h1
    simp [this]
  have h1 := len_eq (a := a) (b := b) h1
  refine LoopE.by (X := Nat) (fun i => [(0, lA .cab a), (1, lA .cab b), (5, nT fun _ => i)]) (fun _ => []) (fun i => i ≤ a.length ∧ a.take i = b.take i) (fun i _ => a.length - i) 0 ⟨Nat.zero_le _, by simp⟩ ?_ ?_
  · cbv; exact ⟨rfl, rfl, rfl, trivial⟩
  · intro i ⟨hi, ht⟩
    cbv
    refine Br.dec (fun h2 => ?_) (fun h2 => ?_) <;> cbv
    · have h2 : i < a.length := by simpa using h2
      refine ⟨a[i], by simp, get_cast a h2, ?_⟩
      cbv
      refine ⟨b[i], by simp, get_cast b (h1 ▸ h2), ?_⟩
      cbv
      refine CallA.by hP (eqCabin_ok a[i] (b[i]'(h1 ▸ h2))) ?_
      cbv
      refine Br.split (fun h3 => ?_) (fun h3 => ?_) <;> cbv
      · refine ⟨?_, trivial⟩
        have := take_ne h2 (h1 ▸ h2) (by simpa using h3)
        simp [this]
      · refine Ar.exact ?_ ?_ ?_
        · show -9223372036854775808 ≤ (i : Int) + 1
          omega
        · show (i : Int) + 1 ≤ 9223372036854775807
          omega
        cbv
        refine NextE.by (i + 1) ?_ ?_ ?_
        · show a.length - (i + 1) < a.length - i
          omega
        · exact ⟨h2, take_step ht h2 (h1 ▸ h2) (by simpa using h3)⟩
        · cbv; exact ⟨rfl, rfl, rfl, trivial⟩
    · refine ⟨?_, trivial⟩
      have h2 : a.length ≤ i := by simp at h2; omega
      simp [take_all h1 h2 ht]

theorem eqRules_ok (a b : Rules) : Spec Try.prog 9 [ruA a, ruA b] (Ret (bR fun _ => decide (a = b))) := by
  refine spec_of tabOk Try.func9 rfl rfl fun P hP hA => ?_
  cbv
  refine CallA.by hP (eqIntS_ok a.seats b.seats) ?_
  cbv
  refine Br.split (fun h0 => ?_) (fun h0 => ?_) <;> cbv
  · refine ⟨?_, trivial⟩
    have : a ≠ b := fun h => by subst h; simp at h0
    simp [this]
  have e0 : a.seats = b.seats := by simpa using h0
  refine Br.split (fun h1 => ?_) (fun h1 => ?_) <;> cbv
  · refine ⟨?_, trivial⟩
    have : a ≠ b := fun h => by subst h; simp at h1
    simp [this]
  have e1 : a.tiers = b.tiers := by simpa using h1
  refine Br.split (fun h2 => ?_) (fun h2 => ?_) <;> cbv
  · refine ⟨?_, trivial⟩
    have : a ≠ b := fun h => by subst h; simp at h2
    simp [this]
  have e2 : a.room = b.room := by simpa using h2
  refine Br.split (fun h3 => ?_) (fun h3 => ?_) <;> cbv
  · refine ⟨?_, trivial⟩
    have : a ≠ b := fun h => by subst h; simp at h3
    simp [this]
  have e3 : a.size = b.size := by simpa using h3
  refine Br.split (fun h4 => ?_) (fun h4 => ?_) <;> cbv
  · refine ⟨?_, trivial⟩
    have : a ≠ b := fun h => by subst h; simp at h4
    simp [this]
  have e4 : a.period = b.period := by simpa using h4
  refine Br.split (fun h5 => ?_) (fun h5 => ?_) <;> cbv
  · refine ⟨?_, trivial⟩
    have : a ≠ b := fun h => by subst h; simp at h5
    simp [this]
  have e5 : a.window = b.window := by simpa using h5
  refine Br.split (fun h6 => ?_) (fun h6 => ?_) <;> cbv
  · refine ⟨?_, trivial⟩
    have : a ≠ b := fun h => by subst h; simp at h6
    simp [this]
  have e6 : a.rest = b.rest := by simpa using h6
  refine Br.split (fun h7 => ?_) (fun h7 => ?_) <;> cbv
  · refine ⟨?_, trivial⟩
    have : a ≠ b := fun h => by subst h; simp at h7
    simp [this]
  have e7 : a.tries = b.tries := by simpa using h7
  refine Br.split (fun h8 => ?_) (fun h8 => ?_) <;> cbv
  · refine ⟨?_, trivial⟩
    have : a ≠ b := fun h => by subst h; simp at h8
    simp [this]
  have e8 : a.crew = b.crew := by simpa using h8
  refine ⟨?_, trivial⟩
  have : a = b := by
    cases a; cases b
    simp only at e0 e1 e2 e3 e4 e5 e6 e7 e8
    subst e0 e1 e2 e3 e4 e5 e6 e7 e8
    rfl
  simp [this]

theorem eqHouse_ok (a b : House) : Spec Try.prog 8 [hoA a, hoA b] (Ret (bR fun _ => decide (a = b))) := by
  refine spec_of tabOk Try.func8 rfl rfl fun P hP hA => ?_
  cbv
  refine CallA.by hP (eqRules_ok a.rules b.rules) ?_
  cbv
  refine Br.split (fun h0 => ?_) (fun h0 => ?_) <;> cbv
  · refine ⟨?_, trivial⟩
    have : a ≠ b := fun h => by subst h; simp at h0
    simp [this]
  have e0 : a.rules = b.rules := by simpa using h0
  refine Br.split (fun h1 => ?_) (fun h1 => ?_) <;> cbv
  · refine ⟨?_, trivial⟩
    have : a ≠ b := fun h => by subst h; simp at h1
    simp [this]
  have e1 : a.now = b.now := by simpa using h1
  refine Br.split (fun h2 => ?_) (fun h2 => ?_) <;> cbv
  · refine ⟨?_, trivial⟩
    have : a ≠ b := fun h => by subst h; simp at h2
    simp [this]
  have e2 : a.turn = b.turn := by simpa using h2
  refine CallA.by hP (eqPartyS_ok a.parties b.parties) ?_
  cbv
  refine Br.split (fun h3 => ?_) (fun h3 => ?_) <;> cbv
  · refine ⟨?_, trivial⟩
    have : a ≠ b := fun h => by subst h; simp at h3
    simp [this]
  have e3 : a.parties = b.parties := by simpa using h3
  refine CallA.by hP (eqCabinS_ok a.cabins b.cabins) ?_
  cbv
  refine Br.split (fun h4 => ?_) (fun h4 => ?_) <;> cbv
  · refine ⟨?_, trivial⟩
    have : a ≠ b := fun h => by subst h; simp at h4
    simp [this]
  have e4 : a.cabins = b.cabins := by simpa using h4
  refine CallA.by hP (eqIntS_ok a.todo b.todo) ?_
  cbv
  refine Br.split (fun h5 => ?_) (fun h5 => ?_) <;> cbv
  · refine ⟨?_, trivial⟩
    have : a ≠ b := fun h => by subst h; simp at h5
    simp [this]
  have e5 : a.todo = b.todo := by simpa using h5
  refine CallA.by hP (eqIntS_ok a.jobs b.jobs) ?_
  cbv
  refine Br.split (fun h6 => ?_) (fun h6 => ?_) <;> cbv
  · refine ⟨?_, trivial⟩
    have : a ≠ b := fun h => by subst h; simp at h6
    simp [this]
  have e6 : a.jobs = b.jobs := by simpa using h6
  refine ⟨?_, trivial⟩
  have : a = b := by
    cases a; cases b
    simp only at e0 e1 e2 e3 e4 e5 e6
    subst e0 e1 e2 e3 e4 e5 e6
    rfl
  simp [this]












theorem toRules_ok (a : Rules) (hs : a.seats.length ≤ bigN) : Spec Try.prog 6 [ruA a] (Ret (ruR fun _ => a)) := by
  refine spec_of tabOk Try.func6 rfl rfl fun P hP hA => ?_
  cbv
  refine CallA.by hP (toIntS_ok a.seats hs) ?_
  cbv
  exact ⟨rfl, rfl, rfl, rfl, rfl, rfl, rfl, rfl, rfl, trivial⟩









theorem szRules_ok (a : Rules) (left : Int) (h0 : 0 ≤ left) (hb : left ≤ 1048576) : Spec Try.prog 4 [ruA a, iA left] (RetX Int (fun r => szP (a.seats.length ≤ bigN) left r) fun r => iR fun _ => r) := by
  refine spec_of tabOk Try.func4 rfl rfl fun P hP hA => ?_
  cbv
  have g0 : left ≤ 1048576 := by omega
  refine CallA.ex hP (szIntS_ok a.seats left h0 g0) fun r0 hr0 => ?_
  cbv
  have hh0 := hr0.hi
  refine Br.dec (fun k0 => ?_) (fun k0 => ?_) <;> cbv
  · refine ⟨-1, ⟨by omega, by omega, by omega⟩, ?_⟩
    cbv; exact ⟨rfl, trivial⟩
  have p0 : 0 ≤ r0 := by
    have k : ¬ r0 < 0 := k0
    omega
  refine ⟨r0, ⟨by omega, by omega, fun _ => hr0.ok p0⟩, ?_⟩
  cbv; exact ⟨rfl, trivial⟩


end Go.Proofs.Ytmigflddbhiajaa
