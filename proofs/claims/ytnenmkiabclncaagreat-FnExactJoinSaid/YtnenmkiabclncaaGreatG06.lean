/- Parts of a proof. No conditions. -/

import Derived.Test.YtnenmkiabclncaaGreatG05
set_option linter.unusedSimpArgs false
set_option linter.unusedVariables false
namespace Go.Proofs.YtnenmkiabclncaaGreat
open Go
set_option maxRecDepth 100000
def leA (x : Ledger) : V := .agg [.lf (.int .i64 fun _ => x.total), .lf (.int .i64 fun _ => x.free), .lf (.int .i64 fun _ => x.held), .lf (.int .i64 fun _ => x.sold), .lf (.int .i64 fun _ => x.tied)]
def leR (x : Unit → Ledger) : RSh := .agg [.int .i64 fun _ => (x ()).total, .int .i64 fun _ => (x ()).free, .int .i64 fun _ => (x ()).held, .int .i64 fun _ => (x ()).sold, .int .i64 fun _ => (x ()).tied]
def whA (x : List (List Pin)) : V := .agg [.lf (.list .spk fun _ => x)]
def whR (x : Unit → List (List Pin)) : RSh := .agg [.own .spk x]
def ruA (x : Rules) : V := .agg [.lf (.list .int fun _ => x.seats), .lf (.int .i64 fun _ => x.tiers), .lf (.int .i64 fun _ => x.room), .lf (.int .i64 fun _ => x.size), .lf (.int .i64 fun _ => x.period), .lf (.int .i64 fun _ => x.window), .lf (.int .i64 fun _ => x.rest), .lf (.int .i64 fun _ => x.tries), .lf (.int .i64 fun _ => x.crew)]
def ruR (x : Unit → Rules) : RSh := .agg [.own .int fun _ => (x ()).seats, .int .i64 fun _ => (x ()).tiers, .int .i64 fun _ => (x ()).room, .int .i64 fun _ => (x ()).size, .int .i64 fun _ => (x ()).period, .int .i64 fun _ => (x ()).window, .int .i64 fun _ => (x ()).rest, .int .i64 fun _ => (x ()).tries, .int .i64 fun _ => (x ()).crew]
def hoA (x : House) : V := .agg [.lf (.list .int fun _ => x.rules.seats), .lf (.int .i64 fun _ => x.rules.tiers), .lf (.int .i64 fun _ => x.rules.room), .lf (.int .i64 fun _ => x.rules.size), .lf (.int .i64 fun _ => x.rules.period), .lf (.int .i64 fun _ => x.rules.window), .lf (.int .i64 fun _ => x.rules.rest), .lf (.int .i64 fun _ => x.rules.tries), .lf (.int .i64 fun _ => x.rules.crew),
  .lf (.int .i64 fun _ => x.now), .lf (.int .i64 fun _ => x.turn), .lf (.list .pty fun _ => x.parties), .lf (.list .cab fun _ => x.cabins), .lf (.list .int fun _ => x.todo), .lf (.list .int fun _ => x.jobs)]
def hoS (x : Unit → House) : List Sh := [.own .int fun _ => (x ()).rules.seats, .int .i64 fun _ => (x ()).rules.tiers, .int .i64 fun _ => (x ()).rules.room, .int .i64 fun _ => (x ()).rules.size, .int .i64 fun _ => (x ()).rules.period, .int .i64 fun _ => (x ()).rules.window, .int .i64 fun _ => (x ()).rules.rest, .int .i64 fun _ => (x ()).rules.tries, .int .i64 fun _ => (x ()).rules.crew,
  .int .i64 fun _ => (x ()).now, .int .i64 fun _ => (x ()).turn, .own .pty fun _ => (x ()).parties, .own .cab fun _ => (x ()).cabins, .own .int fun _ => (x ()).todo, .own .int fun _ => (x ()).jobs]
def hoR (x : Unit → House) : RSh := .agg (hoS x)
def smallSpk (a : List (List Pin)) : Prop := a.length ≤ bigN ∧ ∀ x ∈ a, x.length ≤ bigN
def smallCab (x : Cabin) : Prop := x.row.length ≤ bigN ∧ smallSpk x.spoke
def smallCabs (a : List Cabin) : Prop := a.length ≤ bigN ∧ ∀ x ∈ a, smallCab x
def smallHo (x : House) : Prop := x.rules.seats.length ≤ bigN ∧ x.parties.length ≤ bigN ∧ smallCabs x.cabins ∧ x.todo.length ≤ bigN ∧ x.jobs.length ≤ bigN
theorem eqPin_ok (a b : Pin) : Spec Tryz.prog 279 [eA .pin a, eA .pin b] (Ret (bR fun _ => decide (a = b))) := by
  refine spec_of tabOk Tryz.func279 rfl rfl (fr := true) (fun _ => by kernel_rfl) fun P hP hA => ?_
  cbv
  refine Br.split (fun h0 => ?_) (fun h0 => ?_) <;> (cbv; repeat (refine Pz.mk ?_; cbv))
  · refine ⟨?_, trivial⟩
    have : a ≠ b := fun h => by subst h; simp at h0
    simp [this]
  refine Br.split (fun h1 => ?_) (fun h1 => ?_) <;> (cbv; repeat (refine Pz.mk ?_; cbv))
  · refine ⟨?_, trivial⟩
    have : a ≠ b := fun h => by subst h; simp at h1
    simp [this]
  refine ⟨?_, trivial⟩
  have e0 : a.tm = b.tm := by simpa using h0
  have e1 : a.pid = b.pid := by simpa using h1
  have : a = b := by
    cases a; cases b
    simp only at e0 e1
    subst e0 e1
    rfl
  simp [this]
theorem eqEntry_ok (a b : Entry) : Spec Tryz.prog 65 [eA .ent a, eA .ent b] (Ret (bR fun _ => decide (a = b))) := by
  refine spec_of tabOk Tryz.func65 rfl rfl (fr := true) (fun _ => by kernel_rfl) fun P hP hA => ?_
  cbv
  refine Br.split (fun h0 => ?_) (fun h0 => ?_) <;> (cbv; repeat (refine Pz.mk ?_; cbv))
  · refine ⟨?_, trivial⟩
    have : a ≠ b := fun h => by subst h; simp at h0
    simp [this]
  refine Br.split (fun h1 => ?_) (fun h1 => ?_) <;> (cbv; repeat (refine Pz.mk ?_; cbv))
  · refine ⟨?_, trivial⟩
    have : a ≠ b := fun h => by subst h; simp at h1
    simp [this]
  refine Br.split (fun h2 => ?_) (fun h2 => ?_) <;> (cbv; repeat (refine Pz.mk ?_; cbv))
  · refine ⟨?_, trivial⟩
    have : a ≠ b := fun h => by subst h; simp at h2
    simp [this]
  refine Br.split (fun h3 => ?_) (fun h3 => ?_) <;> (cbv; repeat (refine Pz.mk ?_; cbv))
  · refine ⟨?_, trivial⟩
    have : a ≠ b := fun h => by subst h; simp at h3
    simp [this]
  refine ⟨?_, trivial⟩
  have e0 : a.lvl = b.lvl := by simpa using h0
  have e1 : a.turn = b.turn := by simpa using h1
  have e2 : a.eid = b.eid := by simpa using h2
  have e3 : a.siz = b.siz := by simpa using h3
  have : a = b := by
    cases a; cases b
    simp only at e0 e1 e2 e3
    subst e0 e1 e2 e3
    rfl
  simp [this]
theorem eqParty_ok (a b : Party) : Spec Tryz.prog 137 [eA .pty a, eA .pty b] (Ret (bR fun _ => decide (a = b))) := by
  refine spec_of tabOk Tryz.func137 rfl rfl (fr := true) (fun _ => by kernel_rfl) fun P hP hA => ?_
  cbv
  refine Br.split (fun h0 => ?_) (fun h0 => ?_) <;> (cbv; repeat (refine Pz.mk ?_; cbv))
  · refine ⟨?_, trivial⟩
    have : a ≠ b := fun h => by subst h; simp at h0
    simp [this]
  refine Br.split (fun h1 => ?_) (fun h1 => ?_) <;> (cbv; repeat (refine Pz.mk ?_; cbv))
  · refine ⟨?_, trivial⟩
    have : a ≠ b := fun h => by subst h; simp at h1
    simp [this]
  refine Br.split (fun h2 => ?_) (fun h2 => ?_) <;> (cbv; repeat (refine Pz.mk ?_; cbv))
  · refine ⟨?_, trivial⟩
    have : a ≠ b := fun h => by subst h; simp at h2
    simp [this]
  refine Br.split (fun h3 => ?_) (fun h3 => ?_) <;> (cbv; repeat (refine Pz.mk ?_; cbv))
  · refine ⟨?_, trivial⟩
    have : a ≠ b := fun h => by subst h; simp at h3
    simp [this]
  refine Br.split (fun h4 => ?_) (fun h4 => ?_) <;> (cbv; repeat (refine Pz.mk ?_; cbv))
  · refine ⟨?_, trivial⟩
    have : a ≠ b := fun h => by subst h; simp at h4
    simp [this]
  refine Br.split (fun h5 => ?_) (fun h5 => ?_) <;> (cbv; repeat (refine Pz.mk ?_; cbv))
  · refine ⟨?_, trivial⟩
    have : a ≠ b := fun h => by subst h; simp at h5
    simp [this]
  refine Br.split (fun h6 => ?_) (fun h6 => ?_) <;> (cbv; repeat (refine Pz.mk ?_; cbv))
  · refine ⟨?_, trivial⟩
    have : a ≠ b := fun h => by subst h; simp at h6
    simp [this]
  refine Br.split (fun h7 => ?_) (fun h7 => ?_) <;> (cbv; repeat (refine Pz.mk ?_; cbv))
  · refine ⟨?_, trivial⟩
    have : a ≠ b := fun h => by subst h; simp at h7
    simp [this]
  refine Br.split (fun h8 => ?_) (fun h8 => ?_) <;> (cbv; repeat (refine Pz.mk ?_; cbv))
  · refine ⟨?_, trivial⟩
    have : a ≠ b := fun h => by subst h; simp at h8
    simp [this]
  refine Br.split (fun h9 => ?_) (fun h9 => ?_) <;> (cbv; repeat (refine Pz.mk ?_; cbv))
  · refine ⟨?_, trivial⟩
    have : a ≠ b := fun h => by subst h; simp at h9
    simp [this]
  refine ⟨?_, trivial⟩
  have e0 : a.id = b.id := by simpa using h0
  have e1 : a.cab = b.cab := by simpa using h1
  have e2 : a.frm = b.frm := by simpa using h2
  have e3 : a.siz = b.siz := by simpa using h3
  have e4 : a.tier = b.tier := by simpa using h4
  have e5 : a.since = b.since := by simpa using h5
  have e6 : a.turn = b.turn := by simpa using h6
  have e7 : a.st = b.st := by simpa using h7
  have e8 : a.untl = b.untl := by simpa using h8
  have e9 : a.asked = b.asked := by simpa using h9
  have : a = b := by
    cases a; cases b
    simp only at e0 e1 e2 e3 e4 e5 e6 e7 e8 e9
    subst e0 e1 e2 e3 e4 e5 e6 e7 e8 e9
    rfl
  simp [this]
theorem eqLedger_ok (a b : Ledger) : Spec Tryz.prog 219 [leA a, leA b] (Ret (bR fun _ => decide (a = b))) := by
  refine spec_of tabOk Tryz.func219 rfl rfl (fr := true) (fun _ => by kernel_rfl) fun P hP hA => ?_
  cbv
  refine Br.split (fun h0 => ?_) (fun h0 => ?_) <;> (cbv; repeat (refine Pz.mk ?_; cbv))
  · refine ⟨?_, trivial⟩
    have : a ≠ b := fun h => by subst h; simp at h0
    simp [this]
  refine Br.split (fun h1 => ?_) (fun h1 => ?_) <;> (cbv; repeat (refine Pz.mk ?_; cbv))
  · refine ⟨?_, trivial⟩
    have : a ≠ b := fun h => by subst h; simp at h1
    simp [this]
  refine Br.split (fun h2 => ?_) (fun h2 => ?_) <;> (cbv; repeat (refine Pz.mk ?_; cbv))
  · refine ⟨?_, trivial⟩
    have : a ≠ b := fun h => by subst h; simp at h2
    simp [this]
  refine Br.split (fun h3 => ?_) (fun h3 => ?_) <;> (cbv; repeat (refine Pz.mk ?_; cbv))
  · refine ⟨?_, trivial⟩
    have : a ≠ b := fun h => by subst h; simp at h3
    simp [this]
  refine Br.split (fun h4 => ?_) (fun h4 => ?_) <;> (cbv; repeat (refine Pz.mk ?_; cbv))
  · refine ⟨?_, trivial⟩
    have : a ≠ b := fun h => by subst h; simp at h4
    simp [this]
  refine ⟨?_, trivial⟩
  have e0 : a.total = b.total := by simpa using h0
  have e1 : a.free = b.free := by simpa using h1
  have e2 : a.held = b.held := by simpa using h2
  have e3 : a.sold = b.sold := by simpa using h3
  have e4 : a.tied = b.tied := by simpa using h4
  have : a = b := by
    cases a; cases b
    simp only at e0 e1 e2 e3 e4
    subst e0 e1 e2 e3 e4
    rfl
  simp [this]
theorem eqPinS_ok (a b : List Pin) : Spec Tryz.prog 262 [lA .pin a, lA .pin b] (Ret (bR fun _ => decide (a = b))) := by
  refine spec_of tabOk Tryz.func262 rfl rfl (fr := true) (fun _ => by kernel_rfl) fun P hP hA => ?_
  obtain ⟨⟨ha, _⟩, _⟩ := hA
  have ha : a.length ≤ 9223372036854775807 := ha
  cbv
  refine Br.split (fun h1 => ?_) (fun h1 => ?_) <;> (cbv; repeat (refine Pz.mk ?_; cbv))
  · refine ⟨?_, trivial⟩
    have := len_ne (a := a) (b := b) h1
    simp [this]
  have h1 := len_eq (a := a) (b := b) h1
  refine LoopE.by (X := Nat) (fun i => [(0, lA .pin a), (1, lA .pin b), (5, nT fun _ => i)]) (fun _ => []) (fun i => i ≤ a.length ∧ a.take i = b.take i) (fun i _ => a.length - i) 0 ⟨Nat.zero_le _, by simp⟩ ?_ ?_
  · cbv; exact ⟨rfl, rfl, rfl, trivial⟩
  · intro i ⟨hi, ht⟩
    cbv
    refine Br.dec (fun h2 => ?_) (fun h2 => ?_) <;> (cbv; repeat (refine Pz.mk ?_; cbv))
    · have h2 : i < a.length := by simpa using h2
      refine ⟨a[i], by simp, get_cast a h2, ?_⟩
      cbv
      refine ⟨b[i], by simp, get_cast b (h1 ▸ h2), ?_⟩
      cbv
      refine CallA.by hP (eqPin_ok a[i] (b[i]'(h1 ▸ h2))) ?_
      cbv
      repeat (refine Pz.mk ?_; cbv)
      refine Br.split (fun h3 => ?_) (fun h3 => ?_) <;> (cbv; repeat (refine Pz.mk ?_; cbv))
      · refine ⟨?_, trivial⟩
        have := take_ne h2 (h1 ▸ h2) (by simpa using h3)
        simp [this]
      · refine Ar.exact ?_ ?_ ?_
        · show -9223372036854775808 ≤ (i : Int) + 1
          omega
        · show (i : Int) + 1 ≤ 9223372036854775807
          omega
        cbv
        refine NextE.by (i + 1) ?_ ?_ ?_
        · show a.length - (i + 1) < a.length - i
          omega
        · exact ⟨h2, take_step ht h2 (h1 ▸ h2) (by simpa using h3)⟩
        · cbv; exact ⟨rfl, rfl, rfl, trivial⟩
    · refine ⟨?_, trivial⟩
      have h2 : a.length ≤ i := by simp at h2; omega
      simp [take_all h1 h2 ht]
theorem eqPinSS_ok (a b : List (List Pin)) : Spec Tryz.prog 251 [lA .spk a, lA .spk b] (Ret (bR fun _ => decide (a = b))) := by
  refine spec_of tabOk Tryz.func251 rfl rfl (fr := true) (fun _ => by kernel_rfl) fun P hP hA => ?_
  obtain ⟨⟨ha, _⟩, _⟩ := hA
  have ha : a.length ≤ 9223372036854775807 := ha
  cbv
  refine Br.split (fun h1 => ?_) (fun h1 => ?_) <;> (cbv; repeat (refine Pz.mk ?_; cbv))
  · refine ⟨?_, trivial⟩
    have := len_ne (a := a) (b := b) h1
    simp [this]
  have h1 := len_eq (a := a) (b := b) h1
  refine LoopE.by (X := Nat) (fun i => [(0, lA .spk a), (1, lA .spk b), (5, nT fun _ => i)]) (fun _ => []) (fun i => i ≤ a.length ∧ a.take i = b.take i) (fun i _ => a.length - i) 0 ⟨Nat.zero_le _, by simp⟩ ?_ ?_
  · cbv; exact ⟨rfl, rfl, rfl, trivial⟩
  · intro i ⟨hi, ht⟩
    cbv
    refine Br.dec (fun h2 => ?_) (fun h2 => ?_) <;> (cbv; repeat (refine Pz.mk ?_; cbv))
    · have h2 : i < a.length := by simpa using h2
      refine ⟨a[i], by simp, get_cast a h2, ?_⟩
      cbv
      refine ⟨b[i], by simp, get_cast b (h1 ▸ h2), ?_⟩
      cbv
      refine CallA.by hP (eqPinS_ok a[i] (b[i]'(h1 ▸ h2))) ?_
      cbv
      repeat (refine Pz.mk ?_; cbv)
      refine Br.split (fun h3 => ?_) (fun h3 => ?_) <;> (cbv; repeat (refine Pz.mk ?_; cbv))
      · refine ⟨?_, trivial⟩
        have := take_ne h2 (h1 ▸ h2) (by simpa using h3)
        simp [this]
      · refine Ar.exact ?_ ?_ ?_
        · show -9223372036854775808 ≤ (i : Int) + 1
          omega
        · show (i : Int) + 1 ≤ 9223372036854775807
          omega
        cbv
        refine NextE.by (i + 1) ?_ ?_ ?_
        · show a.length - (i + 1) < a.length - i
          omega
        · exact ⟨h2, take_step ht h2 (h1 ▸ h2) (by simpa using h3)⟩
        · cbv; exact ⟨rfl, rfl, rfl, trivial⟩
    · refine ⟨?_, trivial⟩
      have h2 : a.length ≤ i := by simp at h2; omega
      simp [take_all h1 h2 ht]
theorem eqEntryS_ok (a b : List Entry) : Spec Tryz.prog 19 [lA .ent a, lA .ent b] (Ret (bR fun _ => decide (a = b))) := by
  refine spec_of tabOk Tryz.func19 rfl rfl (fr := true) (fun _ => by kernel_rfl) fun P hP hA => ?_
  obtain ⟨⟨ha, _⟩, _⟩ := hA
  have ha : a.length ≤ 9223372036854775807 := ha
  cbv
  refine Br.split (fun h1 => ?_) (fun h1 => ?_) <;> (cbv; repeat (refine Pz.mk ?_; cbv))
  · refine ⟨?_, trivial⟩
    have := len_ne (a := a) (b := b) h1
    simp [this]
  have h1 := len_eq (a := a) (b := b) h1
  refine LoopE.by (X := Nat) (fun i => [(0, lA .ent a), (1, lA .ent b), (5, nT fun _ => i)]) (fun _ => []) (fun i => i ≤ a.length ∧ a.take i = b.take i) (fun i _ => a.length - i) 0 ⟨Nat.zero_le _, by simp⟩ ?_ ?_
  · cbv; exact ⟨rfl, rfl, rfl, trivial⟩
  · intro i ⟨hi, ht⟩
    cbv
    refine Br.dec (fun h2 => ?_) (fun h2 => ?_) <;> (cbv; repeat (refine Pz.mk ?_; cbv))
    · have h2 : i < a.length := by simpa using h2
      refine ⟨a[i], by simp, get_cast a h2, ?_⟩
      cbv
      refine ⟨b[i], by simp, get_cast b (h1 ▸ h2), ?_⟩
      cbv
      refine CallA.by hP (eqEntry_ok a[i] (b[i]'(h1 ▸ h2))) ?_
      cbv
      repeat (refine Pz.mk ?_; cbv)
      refine Br.split (fun h3 => ?_) (fun h3 => ?_) <;> (cbv; repeat (refine Pz.mk ?_; cbv))
      · refine ⟨?_, trivial⟩
        have := take_ne h2 (h1 ▸ h2) (by simpa using h3)
        simp [this]
      · refine Ar.exact ?_ ?_ ?_
        · show -9223372036854775808 ≤ (i : Int) + 1
          omega
        · show (i : Int) + 1 ≤ 9223372036854775807
          omega
        cbv
        refine NextE.by (i + 1) ?_ ?_ ?_
        · show a.length - (i + 1) < a.length - i
          omega
        · exact ⟨h2, take_step ht h2 (h1 ▸ h2) (by simpa using h3)⟩
        · cbv; exact ⟨rfl, rfl, rfl, trivial⟩
    · refine ⟨?_, trivial⟩
      have h2 : a.length ≤ i := by simp at h2; omega
      simp [take_all h1 h2 ht]
theorem eqPartyS_ok (a b : List Party) : Spec Tryz.prog 67 [lA .pty a, lA .pty b] (Ret (bR fun _ => decide (a = b))) := by
  refine spec_of tabOk Tryz.func67 rfl rfl (fr := true) (fun _ => by kernel_rfl) fun P hP hA => ?_
  obtain ⟨⟨ha, _⟩, _⟩ := hA
  have ha : a.length ≤ 9223372036854775807 := ha
  cbv
  refine Br.split (fun h1 => ?_) (fun h1 => ?_) <;> (cbv; repeat (refine Pz.mk ?_; cbv))
  · refine ⟨?_, trivial⟩
    have := len_ne (a := a) (b := b) h1
    simp [this]
  have h1 := len_eq (a := a) (b := b) h1
  refine LoopE.by (X := Nat) (fun i => [(0, lA .pty a), (1, lA .pty b), (5, nT fun _ => i)]) (fun _ => []) (fun i => i ≤ a.length ∧ a.take i = b.take i) (fun i _ => a.length - i) 0 ⟨Nat.zero_le _, by simp⟩ ?_ ?_
  · cbv; exact ⟨rfl, rfl, rfl, trivial⟩
  · intro i ⟨hi, ht⟩
    cbv
    refine Br.dec (fun h2 => ?_) (fun h2 => ?_) <;> (cbv; repeat (refine Pz.mk ?_; cbv))
    · have h2 : i < a.length := by simpa using h2
      refine ⟨a[i], by simp, get_cast a h2, ?_⟩
      cbv
      refine ⟨b[i], by simp, get_cast b (h1 ▸ h2), ?_⟩
      cbv
      refine CallA.by hP (eqParty_ok a[i] (b[i]'(h1 ▸ h2))) ?_
      cbv
      repeat (refine Pz.mk ?_; cbv)
      refine Br.split (fun h3 => ?_) (fun h3 => ?_) <;> (cbv; repeat (refine Pz.mk ?_; cbv))
      · refine ⟨?_, trivial⟩
        have := take_ne h2 (h1 ▸ h2) (by simpa using h3)
        simp [this]
      · refine Ar.exact ?_ ?_ ?_
        · show -9223372036854775808 ≤ (i : Int) + 1
          omega
        · show (i : Int) + 1 ≤ 9223372036854775807
          omega
        cbv
        refine NextE.by (i + 1) ?_ ?_ ?_
        · show a.length - (i + 1) < a.length - i
          omega
        · exact ⟨h2, take_step ht h2 (h1 ▸ h2) (by simpa using h3)⟩
        · cbv; exact ⟨rfl, rfl, rfl, trivial⟩
    · refine ⟨?_, trivial⟩
      have h2 : a.length ≤ i := by simp at h2; omega
      simp [take_all h1 h2 ht]
theorem eqWheel_ok (a b : List (List Pin)) : Spec Tryz.prog 220 [whA a, whA b] (Ret (bR fun _ => decide (a = b))) := by
  refine spec_of tabOk Tryz.func220 rfl rfl (fr := true) (fun _ => by kernel_rfl) fun P hP hA => ?_
  cbv
  refine CallA.by hP (eqPinSS_ok a b) ?_
  cbv
  repeat (refine Pz.mk ?_; cbv)
  refine Br.split (fun h => ?_) (fun h => ?_) <;> (cbv; repeat (refine Pz.mk ?_; cbv))
  · refine ⟨?_, trivial⟩
    have : a ≠ b := by simpa using h
    simp [this]
  · refine ⟨?_, trivial⟩
    have : a = b := by simpa using h
    simp [this]
theorem eqCabin_ok (a b : Cabin) : Spec Tryz.prog 138 [eA .cab a, eA .cab b] (Ret (bR fun _ => decide (a = b))) := by
  refine spec_of tabOk Tryz.func138 rfl rfl (fr := true) (fun _ => by kernel_rfl) fun P hP hA => ?_
  cbv
  refine CallA.by hP (eqLedger_ok a.seats b.seats) ?_
  cbv
  repeat (refine Pz.mk ?_; cbv)
  refine Br.split (fun h0 => ?_) (fun h0 => ?_) <;> (cbv; repeat (refine Pz.mk ?_; cbv))
  · refine ⟨?_, trivial⟩
    have : a ≠ b := fun h => by subst h; simp at h0
    simp [this]
  have e0 : a.seats = b.seats := by simpa using h0
  refine CallA.by hP (eqEntryS_ok a.row b.row) ?_
  cbv
  repeat (refine Pz.mk ?_; cbv)
  refine Br.split (fun h1 => ?_) (fun h1 => ?_) <;> (cbv; repeat (refine Pz.mk ?_; cbv))
  · refine ⟨?_, trivial⟩
    have : a ≠ b := fun h => by subst h; simp at h1
    simp [this]
  have e1 : a.row = b.row := by simpa using h1
  refine CallA.by hP (eqWheel_ok a.spoke b.spoke) ?_
  cbv
  repeat (refine Pz.mk ?_; cbv)
  refine Br.split (fun h2 => ?_) (fun h2 => ?_) <;> (cbv; repeat (refine Pz.mk ?_; cbv))
  · refine ⟨?_, trivial⟩
    have : a ≠ b := fun h => by subst h; simp at h2
    simp [this]
  have e2 : a.spoke = b.spoke := by simpa using h2
  refine ⟨?_, trivial⟩
  have : a = b := by
    cases a; cases b
    simp only at e0 e1 e2
    subst e0 e1 e2
    rfl
  simp [this]
theorem eqCabinS_ok (a b : List Cabin) : Spec Tryz.prog 68 [lA .cab a, lA .cab b] (Ret (bR fun _ => decide (a = b))) := by
  refine spec_of tabOk Tryz.func68 rfl rfl (fr := true) (fun _ => by kernel_rfl) fun P hP hA => ?_
  obtain ⟨⟨ha, _⟩, _⟩ := hA
  have ha : a.length ≤ 9223372036854775807 := ha
  cbv
  refine Br.split (fun h1 => ?_) (fun h1 => ?_) <;> (cbv; repeat (refine Pz.mk ?_; cbv))
  · refine ⟨?_, trivial⟩
    have := len_ne (a := a) (b := b) h1
    simp [this]
  have h1 := len_eq (a := a) (b := b) h1
  refine LoopE.by (X := Nat) (fun i => [(0, lA .cab a), (1, lA .cab b), (5, nT fun _ => i)]) (fun _ => []) (fun i => i ≤ a.length ∧ a.take i = b.take i) (fun i _ => a.length - i) 0 ⟨Nat.zero_le _, by simp⟩ ?_ ?_
  · cbv; exact ⟨rfl, rfl, rfl, trivial⟩
  · intro i ⟨hi, ht⟩
    cbv
    refine Br.dec (fun h2 => ?_) (fun h2 => ?_) <;> (cbv; repeat (refine Pz.mk ?_; cbv))
    · have h2 : i < a.length := by simpa using h2
      refine ⟨a[i], by simp, get_cast a h2, ?_⟩
      cbv
      refine ⟨b[i], by simp, get_cast b (h1 ▸ h2), ?_⟩
      cbv
      refine CallA.by hP (eqCabin_ok a[i] (b[i]'(h1 ▸ h2))) ?_
      cbv
      repeat (refine Pz.mk ?_; cbv)
      refine Br.split (fun h3 => ?_) (fun h3 => ?_) <;> (cbv; repeat (refine Pz.mk ?_; cbv))
      · refine ⟨?_, trivial⟩
        have := take_ne h2 (h1 ▸ h2) (by simpa using h3)
        simp [this]
      · refine Ar.exact ?_ ?_ ?_
        · show -9223372036854775808 ≤ (i : Int) + 1
          omega
        · show (i : Int) + 1 ≤ 9223372036854775807
          omega
        cbv
        refine NextE.by (i + 1) ?_ ?_ ?_
        · show a.length - (i + 1) < a.length - i
          omega
        · exact ⟨h2, take_step ht h2 (h1 ▸ h2) (by simpa using h3)⟩
        · cbv; exact ⟨rfl, rfl, rfl, trivial⟩
    · refine ⟨?_, trivial⟩
      have h2 : a.length ≤ i := by simp at h2; omega
      simp [take_all h1 h2 ht]
theorem eqRules_ok (a b : Rules) : Spec Tryz.prog 66 [ruA a, ruA b] (Ret (bR fun _ => decide (a = b))) := by
  refine spec_of tabOk Tryz.func66 rfl rfl (fr := true) (fun _ => by kernel_rfl) fun P hP hA => ?_
  cbv
  refine CallA.by hP (eqIntS_ok a.seats b.seats) ?_
  cbv
  repeat (refine Pz.mk ?_; cbv)
  refine Br.split (fun h0 => ?_) (fun h0 => ?_) <;> (cbv; repeat (refine Pz.mk ?_; cbv))
  · refine ⟨?_, trivial⟩
    have : a ≠ b := fun h => by subst h; simp at h0
    simp [this]
  have e0 : a.seats = b.seats := by simpa using h0
  refine Br.split (fun h1 => ?_) (fun h1 => ?_) <;> (cbv; repeat (refine Pz.mk ?_; cbv))
  · refine ⟨?_, trivial⟩
    have : a ≠ b := fun h => by subst h; simp at h1
    simp [this]
  have e1 : a.tiers = b.tiers := by simpa using h1
  refine Br.split (fun h2 => ?_) (fun h2 => ?_) <;> (cbv; repeat (refine Pz.mk ?_; cbv))
  · refine ⟨?_, trivial⟩
    have : a ≠ b := fun h => by subst h; simp at h2
    simp [this]
  have e2 : a.room = b.room := by simpa using h2
  refine Br.split (fun h3 => ?_) (fun h3 => ?_) <;> (cbv; repeat (refine Pz.mk ?_; cbv))
  · refine ⟨?_, trivial⟩
    have : a ≠ b := fun h => by subst h; simp at h3
    simp [this]
  have e3 : a.size = b.size := by simpa using h3
  refine Br.split (fun h4 => ?_) (fun h4 => ?_) <;> (cbv; repeat (refine Pz.mk ?_; cbv))
  · refine ⟨?_, trivial⟩
    have : a ≠ b := fun h => by subst h; simp at h4
    simp [this]
  have e4 : a.period = b.period := by simpa using h4
  refine Br.split (fun h5 => ?_) (fun h5 => ?_) <;> (cbv; repeat (refine Pz.mk ?_; cbv))
  · refine ⟨?_, trivial⟩
    have : a ≠ b := fun h => by subst h; simp at h5
    simp [this]
  have e5 : a.window = b.window := by simpa using h5
  refine Br.split (fun h6 => ?_) (fun h6 => ?_) <;> (cbv; repeat (refine Pz.mk ?_; cbv))
  · refine ⟨?_, trivial⟩
    have : a ≠ b := fun h => by subst h; simp at h6
    simp [this]
  have e6 : a.rest = b.rest := by simpa using h6
  refine Br.split (fun h7 => ?_) (fun h7 => ?_) <;> (cbv; repeat (refine Pz.mk ?_; cbv))
  · refine ⟨?_, trivial⟩
    have : a ≠ b := fun h => by subst h; simp at h7
    simp [this]
  have e7 : a.tries = b.tries := by simpa using h7
  refine Br.split (fun h8 => ?_) (fun h8 => ?_) <;> (cbv; repeat (refine Pz.mk ?_; cbv))
  · refine ⟨?_, trivial⟩
    have : a ≠ b := fun h => by subst h; simp at h8
    simp [this]
  have e8 : a.crew = b.crew := by simpa using h8
  refine ⟨?_, trivial⟩
  have : a = b := by
    cases a; cases b
    simp only at e0 e1 e2 e3 e4 e5 e6 e7 e8
    subst e0 e1 e2 e3 e4 e5 e6 e7 e8
    rfl
  simp [this]
theorem eqHouse_ok (a b : House) : Spec Tryz.prog 20 [hoA a, hoA b] (Ret (bR fun _ => decide (a = b))) := by
  refine spec_of tabOk Tryz.func20 rfl rfl (fr := true) (fun _ => by kernel_rfl) fun P hP hA => ?_
  cbv
  refine CallA.by hP (eqRules_ok a.rules b.rules) ?_
  cbv
  repeat (refine Pz.mk ?_; cbv)
  refine Br.split (fun h0 => ?_) (fun h0 => ?_) <;> (cbv; repeat (refine Pz.mk ?_; cbv))
  · refine ⟨?_, trivial⟩
    have : a ≠ b := fun h => by subst h; simp at h0
    simp [this]
  have e0 : a.rules = b.rules := by simpa using h0
  refine Br.split (fun h1 => ?_) (fun h1 => ?_) <;> (cbv; repeat (refine Pz.mk ?_; cbv))
  · refine ⟨?_, trivial⟩
    have : a ≠ b := fun h => by subst h; simp at h1
    simp [this]
  have e1 : a.now = b.now := by simpa using h1
  refine Br.split (fun h2 => ?_) (fun h2 => ?_) <;> (cbv; repeat (refine Pz.mk ?_; cbv))
  · refine ⟨?_, trivial⟩
    have : a ≠ b := fun h => by subst h; simp at h2
    simp [this]
  have e2 : a.turn = b.turn := by simpa using h2
  refine CallA.by hP (eqPartyS_ok a.parties b.parties) ?_
  cbv
  repeat (refine Pz.mk ?_; cbv)
  refine Br.split (fun h3 => ?_) (fun h3 => ?_) <;> (cbv; repeat (refine Pz.mk ?_; cbv))
  · refine ⟨?_, trivial⟩
    have : a ≠ b := fun h => by subst h; simp at h3
    simp [this]
  have e3 : a.parties = b.parties := by simpa using h3
  refine CallA.by hP (eqCabinS_ok a.cabins b.cabins) ?_
  cbv
  repeat (refine Pz.mk ?_; cbv)
  refine Br.split (fun h4 => ?_) (fun h4 => ?_) <;> (cbv; repeat (refine Pz.mk ?_; cbv))
  · refine ⟨?_, trivial⟩
    have : a ≠ b := fun h => by subst h; simp at h4
    simp [this]
  have e4 : a.cabins = b.cabins := by simpa using h4
  refine CallA.by hP (eqIntS_ok a.todo b.todo) ?_
  cbv
  repeat (refine Pz.mk ?_; cbv)
  refine Br.split (fun h5 => ?_) (fun h5 => ?_) <;> (cbv; repeat (refine Pz.mk ?_; cbv))
  · refine ⟨?_, trivial⟩
    have : a ≠ b := fun h => by subst h; simp at h5
    simp [this]
  have e5 : a.todo = b.todo := by simpa using h5
  refine CallA.by hP (eqIntS_ok a.jobs b.jobs) ?_
  cbv
  repeat (refine Pz.mk ?_; cbv)
  refine Br.split (fun h6 => ?_) (fun h6 => ?_) <;> (cbv; repeat (refine Pz.mk ?_; cbv))
  · refine ⟨?_, trivial⟩
    have : a ≠ b := fun h => by subst h; simp at h6
    simp [this]
  have e6 : a.jobs = b.jobs := by simpa using h6
  refine ⟨?_, trivial⟩
  have : a = b := by
    cases a; cases b
    simp only at e0 e1 e2 e3 e4 e5 e6
    subst e0 e1 e2 e3 e4 e5 e6
    rfl
  simp [this]
theorem toPin_ok (a : Pin) : Spec Tryz.prog 276 [eA .pin a] (Ret (eR .pin fun _ => a)) := by
  refine spec_of tabOk Tryz.func276 rfl rfl (fr := true) (fun _ => by kernel_rfl) fun P hP hA => ?_
  cbv
  exact ⟨rfl, rfl, trivial⟩
theorem toEntry_ok (a : Entry) : Spec Tryz.prog 245 [eA .ent a] (Ret (eR .ent fun _ => a)) := by
  refine spec_of tabOk Tryz.func245 rfl rfl (fr := true) (fun _ => by kernel_rfl) fun P hP hA => ?_
  cbv
  exact ⟨rfl, rfl, rfl, rfl, trivial⟩
theorem toParty_ok (a : Party) : Spec Tryz.prog 129 [eA .pty a] (Ret (eR .pty fun _ => a)) := by
  refine spec_of tabOk Tryz.func129 rfl rfl (fr := true) (fun _ => by kernel_rfl) fun P hP hA => ?_
  cbv
  exact ⟨rfl, rfl, rfl, rfl, rfl, rfl, rfl, rfl, rfl, rfl, trivial⟩
theorem toLedger_ok (a : Ledger) : Spec Tryz.prog 207 [leA a] (Ret (leR fun _ => a)) := by
  refine spec_of tabOk Tryz.func207 rfl rfl (fr := true) (fun _ => by kernel_rfl) fun P hP hA => ?_
  cbv
  exact ⟨rfl, rfl, rfl, rfl, rfl, trivial⟩
theorem toPinS_ok (a : List Pin) (hs : a.length ≤ bigN) : Spec Tryz.prog 259 [lA .pin a] (Ret (lR .pin fun _ => a)) := by
  refine spec_of tabOk Tryz.func259 rfl rfl (fr := true) (fun _ => by kernel_rfl) fun P hP hA => ?_
  have hn : a.length ≤ 1048576 := hs
  cbv
  refine ⟨?_, ?_⟩
  · show 0 ≤ (a.length : Int) ∧ (a.length : Int) ≤ a.length ∧ (a.length : Int) * 16 ≤ 140737488355328
    omega
  cbv
  refine LoopE.by (X := Nat) (fun i => [(0, lA .pin a), (3, oN 0), (4, nT fun _ => i)]) (fun i => [(0, ownB' .pin fun _ => a.take i ++ List.replicate (a.length - i) default)]) (fun i => i ≤ a.length) (fun i _ => a.length - i) 0 (Nat.zero_le _) ?_ ?_
  · cbv
    refine ⟨rfl, rfl, ?_, trivial⟩
    show List.replicate ((a.length : Int)).toNat (default : Pin) = a.take 0 ++ List.replicate (a.length - 0) default
    simp
  · intro i hi
    cbv
    refine Br.dec (fun h2 => ?_) (fun h2 => ?_) <;> (cbv; repeat (refine Pz.mk ?_; cbv))
    · have h2 : i < a.length := by simpa using h2
      refine ⟨a[i], by simp, get_cast a h2, ?_⟩
      cbv
      refine CallA.by hP (toPin_ok a[i]) ?_
      cbv
      repeat (refine Pz.mk ?_; cbv)
      refine ⟨?_, ?_⟩
      · show 0 ≤ (i : Int) ∧ (i : Int) < ((a.take i ++ List.replicate (a.length - i) (default : Pin)).length : Int)
        rw [fill_len a default hi]; omega
      cbv
      refine Sv.keep ?_
      cbv
      refine Ar.exact ?_ ?_ ?_
      · show -9223372036854775808 ≤ (i : Int) + 1
        omega
      · show (i : Int) + 1 ≤ 9223372036854775807
        omega
      cbv
      refine NextE.by (i + 1) ?_ ?_ ?_
      · show a.length - (i + 1) < a.length - i
        omega
      · exact h2
      · cbv
        refine ⟨rfl, rfl, ?_, trivial⟩
        exact fill_set a default h2
    · have h2 : a.length ≤ i := by simp at h2; omega
      refine ⟨?_, trivial⟩
      show a.take i ++ List.replicate (a.length - i) default = a
      rw [show a.length - i = 0 by omega, List.take_of_length_le h2]
      simp
theorem toPinSS_ok (a : List (List Pin)) (hs : smallSpk a) : Spec Tryz.prog 246 [lA .spk a] (Ret (lR .spk fun _ => a)) := by
  refine spec_of tabOk Tryz.func246 rfl rfl (fr := true) (fun _ => by kernel_rfl) fun P hP hA => ?_
  have hn : a.length ≤ 1048576 := hs.1
  cbv
  refine ⟨?_, ?_⟩
  · show 0 ≤ (a.length : Int) ∧ (a.length : Int) ≤ a.length ∧ (a.length : Int) * 24 ≤ 140737488355328
    omega
  cbv
  refine LoopE.by (X := Nat) (fun i => [(0, lA .spk a), (3, oN 0), (4, nT fun _ => i)]) (fun i => [(0, ownB' .spk fun _ => a.take i ++ List.replicate (a.length - i) [])]) (fun i => i ≤ a.length) (fun i _ => a.length - i) 0 (Nat.zero_le _) ?_ ?_
  · cbv
    refine ⟨rfl, rfl, ?_, trivial⟩
    show List.replicate ((a.length : Int)).toNat ([] : (List Pin)) = a.take 0 ++ List.replicate (a.length - 0) []
    simp
  · intro i hi
    cbv
    refine Br.dec (fun h2 => ?_) (fun h2 => ?_) <;> (cbv; repeat (refine Pz.mk ?_; cbv))
    · have h2 : i < a.length := by simpa using h2
      refine ⟨a[i], by simp, get_cast a h2, ?_⟩
      cbv
      refine CallA.by hP (toPinS_ok a[i] (hs.2 _ (List.getElem_mem _))) ?_
      cbv
      repeat (refine Pz.mk ?_; cbv)
      refine ⟨?_, ?_⟩
      · show 0 ≤ (i : Int) ∧ (i : Int) < ((a.take i ++ List.replicate (a.length - i) ([] : (List Pin))).length : Int)
        rw [fill_len a [] hi]; omega
      cbv
      refine Sv.keep ?_
      cbv
      refine Ar.exact ?_ ?_ ?_
      · show -9223372036854775808 ≤ (i : Int) + 1
        omega
      · show (i : Int) + 1 ≤ 9223372036854775807
        omega
      cbv
      refine NextE.by (i + 1) ?_ ?_ ?_
      · show a.length - (i + 1) < a.length - i
        omega
      · exact h2
      · cbv
        refine ⟨rfl, rfl, ?_, trivial⟩
        exact fill_set a [] h2
    · have h2 : a.length ≤ i := by simp at h2; omega
      refine ⟨?_, trivial⟩
      show a.take i ++ List.replicate (a.length - i) [] = a
      rw [show a.length - i = 0 by omega, List.take_of_length_le h2]
      simp
theorem toEntryS_ok (a : List Entry) (hs : a.length ≤ bigN) : Spec Tryz.prog 208 [lA .ent a] (Ret (lR .ent fun _ => a)) := by
  refine spec_of tabOk Tryz.func208 rfl rfl (fr := true) (fun _ => by kernel_rfl) fun P hP hA => ?_
  have hn : a.length ≤ 1048576 := hs
  cbv
  refine ⟨?_, ?_⟩
  · show 0 ≤ (a.length : Int) ∧ (a.length : Int) ≤ a.length ∧ (a.length : Int) * 32 ≤ 140737488355328
    omega
  cbv
  refine LoopE.by (X := Nat) (fun i => [(0, lA .ent a), (3, oN 0), (4, nT fun _ => i)]) (fun i => [(0, ownB' .ent fun _ => a.take i ++ List.replicate (a.length - i) default)]) (fun i => i ≤ a.length) (fun i _ => a.length - i) 0 (Nat.zero_le _) ?_ ?_
  · cbv
    refine ⟨rfl, rfl, ?_, trivial⟩
    show List.replicate ((a.length : Int)).toNat (default : Entry) = a.take 0 ++ List.replicate (a.length - 0) default
    simp
  · intro i hi
    cbv
    refine Br.dec (fun h2 => ?_) (fun h2 => ?_) <;> (cbv; repeat (refine Pz.mk ?_; cbv))
    · have h2 : i < a.length := by simpa using h2
      refine ⟨a[i], by simp, get_cast a h2, ?_⟩
      cbv
      refine CallA.by hP (toEntry_ok a[i]) ?_
      cbv
      repeat (refine Pz.mk ?_; cbv)
      refine ⟨?_, ?_⟩
      · show 0 ≤ (i : Int) ∧ (i : Int) < ((a.take i ++ List.replicate (a.length - i) (default : Entry)).length : Int)
        rw [fill_len a default hi]; omega
      cbv
      refine Sv.keep ?_
      cbv
      refine Ar.exact ?_ ?_ ?_
      · show -9223372036854775808 ≤ (i : Int) + 1
        omega
      · show (i : Int) + 1 ≤ 9223372036854775807
        omega
      cbv
      refine NextE.by (i + 1) ?_ ?_ ?_
      · show a.length - (i + 1) < a.length - i
        omega
      · exact h2
      · cbv
        refine ⟨rfl, rfl, ?_, trivial⟩
        exact fill_set a default h2
    · have h2 : a.length ≤ i := by simp at h2; omega
      refine ⟨?_, trivial⟩
      show a.take i ++ List.replicate (a.length - i) default = a
      rw [show a.length - i = 0 by omega, List.take_of_length_le h2]
      simp
theorem toPartyS_ok (a : List Party) (hs : a.length ≤ bigN) : Spec Tryz.prog 59 [lA .pty a] (Ret (lR .pty fun _ => a)) := by
  refine spec_of tabOk Tryz.func59 rfl rfl (fr := true) (fun _ => by kernel_rfl) fun P hP hA => ?_
  have hn : a.length ≤ 1048576 := hs
  cbv
  refine ⟨?_, ?_⟩
  · show 0 ≤ (a.length : Int) ∧ (a.length : Int) ≤ a.length ∧ (a.length : Int) * 80 ≤ 140737488355328
    omega
  cbv
  refine LoopE.by (X := Nat) (fun i => [(0, lA .pty a), (3, oN 0), (4, nT fun _ => i)]) (fun i => [(0, ownB' .pty fun _ => a.take i ++ List.replicate (a.length - i) default)]) (fun i => i ≤ a.length) (fun i _ => a.length - i) 0 (Nat.zero_le _) ?_ ?_
  · cbv
    refine ⟨rfl, rfl, ?_, trivial⟩
    show List.replicate ((a.length : Int)).toNat (default : Party) = a.take 0 ++ List.replicate (a.length - 0) default
    simp
  · intro i hi
    cbv
    refine Br.dec (fun h2 => ?_) (fun h2 => ?_) <;> (cbv; repeat (refine Pz.mk ?_; cbv))
    · have h2 : i < a.length := by simpa using h2
      refine ⟨a[i], by simp, get_cast a h2, ?_⟩
      cbv
      refine CallA.by hP (toParty_ok a[i]) ?_
      cbv
      repeat (refine Pz.mk ?_; cbv)
      refine ⟨?_, ?_⟩
      · show 0 ≤ (i : Int) ∧ (i : Int) < ((a.take i ++ List.replicate (a.length - i) (default : Party)).length : Int)
        rw [fill_len a default hi]; omega
      cbv
      refine Sv.keep ?_
      cbv
      refine Ar.exact ?_ ?_ ?_
      · show -9223372036854775808 ≤ (i : Int) + 1
        omega
      · show (i : Int) + 1 ≤ 9223372036854775807
        omega
      cbv
      refine NextE.by (i + 1) ?_ ?_ ?_
      · show a.length - (i + 1) < a.length - i
        omega
      · exact h2
      · cbv
        refine ⟨rfl, rfl, ?_, trivial⟩
        exact fill_set a default h2
    · have h2 : a.length ≤ i := by simp at h2; omega
      refine ⟨?_, trivial⟩
      show a.take i ++ List.replicate (a.length - i) default = a
      rw [show a.length - i = 0 by omega, List.take_of_length_le h2]
      simp
theorem toWheel_ok (a : List (List Pin)) (hs : smallSpk a) : Spec Tryz.prog 209 [whA a] (Ret (whR fun _ => a)) := by
  refine spec_of tabOk Tryz.func209 rfl rfl (fr := true) (fun _ => by kernel_rfl) fun P hP hA => ?_
  cbv
  refine CallA.by hP (toPinSS_ok a hs) ?_
  cbv
  repeat (refine Pz.mk ?_; cbv)
  exact ⟨rfl, trivial⟩
theorem toCabin_ok (a : Cabin) (hs : smallCab a) : Spec Tryz.prog 130 [eA .cab a] (Ret (eR .cab fun _ => a)) := by
  refine spec_of tabOk Tryz.func130 rfl rfl (fr := true) (fun _ => by kernel_rfl) fun P hP hA => ?_
  cbv
  refine CallA.by hP (toLedger_ok a.seats) ?_
  cbv
  repeat (refine Pz.mk ?_; cbv)
  refine CallA.by hP (toEntryS_ok a.row hs.1) ?_
  cbv
  repeat (refine Pz.mk ?_; cbv)
  refine CallA.by hP (toWheel_ok a.spoke hs.2) ?_
  cbv
  repeat (refine Pz.mk ?_; cbv)
  exact ⟨rfl, rfl, rfl, rfl, rfl, rfl, rfl, trivial⟩
theorem toCabinS_ok (a : List Cabin) (hs : smallCabs a) : Spec Tryz.prog 60 [lA .cab a] (Ret (lR .cab fun _ => a)) := by
  refine spec_of tabOk Tryz.func60 rfl rfl (fr := true) (fun _ => by kernel_rfl) fun P hP hA => ?_
  have hn : a.length ≤ 1048576 := hs.1
  cbv
  refine ⟨?_, ?_⟩
  · show 0 ≤ (a.length : Int) ∧ (a.length : Int) ≤ a.length ∧ (a.length : Int) * 88 ≤ 140737488355328
    omega
  cbv
  refine LoopE.by (X := Nat) (fun i => [(0, lA .cab a), (3, oN 0), (4, nT fun _ => i)]) (fun i => [(0, ownB' .cab fun _ => a.take i ++ List.replicate (a.length - i) default)]) (fun i => i ≤ a.length) (fun i _ => a.length - i) 0 (Nat.zero_le _) ?_ ?_
  · cbv
    refine ⟨rfl, rfl, ?_, trivial⟩
    show List.replicate ((a.length : Int)).toNat (default : Cabin) = a.take 0 ++ List.replicate (a.length - 0) default
    simp
  · intro i hi
    cbv
    refine Br.dec (fun h2 => ?_) (fun h2 => ?_) <;> (cbv; repeat (refine Pz.mk ?_; cbv))
    · have h2 : i < a.length := by simpa using h2
      refine ⟨a[i], by simp, get_cast a h2, ?_⟩
      cbv
      refine CallA.by hP (toCabin_ok a[i] (hs.2 _ (List.getElem_mem _))) ?_
      cbv
      repeat (refine Pz.mk ?_; cbv)
      refine ⟨?_, ?_⟩
      · show 0 ≤ (i : Int) ∧ (i : Int) < ((a.take i ++ List.replicate (a.length - i) (default : Cabin)).length : Int)
        rw [fill_len a default hi]; omega
      cbv
      refine Sv.keep ?_
      cbv
      refine Ar.exact ?_ ?_ ?_
      · show -9223372036854775808 ≤ (i : Int) + 1
        omega
      · show (i : Int) + 1 ≤ 9223372036854775807
        omega
      cbv
      refine NextE.by (i + 1) ?_ ?_ ?_
      · show a.length - (i + 1) < a.length - i
        omega
      · exact h2
      · cbv
        refine ⟨rfl, rfl, ?_, trivial⟩
        exact fill_set a default h2
    · have h2 : a.length ≤ i := by simp at h2; omega
      refine ⟨?_, trivial⟩
      show a.take i ++ List.replicate (a.length - i) default = a
      rw [show a.length - i = 0 by omega, List.take_of_length_le h2]
      simp
theorem toRules_ok (a : Rules) (hs : a.seats.length ≤ bigN) : Spec Tryz.prog 58 [ruA a] (Ret (ruR fun _ => a)) := by
  refine spec_of tabOk Tryz.func58 rfl rfl (fr := true) (fun _ => by kernel_rfl) fun P hP hA => ?_
  cbv
  refine CallA.by hP (toIntS_ok a.seats hs) ?_
  cbv
  repeat (refine Pz.mk ?_; cbv)
  exact ⟨rfl, rfl, rfl, rfl, rfl, rfl, rfl, rfl, rfl, trivial⟩
theorem toHouse_ok (a : House) (hs : smallHo a) : Spec Tryz.prog 17 [hoA a] (Ret (hoR fun _ => a)) := by
  refine spec_of tabOk Tryz.func17 rfl rfl (fr := true) (fun _ => by kernel_rfl) fun P hP hA => ?_
  obtain ⟨h1, h2, h3, h4, h5⟩ := hs
  cbv
  refine CallA.by hP (toRules_ok a.rules h1) ?_
  cbv
  repeat (refine Pz.mk ?_; cbv)
  refine CallA.by hP (toPartyS_ok a.parties h2) ?_
  cbv
  repeat (refine Pz.mk ?_; cbv)
  refine CallA.by hP (toCabinS_ok a.cabins h3) ?_
  cbv
  repeat (refine Pz.mk ?_; cbv)
  refine CallA.by hP (toIntS_ok a.todo h4) ?_
  cbv
  repeat (refine Pz.mk ?_; cbv)
  refine CallA.by hP (toIntS_ok a.jobs h5) ?_
  cbv
  repeat (refine Pz.mk ?_; cbv)
  exact ⟨rfl, rfl, rfl, rfl, rfl, rfl, rfl, rfl, rfl, rfl, rfl, rfl, rfl, rfl, rfl, trivial⟩
theorem szPinS_ok (a : List Pin) (left : Int) (h0 : 0 ≤ left) (hb : left ≤ 1048576) : Spec Tryz.prog 257 [lA .pin a, iA left] (RetX Int (fun r => szP (a.length ≤ bigN) left r) fun r => iR fun _ => r) := by
  refine spec_of tabOk Tryz.func257 rfl rfl (fr := true) (fun _ => by kernel_rfl) fun P hP hA => ?_
  obtain ⟨⟨ha, _⟩, hl, _⟩ := hA
  have ha : a.length ≤ 9223372036854775807 := ha
  cbv
  refine Ar.exact ?_ ?_ ?_
  · show -9223372036854775808 ≤ left - (a.length : Int)
    omega
  · show left - (a.length : Int) ≤ 9223372036854775807
    omega
  cbv
  refine Br.dec (fun h => ?_) (fun h => ?_) <;> (cbv; repeat (refine Pz.mk ?_; cbv))
  · refine ⟨-1, ⟨by omega, by omega, by omega⟩, ?_⟩
    cbv; exact ⟨rfl, trivial⟩
  · have h : ¬ left - (a.length : Int) < 0 := h
    refine ⟨left - a.length, ⟨by omega, by omega, fun _ => ?_⟩, ?_⟩
    · show a.length ≤ 1048576
      omega
    · cbv; exact ⟨rfl, trivial⟩
theorem szEntryS_ok (a : List Entry) (left : Int) (h0 : 0 ≤ left) (hb : left ≤ 1048576) : Spec Tryz.prog 195 [lA .ent a, iA left] (RetX Int (fun r => szP (a.length ≤ bigN) left r) fun r => iR fun _ => r) := by
  refine spec_of tabOk Tryz.func195 rfl rfl (fr := true) (fun _ => by kernel_rfl) fun P hP hA => ?_
  obtain ⟨⟨ha, _⟩, hl, _⟩ := hA
  have ha : a.length ≤ 9223372036854775807 := ha
  cbv
  refine Ar.exact ?_ ?_ ?_
  · show -9223372036854775808 ≤ left - (a.length : Int)
    omega
  · show left - (a.length : Int) ≤ 9223372036854775807
    omega
  cbv
  refine Br.dec (fun h => ?_) (fun h => ?_) <;> (cbv; repeat (refine Pz.mk ?_; cbv))
  · refine ⟨-1, ⟨by omega, by omega, by omega⟩, ?_⟩
    cbv; exact ⟨rfl, trivial⟩
  · have h : ¬ left - (a.length : Int) < 0 := h
    refine ⟨left - a.length, ⟨by omega, by omega, fun _ => ?_⟩, ?_⟩
    · show a.length ≤ 1048576
      omega
    · cbv; exact ⟨rfl, trivial⟩
theorem szPartyS_ok (a : List Party) (left : Int) (h0 : 0 ≤ left) (hb : left ≤ 1048576) : Spec Tryz.prog 52 [lA .pty a, iA left] (RetX Int (fun r => szP (a.length ≤ bigN) left r) fun r => iR fun _ => r) := by
  refine spec_of tabOk Tryz.func52 rfl rfl (fr := true) (fun _ => by kernel_rfl) fun P hP hA => ?_
  obtain ⟨⟨ha, _⟩, hl, _⟩ := hA
  have ha : a.length ≤ 9223372036854775807 := ha
  cbv
  refine Ar.exact ?_ ?_ ?_
  · show -9223372036854775808 ≤ left - (a.length : Int)
    omega
  · show left - (a.length : Int) ≤ 9223372036854775807
    omega
  cbv
  refine Br.dec (fun h => ?_) (fun h => ?_) <;> (cbv; repeat (refine Pz.mk ?_; cbv))
  · refine ⟨-1, ⟨by omega, by omega, by omega⟩, ?_⟩
    cbv; exact ⟨rfl, trivial⟩
  · have h : ¬ left - (a.length : Int) < 0 := h
    refine ⟨left - a.length, ⟨by omega, by omega, fun _ => ?_⟩, ?_⟩
    · show a.length ≤ 1048576
      omega
    · cbv; exact ⟨rfl, trivial⟩
theorem szPinSS_ok (a : List (List Pin)) (left : Int) (h0 : 0 ≤ left) (hb : left ≤ 1048576) : Spec Tryz.prog 242 [lA .spk a, iA left] (RetX Int (fun r => szP (a.length ≤ bigN ∧ ∀ x ∈ a, x.length ≤ bigN) left r) fun r => iR fun _ => r) := by
  refine spec_of tabOk Tryz.func242 rfl rfl (fr := true) (fun _ => by kernel_rfl) fun P hP hA => ?_
  obtain ⟨⟨ha, _⟩, hl, _⟩ := hA
  have ha : a.length ≤ 9223372036854775807 := ha
  cbv
  refine Ar.exact ?_ ?_ ?_
  · show -9223372036854775808 ≤ left - (a.length : Int)
    omega
  · show left - (a.length : Int) ≤ 9223372036854775807
    omega
  cbv
  refine Br.dec (fun h => ?_) (fun h => ?_) <;> (cbv; repeat (refine Pz.mk ?_; cbv))
  · refine ⟨-1, ⟨by omega, by omega, by omega⟩, ?_⟩
    cbv; exact ⟨rfl, trivial⟩
  have h : ¬ left - (a.length : Int) < 0 := h
  have hn : a.length ≤ 1048576 := by omega
  refine LoopE.by (X := Nat × Int) (fun p => [(0, lA .spk a), (1, iT fun _ => p.2), (5, nT fun _ => p.1)]) (fun _ => []) (fun p => p.1 ≤ a.length ∧ 0 ≤ p.2 ∧ p.2 ≤ left ∧ ∀ x ∈ a.take p.1, x.length ≤ bigN) (fun p _ => a.length - p.1) (0, left - a.length) ⟨Nat.zero_le _, by show 0 ≤ left - (a.length : Int); omega, by show left - (a.length : Int) ≤ left; omega, by simp⟩ ?_ ?_
  · cbv; exact ⟨rfl, rfl, rfl, trivial⟩
  · rintro ⟨i, l⟩ ⟨hi, h1, h2, h3⟩
    have hi : i ≤ a.length := hi
    have h1 : 0 ≤ l := h1
    have h2 : l ≤ left := h2
    cbv
    refine Br.dec (fun h4 => ?_) (fun h4 => ?_) <;> (cbv; repeat (refine Pz.mk ?_; cbv))
    · have h4 : (i : Int) < (a.length : Int) := h4
      have h4 : i < a.length := by omega
      refine ⟨a[i], by simp, get_cast a h4, ?_⟩
      cbv
      refine CallA.ex hP (szPinS_ok a[i] l h1 (by omega)) fun r hr => ?_
      cbv
      repeat (refine Pz.mk ?_; cbv)
      refine Br.dec (fun h5 => ?_) (fun h5 => ?_) <;> (cbv; repeat (refine Pz.mk ?_; cbv))
      · refine ⟨-1, ⟨by omega, by omega, by omega⟩, ?_⟩
        cbv; exact ⟨rfl, trivial⟩
      have h5 : 0 ≤ r := by have h5 : ¬ r < 0 := h5; omega
      refine Ar.exact ?_ ?_ ?_
      · show -9223372036854775808 ≤ (i : Int) + 1
        omega
      · show (i : Int) + 1 ≤ 9223372036854775807
        omega
      cbv
      refine NextE.by (i + 1, r) ?_ ?_ ?_
      · show a.length - (i + 1) < a.length - i
        omega
      · refine ⟨h4, h5, Int.le_trans hr.hi h2, fun y hy => ?_⟩
        have hy : y ∈ a.take (i + 1) := hy
        rw [List.take_add_one, List.getElem?_eq_getElem h4, List.mem_append] at hy
        rcases hy with hy | hy
        · exact h3 y hy
        · simp at hy; subst hy; exact hr.ok h5
      · cbv; exact ⟨rfl, rfl, rfl, trivial⟩
    · have h4 : ¬ (i : Int) < (a.length : Int) := h4
      have h4 : a.length ≤ i := by omega
      refine ⟨l, ⟨by omega, h2, fun _ => ⟨hn, fun x hx => h3 x ?_⟩⟩, ?_⟩
      · show x ∈ a.take i
        rw [List.take_of_length_le h4]; exact hx
      · cbv; exact ⟨rfl, trivial⟩
theorem szWheel_ok (a : List (List Pin)) (left : Int) (h0 : 0 ≤ left) (hb : left ≤ 1048576) : Spec Tryz.prog 196 [whA a, iA left] (RetX Int (fun r => szP (smallSpk a) left r) fun r => iR fun _ => r) := by
  refine spec_of tabOk Tryz.func196 rfl rfl (fr := true) (fun _ => by kernel_rfl) fun P hP hA => ?_
  cbv
  have g0 : left ≤ 1048576 := by omega
  refine CallA.ex hP (szPinSS_ok a left h0 g0) fun r0 hr0 => ?_
  cbv
  repeat (refine Pz.mk ?_; cbv)
  have hh0 := hr0.hi
  refine Br.dec (fun k0 => ?_) (fun k0 => ?_) <;> (cbv; repeat (refine Pz.mk ?_; cbv))
  · refine ⟨-1, ⟨by omega, by omega, by omega⟩, ?_⟩
    cbv; exact ⟨rfl, trivial⟩
  have p0 : 0 ≤ r0 := by
    have k : ¬ r0 < 0 := k0
    omega
  refine ⟨r0, ⟨by omega, by omega, fun _ => hr0.ok p0⟩, ?_⟩
  cbv; exact ⟨rfl, trivial⟩
theorem szCabin_ok (a : Cabin) (left : Int) (h0 : 0 ≤ left) (hb : left ≤ 1048576) : Spec Tryz.prog 122 [eA .cab a, iA left] (RetX Int (fun r => szP (smallCab a) left r) fun r => iR fun _ => r) := by
  refine spec_of tabOk Tryz.func122 rfl rfl (fr := true) (fun _ => by kernel_rfl) fun P hP hA => ?_
  cbv
  have g0 : left ≤ 1048576 := by omega
  refine CallA.ex hP (szEntryS_ok a.row left h0 g0) fun r0 hr0 => ?_
  cbv
  repeat (refine Pz.mk ?_; cbv)
  have hh0 := hr0.hi
  refine Br.dec (fun k0 => ?_) (fun k0 => ?_) <;> (cbv; repeat (refine Pz.mk ?_; cbv))
  · refine ⟨-1, ⟨by omega, by omega, by omega⟩, ?_⟩
    cbv; exact ⟨rfl, trivial⟩
  have p0 : 0 ≤ r0 := by
    have k : ¬ r0 < 0 := k0
    omega
  have g1 : r0 ≤ 1048576 := by omega
  refine CallA.ex hP (szWheel_ok a.spoke r0 p0 g1) fun r1 hr1 => ?_
  cbv
  repeat (refine Pz.mk ?_; cbv)
  have hh1 := hr1.hi
  refine Br.dec (fun k1 => ?_) (fun k1 => ?_) <;> (cbv; repeat (refine Pz.mk ?_; cbv))
  · refine ⟨-1, ⟨by omega, by omega, by omega⟩, ?_⟩
    cbv; exact ⟨rfl, trivial⟩
  have p1 : 0 ≤ r1 := by
    have k : ¬ r1 < 0 := k1
    omega
  refine ⟨r1, ⟨by omega, by omega, fun _ => ⟨hr0.ok p0, hr1.ok p1⟩⟩, ?_⟩
  cbv; exact ⟨rfl, trivial⟩
theorem szCabinS_ok (a : List Cabin) (left : Int) (h0 : 0 ≤ left) (hb : left ≤ 1048576) : Spec Tryz.prog 53 [lA .cab a, iA left] (RetX Int (fun r => szP (a.length ≤ bigN ∧ ∀ x ∈ a, smallCab x) left r) fun r => iR fun _ => r) := by
  refine spec_of tabOk Tryz.func53 rfl rfl (fr := true) (fun _ => by kernel_rfl) fun P hP hA => ?_
  obtain ⟨⟨ha, _⟩, hl, _⟩ := hA
  have ha : a.length ≤ 9223372036854775807 := ha
  cbv
  refine Ar.exact ?_ ?_ ?_
  · show -9223372036854775808 ≤ left - (a.length : Int)
    omega
  · show left - (a.length : Int) ≤ 9223372036854775807
    omega
  cbv
  refine Br.dec (fun h => ?_) (fun h => ?_) <;> (cbv; repeat (refine Pz.mk ?_; cbv))
  · refine ⟨-1, ⟨by omega, by omega, by omega⟩, ?_⟩
    cbv; exact ⟨rfl, trivial⟩
  have h : ¬ left - (a.length : Int) < 0 := h
  have hn : a.length ≤ 1048576 := by omega
  refine LoopE.by (X := Nat × Int) (fun p => [(0, lA .cab a), (1, iT fun _ => p.2), (5, nT fun _ => p.1)]) (fun _ => []) (fun p => p.1 ≤ a.length ∧ 0 ≤ p.2 ∧ p.2 ≤ left ∧ ∀ x ∈ a.take p.1, smallCab x) (fun p _ => a.length - p.1) (0, left - a.length) ⟨Nat.zero_le _, by show 0 ≤ left - (a.length : Int); omega, by show left - (a.length : Int) ≤ left; omega, by simp⟩ ?_ ?_
  · cbv; exact ⟨rfl, rfl, rfl, trivial⟩
  · rintro ⟨i, l⟩ ⟨hi, h1, h2, h3⟩
    have hi : i ≤ a.length := hi
    have h1 : 0 ≤ l := h1
    have h2 : l ≤ left := h2
    cbv
    refine Br.dec (fun h4 => ?_) (fun h4 => ?_) <;> (cbv; repeat (refine Pz.mk ?_; cbv))
    · have h4 : (i : Int) < (a.length : Int) := h4
      have h4 : i < a.length := by omega
      refine ⟨a[i], by simp, get_cast a h4, ?_⟩
      cbv
      refine CallA.ex hP (szCabin_ok a[i] l h1 (by omega)) fun r hr => ?_
      cbv
      repeat (refine Pz.mk ?_; cbv)
      refine Br.dec (fun h5 => ?_) (fun h5 => ?_) <;> (cbv; repeat (refine Pz.mk ?_; cbv))
      · refine ⟨-1, ⟨by omega, by omega, by omega⟩, ?_⟩
        cbv; exact ⟨rfl, trivial⟩
      have h5 : 0 ≤ r := by have h5 : ¬ r < 0 := h5; omega
      refine Ar.exact ?_ ?_ ?_
      · show -9223372036854775808 ≤ (i : Int) + 1
        omega
      · show (i : Int) + 1 ≤ 9223372036854775807
        omega
      cbv
      refine NextE.by (i + 1, r) ?_ ?_ ?_
      · show a.length - (i + 1) < a.length - i
        omega
      · refine ⟨h4, h5, Int.le_trans hr.hi h2, fun y hy => ?_⟩
        have hy : y ∈ a.take (i + 1) := hy
        rw [List.take_add_one, List.getElem?_eq_getElem h4, List.mem_append] at hy
        rcases hy with hy | hy
        · exact h3 y hy
        · simp at hy; subst hy; exact hr.ok h5
      · cbv; exact ⟨rfl, rfl, rfl, trivial⟩
    · have h4 : ¬ (i : Int) < (a.length : Int) := h4
      have h4 : a.length ≤ i := by omega
      refine ⟨l, ⟨by omega, h2, fun _ => ⟨hn, fun x hx => h3 x ?_⟩⟩, ?_⟩
      · show x ∈ a.take i
        rw [List.take_of_length_le h4]; exact hx
      · cbv; exact ⟨rfl, trivial⟩
theorem szRules_ok (a : Rules) (left : Int) (h0 : 0 ≤ left) (hb : left ≤ 1048576) : Spec Tryz.prog 51 [ruA a, iA left] (RetX Int (fun r => szP (a.seats.length ≤ bigN) left r) fun r => iR fun _ => r) := by
  refine spec_of tabOk Tryz.func51 rfl rfl (fr := true) (fun _ => by kernel_rfl) fun P hP hA => ?_
  cbv
  have g0 : left ≤ 1048576 := by omega
  refine CallA.ex hP (szIntS_ok a.seats left h0 g0) fun r0 hr0 => ?_
  cbv
  repeat (refine Pz.mk ?_; cbv)
  have hh0 := hr0.hi
  refine Br.dec (fun k0 => ?_) (fun k0 => ?_) <;> (cbv; repeat (refine Pz.mk ?_; cbv))
  · refine ⟨-1, ⟨by omega, by omega, by omega⟩, ?_⟩
    cbv; exact ⟨rfl, trivial⟩
  have p0 : 0 ≤ r0 := by
    have k : ¬ r0 < 0 := k0
    omega
  refine ⟨r0, ⟨by omega, by omega, fun _ => hr0.ok p0⟩, ?_⟩
  cbv; exact ⟨rfl, trivial⟩
theorem szHouse_ok (a : House) (left : Int) (h0 : 0 ≤ left) (hb : left ≤ 1048576) : Spec Tryz.prog 15 [hoA a, iA left] (RetX Int (fun r => szP (smallHo a) left r) fun r => iR fun _ => r) := by
  refine spec_of tabOk Tryz.func15 rfl rfl (fr := true) (fun _ => by kernel_rfl) fun P hP hA => ?_
  cbv
  have g0 : left ≤ 1048576 := by omega
  refine CallA.ex hP (szRules_ok a.rules left h0 g0) fun r0 hr0 => ?_
  cbv
  repeat (refine Pz.mk ?_; cbv)
  have hh0 := hr0.hi
  refine Br.dec (fun k0 => ?_) (fun k0 => ?_) <;> (cbv; repeat (refine Pz.mk ?_; cbv))
  · refine ⟨-1, ⟨by omega, by omega, by omega⟩, ?_⟩
    cbv; exact ⟨rfl, trivial⟩
  have p0 : 0 ≤ r0 := by
    have k : ¬ r0 < 0 := k0
    omega
  have g1 : r0 ≤ 1048576 := by omega
  refine CallA.ex hP (szPartyS_ok a.parties r0 p0 g1) fun r1 hr1 => ?_
  cbv
  repeat (refine Pz.mk ?_; cbv)
  have hh1 := hr1.hi
  refine Br.dec (fun k1 => ?_) (fun k1 => ?_) <;> (cbv; repeat (refine Pz.mk ?_; cbv))
  · refine ⟨-1, ⟨by omega, by omega, by omega⟩, ?_⟩
    cbv; exact ⟨rfl, trivial⟩
  have p1 : 0 ≤ r1 := by
    have k : ¬ r1 < 0 := k1
    omega
  have g2 : r1 ≤ 1048576 := by omega
  refine CallA.ex hP (szCabinS_ok a.cabins r1 p1 g2) fun r2 hr2 => ?_
  cbv
  repeat (refine Pz.mk ?_; cbv)
  have hh2 := hr2.hi
  refine Br.dec (fun k2 => ?_) (fun k2 => ?_) <;> (cbv; repeat (refine Pz.mk ?_; cbv))
  · refine ⟨-1, ⟨by omega, by omega, by omega⟩, ?_⟩
    cbv; exact ⟨rfl, trivial⟩
  have p2 : 0 ≤ r2 := by
    have k : ¬ r2 < 0 := k2
    omega
  have g3 : r2 ≤ 1048576 := by omega
  refine CallA.ex hP (szIntS_ok a.todo r2 p2 g3) fun r3 hr3 => ?_
  cbv
  repeat (refine Pz.mk ?_; cbv)
  have hh3 := hr3.hi
  refine Br.dec (fun k3 => ?_) (fun k3 => ?_) <;> (cbv; repeat (refine Pz.mk ?_; cbv))
  · refine ⟨-1, ⟨by omega, by omega, by omega⟩, ?_⟩
    cbv; exact ⟨rfl, trivial⟩
  have p3 : 0 ≤ r3 := by
    have k : ¬ r3 < 0 := k3
    omega
  have g4 : r3 ≤ 1048576 := by omega
  refine CallA.ex hP (szIntS_ok a.jobs r3 p3 g4) fun r4 hr4 => ?_
  cbv
  repeat (refine Pz.mk ?_; cbv)
  have hh4 := hr4.hi
  refine Br.dec (fun k4 => ?_) (fun k4 => ?_) <;> (cbv; repeat (refine Pz.mk ?_; cbv))
  · refine ⟨-1, ⟨by omega, by omega, by omega⟩, ?_⟩
    cbv; exact ⟨rfl, trivial⟩
  have p4 : 0 ≤ r4 := by
    have k : ¬ r4 < 0 := k4
    omega
  refine ⟨r4, ⟨by omega, by omega, fun _ => ⟨hr0.ok p0, hr1.ok p1, hr2.ok p2, hr3.ok p3, hr4.ok p4⟩⟩, ?_⟩
  cbv; exact ⟨rfl, trivial⟩
end Go.Proofs.YtnenmkiabclncaaGreat

