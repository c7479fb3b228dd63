/- Parts of a proof. No conditions. -/

import Derived.Test.YtlochjpjlhkjaaaG05
set_option linter.unusedSimpArgs false
set_option linter.unusedVariables false
namespace Go.Proofs.Ytlochjpjlhkjaaa
open Go
set_option maxRecDepth 100000
def leA (x : Ledger) : V := .agg [.lf (.int .i64 fun _ => x.total), .lf (.int .i64 fun _ => x.free), .lf (.int .i64 fun _ => x.held), .lf (.int .i64 fun _ => x.sold), .lf (.int .i64 fun _ => x.tied)]
def leR (x : Unit → Ledger) : RSh := .agg [.int .i64 fun _ => (x ()).total, .int .i64 fun _ => (x ()).free, .int .i64 fun _ => (x ()).held, .int .i64 fun _ => (x ()).sold, .int .i64 fun _ => (x ()).tied]
def whA (x : List (List Pin)) : V := .agg [.lf (.list .spk fun _ => x)]
def whR (x : Unit → List (List Pin)) : RSh := .agg [.own .spk x]
def ruA (x : Rules) : V := .agg [.lf (.list .int fun _ => x.seats), .lf (.int .i64 fun _ => x.tiers), .lf (.int .i64 fun _ => x.room), .lf (.int .i64 fun _ => x.size), .lf (.int .i64 fun _ => x.period), .lf (.int .i64 fun _ => x.window), .lf (.int .i64 fun _ => x.rest), .lf (.int .i64 fun _ => x.tries), .lf (.int .i64 fun _ => x.crew)]
def ruR (x : Unit → Rules) : RSh := .agg [.own .int fun _ => (x ()).seats, .int .i64 fun _ => (x ()).tiers, .int .i64 fun _ => (x ()).room, .int .i64 fun _ => (x ()).size, .int .i64 fun _ => (x ()).period, .int .i64 fun _ => (x ()).window, .int .i64 fun _ => (x ()).rest, .int .i64 fun _ => (x ()).tries, .int .i64 fun _ => (x ()).crew]
def hoA (x : House) : V := .agg [.lf (.list .int fun _ => x.rules.seats), .lf (.int .i64 fun _ => x.rules.tiers), .lf (.int .i64 fun _ => x.rules.room), .lf (.int .i64 fun _ => x.rules.size), .lf (.int .i64 fun _ => x.rules.period), .lf (.int .i64 fun _ => x.rules.window), .lf (.int .i64 fun _ => x.rules.rest), .lf (.int .i64 fun _ => x.rules.tries), .lf (.int .i64 fun _ => x.rules.crew),
  .lf (.int .i64 fun _ => x.now), .lf (.int .i64 fun _ => x.turn), .lf (.list .pty fun _ => x.parties), .lf (.list .cab fun _ => x.cabins), .lf (.list .int fun _ => x.todo), .lf (.list .int fun _ => x.jobs)]
def hoS (x : Unit → House) : List Sh := [.own .int fun _ => (x ()).rules.seats, .int .i64 fun _ => (x ()).rules.tiers, .int .i64 fun _ => (x ()).rules.room, .int .i64 fun _ => (x ()).rules.size, .int .i64 fun _ => (x ()).rules.period, .int .i64 fun _ => (x ()).rules.window, .int .i64 fun _ => (x ()).rules.rest, .int .i64 fun _ => (x ()).rules.tries, .int .i64 fun _ => (x ()).rules.crew,
  .int .i64 fun _ => (x ()).now, .int .i64 fun _ => (x ()).turn, .own .pty fun _ => (x ()).parties, .own .cab fun _ => (x ()).cabins, .own .int fun _ => (x ()).todo, .own .int fun _ => (x ()).jobs]
def hoR (x : Unit → House) : RSh := .agg (hoS x)
def smallSpk (a : List (List Pin)) : Prop := a.length ≤ bigN ∧ ∀ x ∈ a, x.length ≤ bigN
def smallCab (x : Cabin) : Prop := x.row.length ≤ bigN ∧ smallSpk x.spoke
def smallCabs (a : List Cabin) : Prop := a.length ≤ bigN ∧ ∀ x ∈ a, smallCab x
def smallHo (x : House) : Prop := x.rules.seats.length ≤ bigN ∧ x.parties.length ≤ bigN ∧ smallCabs x.cabins ∧ x.todo.length ≤ bigN ∧ x.jobs.length ≤ bigN
end Go.Proofs.Ytlochjpjlhkjaaa

