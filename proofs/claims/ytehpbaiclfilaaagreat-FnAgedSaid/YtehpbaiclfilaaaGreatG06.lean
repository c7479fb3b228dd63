/- Parts of a proof. No conditions. -/

import Derived.Test.YtehpbaiclfilaaaGreatG05
set_option linter.unusedSimpArgs false
set_option linter.unusedVariables false
namespace Go.Proofs.YtehpbaiclfilaaaGreat
open Go
set_option maxRecDepth 100000
def k8 (x : bA) : V := .agg [.lf (.int .i64 fun _ => x.total), .lf (.int .i64 fun _ => x.free), .lf (.int .i64 fun _ => x.held), .lf (.int .i64 fun _ => x.aU), .lf (.int .i64 fun _ => x.tied)]
def Iw (x : Unit → bA) : dj := .agg [.int .i64 fun _ => (x ()).total, .int .i64 fun _ => (x ()).free, .int .i64 fun _ => (x ()).held, .int .i64 fun _ => (x ()).aU, .int .i64 fun _ => (x ()).tied]
def kG (x : List (List aA)) : V := .agg [.lf (.list .cF fun _ => x)]
def xr (x : Unit → List (List aA)) : dj := .agg [.own .cF x]
def gu (x : bp) : V := .agg [.lf (.list .int fun _ => x.ah), .lf (.int .i64 fun _ => x.cm), .lf (.int .i64 fun _ => x.room), .lf (.int .i64 fun _ => x.size), .lf (.int .i64 fun _ => x.period), .lf (.int .i64 fun _ => x.ck), .lf (.int .i64 fun _ => x.rest), .lf (.int .i64 fun _ => x.tries), .lf (.int .i64 fun _ => x.bP)]
def Dp (x : Unit → bp) : dj := .agg [.own .int fun _ => (x ()).ah, .int .i64 fun _ => (x ()).cm, .int .i64 fun _ => (x ()).room, .int .i64 fun _ => (x ()).size, .int .i64 fun _ => (x ()).period, .int .i64 fun _ => (x ()).ck, .int .i64 fun _ => (x ()).rest, .int .i64 fun _ => (x ()).tries, .int .i64 fun _ => (x ()).bP]
def dk (x : ai) : V := .agg [.lf (.list .int fun _ => x.rules.ah), .lf (.int .i64 fun _ => x.rules.cm), .lf (.int .i64 fun _ => x.rules.room), .lf (.int .i64 fun _ => x.rules.size), .lf (.int .i64 fun _ => x.rules.period), .lf (.int .i64 fun _ => x.rules.ck), .lf (.int .i64 fun _ => x.rules.rest), .lf (.int .i64 fun _ => x.rules.tries), .lf (.int .i64 fun _ => x.rules.bP),
 .lf (.int .i64 fun _ => x.now), .lf (.int .i64 fun _ => x.aw), .lf (.list .az fun _ => x.ae), .lf (.list .cf fun _ => x.cabins), .lf (.list .int fun _ => x.todo), .lf (.list .int fun _ => x.aN)]
def ik (x : Unit → ai) : List Sh := [.own .int fun _ => (x ()).rules.ah, .int .i64 fun _ => (x ()).rules.cm, .int .i64 fun _ => (x ()).rules.room, .int .i64 fun _ => (x ()).rules.size, .int .i64 fun _ => (x ()).rules.period, .int .i64 fun _ => (x ()).rules.ck, .int .i64 fun _ => (x ()).rules.rest, .int .i64 fun _ => (x ()).rules.tries, .int .i64 fun _ => (x ()).rules.bP,
 .int .i64 fun _ => (x ()).now, .int .i64 fun _ => (x ()).aw, .own .az fun _ => (x ()).ae, .own .cf fun _ => (x ()).cabins, .own .int fun _ => (x ()).todo, .own .int fun _ => (x ()).aN]
def rR (x : Unit → ai) : dj := .agg (ik x)
def k9 (a : List (List aA)) : Prop := a.length ≤ aR ∧ ∀ x ∈ a, x.length ≤ aR
def mv (x : a_) : Prop := x.row.length ≤ aR ∧ k9 x.spoke
def tG (a : List a_) : Prop := a.length ≤ aR ∧ ∀ x ∈ a, mv x
def bh (x : ai) : Prop := x.rules.ah.length ≤ aR ∧ x.ae.length ≤ aR ∧ tG x.cabins ∧ x.todo.length ≤ aR ∧ x.aN.length ≤ aR
end Go.Proofs.YtehpbaiclfilaaaGreat

