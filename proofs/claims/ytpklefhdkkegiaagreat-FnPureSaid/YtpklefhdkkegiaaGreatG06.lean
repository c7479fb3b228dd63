/- Parts of a proof. No conditions. -/

import Derived.Test.YtpklefhdkkegiaaGreatG05
set_option linter.unusedSimpArgs false
set_option linter.unusedVariables false
namespace Go.Proofs.YtpklefhdkkegiaaGreat
open Go
set_option maxRecDepth 100000
def jN (x:bA):V:= .agg [.lf (.int .i64 fun _=>x.total), .lf (.int .i64 fun _=>x.free), .lf (.int .i64 fun _=>x.held), .lf (.int .i64 fun _=>x.bg), .lf (.int .i64 fun _=>x.tied)]
def FJ (x:Unit→bA):cN:= .agg [.int .i64 fun _=>(x ()).total, .int .i64 fun _=>(x ()).free, .int .i64 fun _=>(x ()).held, .int .i64 fun _=>(x ()).bg, .int .i64 fun _=>(x ()).tied]
def lh (x:List (List ay)):V:= .agg [.lf (.list .cw fun _=>x)]
def vg (x:Unit→List (List ay)):cN:= .agg [.own .cw x]
def fT (x:br):V:= .agg [.lf (.list .int fun _=>x.ai), .lf (.int .i64 fun _=>x.cd), .lf (.int .i64 fun _=>x.room), .lf (.int .i64 fun _=>x.size), .lf (.int .i64 fun _=>x.period), .lf (.int .i64 fun _=>x.cC), .lf (.int .i64 fun _=>x.rest), .lf (.int .i64 fun _=>x.tries), .lf (.int .i64 fun _=>x.bO)]
def AX (x:Unit→br):cN:= .agg [.own .int fun _=>(x ()).ai, .int .i64 fun _=>(x ()).cd, .int .i64 fun _=>(x ()).room, .int .i64 fun _=>(x ()).size, .int .i64 fun _=>(x ()).period, .int .i64 fun _=>(x ()).cC, .int .i64 fun _=>(x ()).rest, .int .i64 fun _=>(x ()).tries, .int .i64 fun _=>(x ()).bO]
def dV (x:al):V:= .agg [.lf (.list .int fun _=>x.rules.ai), .lf (.int .i64 fun _=>x.rules.cd), .lf (.int .i64 fun _=>x.rules.room), .lf (.int .i64 fun _=>x.rules.size), .lf (.int .i64 fun _=>x.rules.period), .lf (.int .i64 fun _=>x.rules.cC), .lf (.int .i64 fun _=>x.rules.rest), .lf (.int .i64 fun _=>x.rules.tries), .lf (.int .i64 fun _=>x.rules.bO),
 .lf (.int .i64 fun _=>x.now), .lf (.int .i64 fun _=>x.az), .lf (.list .aB fun _=>x.ae), .lf (.list .ah fun _=>x.cabins), .lf (.list .int fun _=>x.todo), .lf (.list .int fun _=>x.aA)]
def jq (x:Unit→al):List Sh:=[.own .int fun _=>(x ()).rules.ai, .int .i64 fun _=>(x ()).rules.cd, .int .i64 fun _=>(x ()).rules.room, .int .i64 fun _=>(x ()).rules.size, .int .i64 fun _=>(x ()).rules.period, .int .i64 fun _=>(x ()).rules.cC, .int .i64 fun _=>(x ()).rules.rest, .int .i64 fun _=>(x ()).rules.tries, .int .i64 fun _=>(x ()).rules.bO,
 .int .i64 fun _=>(x ()).now, .int .i64 fun _=>(x ()).az, .own .aB fun _=>(x ()).ae, .own .ah fun _=>(x ()).cabins, .own .int fun _=>(x ()).todo, .own .int fun _=>(x ()).aA]
def sJ (x:Unit→al):cN:= .agg (jq x)
def jO (a:List (List ay)):Prop:=a.length≤aS∧∀x∈a,x.length≤aS
def ln (x:bh):Prop:=x.row.length≤aS∧jO x.spoke
def ri (a:List bh):Prop:=a.length≤aS∧∀x∈a,ln x
def bJ (x:al):Prop:=x.rules.ai.length≤aS∧x.ae.length≤aS∧ri x.cabins∧x.todo.length≤aS∧x.aA.length≤aS
end Go.Proofs.YtpklefhdkkegiaaGreat

