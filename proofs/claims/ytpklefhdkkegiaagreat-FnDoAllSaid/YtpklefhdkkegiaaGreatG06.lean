/- Parts of a proof. No conditions. -/

import Derived.Test.YtpklefhdkkegiaaGreatG05
set_option linter.unusedSimpArgs false
set_option linter.unusedVariables false
namespace Go.Proofs.YtpklefhdkkegiaaGreat
open Go
set_option maxRecDepth 100000
def iz (x:bA):V:= .agg [.lf (.int .i64 fun _=>x.total), .lf (.int .i64 fun _=>x.free), .lf (.int .i64 fun _=>x.held), .lf (.int .i64 fun _=>x.bp), .lf (.int .i64 fun _=>x.tied)]
def Js (x:Unit→bA):dg:= .agg [.int .i64 fun _=>(x ()).total, .int .i64 fun _=>(x ()).free, .int .i64 fun _=>(x ()).held, .int .i64 fun _=>(x ()).bp, .int .i64 fun _=>(x ()).tied]
def jE (x:List (List aC)):V:= .agg [.lf (.list .cE fun _=>x)]
def vF (x:Unit→List (List aC)):dg:= .agg [.own .cE x]
def fG (x:bn):V:= .agg [.lf (.list .int fun _=>x.seats), .lf (.int .i64 fun _=>x.bX), .lf (.int .i64 fun _=>x.room), .lf (.int .i64 fun _=>x.size), .lf (.int .i64 fun _=>x.period), .lf (.int .i64 fun _=>x.bE), .lf (.int .i64 fun _=>x.rest), .lf (.int .i64 fun _=>x.tries), .lf (.int .i64 fun _=>x.bm)]
def xM (x:Unit→bn):dg:= .agg [.own .int fun _=>(x ()).seats, .int .i64 fun _=>(x ()).bX, .int .i64 fun _=>(x ()).room, .int .i64 fun _=>(x ()).size, .int .i64 fun _=>(x ()).period, .int .i64 fun _=>(x ()).bE, .int .i64 fun _=>(x ()).rest, .int .i64 fun _=>(x ()).tries, .int .i64 fun _=>(x ()).bm]
def cG (x:ai):V:= .agg [.lf (.list .int fun _=>x.rules.seats), .lf (.int .i64 fun _=>x.rules.bX), .lf (.int .i64 fun _=>x.rules.room), .lf (.int .i64 fun _=>x.rules.size), .lf (.int .i64 fun _=>x.rules.period), .lf (.int .i64 fun _=>x.rules.bE), .lf (.int .i64 fun _=>x.rules.rest), .lf (.int .i64 fun _=>x.rules.tries), .lf (.int .i64 fun _=>x.rules.bm),
 .lf (.int .i64 fun _=>x.now), .lf (.int .i64 fun _=>x.aA), .lf (.list .aE fun _=>x.ae), .lf (.list .ag fun _=>x.cabins), .lf (.list .int fun _=>x.todo), .lf (.list .int fun _=>x.aq)]
def fb (x:Unit→ai):List Sh:=[.own .int fun _=>(x ()).rules.seats, .int .i64 fun _=>(x ()).rules.bX, .int .i64 fun _=>(x ()).rules.room, .int .i64 fun _=>(x ()).rules.size, .int .i64 fun _=>(x ()).rules.period, .int .i64 fun _=>(x ()).rules.bE, .int .i64 fun _=>(x ()).rules.rest, .int .i64 fun _=>(x ()).rules.tries, .int .i64 fun _=>(x ()).rules.bm,
 .int .i64 fun _=>(x ()).now, .int .i64 fun _=>(x ()).aA, .own .aE fun _=>(x ()).ae, .own .ag fun _=>(x ()).cabins, .own .int fun _=>(x ()).todo, .own .int fun _=>(x ()).aq]
def kB (x:Unit→ai):dg:= .agg (fb x)
def kC (a:List (List aC)):Prop:=a.length≤aN∧∀x∈a,x.length≤aN
def iS (x:ba):Prop:=x.row.length≤aN∧kC x.spoke
def ph (a:List ba):Prop:=a.length≤aN∧∀x∈a,iS x
def a_ (x:ai):Prop:=x.rules.seats.length≤aN∧x.ae.length≤aN∧ph x.cabins∧x.todo.length≤aN∧x.aq.length≤aN
end Go.Proofs.YtpklefhdkkegiaaGreat

