/- Parts of a proof. No conditions. -/

import Derived.Test.YtpklefhdkkegiaaGreatG06
set_option linter.unusedSimpArgs false
set_option linter.unusedVariables false
namespace Go.Proofs.YtpklefhdkkegiaaGreat
open Go
set_option maxRecDepth 100000
def aV {α:Type} (z:α→Nat):List α→Nat
 | []=>0
 | x::xs=>z x+aV z xs
section
variable {α : Type} (m : α → Nat → α) (z : α → Nat)
theorem p8:∀(a b:List α),aV z (a++b)=aV z a+aV z b
 | [],b=>by simp[aV]
 | x::xs,b=>by simp[aV,p8 xs b,Nat.add_assoc]
theorem take_one {a:List α} {i:Nat} (h:i<a.length):a.take (i+1)=a.take i ++ [a[i]]:=by
 rw[List.take_add_one,List.getElem?_eq_getElem h]; rfl
theorem FV {a:List α} {i:Nat} (h:i<a.length):aV z (a.take (i+1))=aV z (a.take i)+z a[i]:=by
 rw[take_one h,p8]; simp[aV]
theorem Ge (c:Nat):∀(a:List α),(∀x∈a,z x≤c)→aV z a≤a.length*c
 | [],_=>by simp[aV]
 | x ::xs,h=>by
   have h1:=Ge c xs fun y hy=>h y (List.mem_cons_of_mem _ hy);have h2:=h x List.mem_cons_self;simp only[aV,List.length_cons,Nat.add_mul];omega
theorem A2 (c n:Nat) (a:List α) (h:∀x∈a,z x≤c) (hn:a.length≤n):aV z a≤n*c:=
 Nat.le_trans (Ge z c a h) (Nat.mul_le_mul_right c hn)
end
def MP (x:al):V:= .agg [.own 0, .lf (.int .i64 fun _=>x.rules.cd), .lf (.int .i64 fun _=>x.rules.room), .lf (.int .i64 fun _=>x.rules.size), .lf (.int .i64 fun _=>x.rules.period), .lf (.int .i64 fun _=>x.rules.cC), .lf (.int .i64 fun _=>x.rules.rest), .lf (.int .i64 fun _=>x.rules.tries), .lf (.int .i64 fun _=>x.rules.bO), .lf (.int .i64 fun _=>x.now), .lf (.int .i64 fun _=>x.az), .own 1, .own 2, .own 3, .own 4]
def MQ (x:al):List (Nat × ak):=[(0,aK .int fun _=>x.rules.ai),(1,aK .aB fun _=>x.ae),(2,aK .ah fun _=>x.cabins),(3,aK .int fun _=>x.todo),(4,aK .int fun _=>x.aA)]
end Go.Proofs.YtpklefhdkkegiaaGreat

