/- Parts of a proof. No conditions. -/

import Derived.Test.YtpklefhdkkegiaaGreatG45
import Derived.Test.YtpklefhdkkegiaaGreatG46
import Derived.Test.YtpklefhdkkegiaaGreatG36
import Derived.Test.YtpklefhdkkegiaaGreatG38
set_option linter.unusedSimpArgs false
set_option linter.unusedVariables false
namespace Go.Proofs.YtpklefhdkkegiaaGreat
open Go
set_option maxRecDepth 100000
def gA (l:List Int) (n:Nat):List Int:=(List.replicate n (0:Int)).take 0++(l++(List.replicate n (0:Int)).drop (0+l.length))
def gB (l:List ax) (n:Nat):List ax:=(List.replicate n (default:ax)).take 0++(l++(List.replicate n (default:ax)).drop (0+l.length))
theorem IN {l:List Int} {n:Nat} (h:l.length≤n):(gA l n).length=n:=by
 simp only[gA,List.length_append,List.length_take,List.length_drop,List.length_replicate]; omega
theorem IP {l:List ax} {n:Nat} (h:l.length≤n):(gB l n).length=n:=by
 simp only[gB,List.length_append,List.length_take,List.length_drop,List.length_replicate]; omega
def yr (a b:ax):Bool:=a.id == b.id && (a.ah == b.ah && (a.aq == b.aq && (a.au == b.au && (a.aT == b.aT && (a.since == b.since && (a.az == b.az && (a.st == b.st && (a.dP == b.dP && (a.asked == b.asked && true)))))))))
theorem QT (a:ax):yr a a=true:=by simp[yr]
set_option maxHeartbeats 8000000 in
theorem QU (code:List UInt8):bY Tryz.prog 10 [.c (.own 0)] [(0, .view .byte fun _=>code)] (eV (bR fun _=>true) []):=by
 refine iB aD Tryz.func10 rfl rfl (fr:=true) (fun _=>by kernel_rfl) rfl rfl fun P hP hA hB=> ?_;cbv;refine ag.by hP (Pf code) ?_;cbv;refine Br.dec (fun h0=> ?_) (fun h0=> ?_) <;> cbv
 · repeat' first | exact trivial | refine⟨rfl, ?_⟩ | fail
 have hc:=Pe h0;refine aJ.ex hP (Pd code hc) fun⟨g,q⟩ hg=> ?_;cbv;have hg:lB g:=hg;have hs:bJ g:=hg.1;have lt:g.todo.length≤20:=hg.2.2.1;have lp:g.ae.length≤20:=hg.2.1;have lj:g.aA.length≤20:=hg.2.2.2.1;have o1:0+g.todo.length≤(List.replicate (20:Int).toNat (0:Int)).length:=by rw[List.length_replicate]; show 0+g.todo.length≤20; omega
 have o2:0+g.ae.length≤(List.replicate (60:Int).toNat (default:ax)).length:=by rw[List.length_replicate]; show 0+g.ae.length≤60; omega
 have o3:((List.replicate (0:Int).toNat (0:Int)).length+g.aA.length)*8≤140737488355328:=by
   show(0+g.aA.length)*8≤140737488355328;omega
 have o4:(20:Int)=(((gA g.todo 20).length:Nat):Int):=by rw[IN lt]; rfl
 have o5:(60:Int)=(((gB g.ae 60).length:Nat):Int):=by rw[IP (Nat.le_trans lp (by decide))]; rfl
 have lT:(gA g.todo 20).length=20:=IN lt;have lP:(gB g.ae 60).length=60:=IP (Nat.le_trans lp (by decide));have lJ:(List.replicate (0:Int).toNat (0:Int)++g.aA).length≤20:=by rw[List.length_append,List.length_replicate]; show 0+g.aA.length≤20; omega
 have o6:(([]:List Int).length+(gA g.todo 20).length)*8≤140737488355328:=by rw[lT,List.length_nil]; omega
 have o7:(([]:List ax).length+(gB g.ae 60).length)*80≤140737488355328:=by rw[lP,List.length_nil]; omega
 have o8:(([]:List Int).length+(List.replicate (0:Int).toNat (0:Int)++g.aA).length)*8≤140737488355328:=by rw[List.length_nil]; omega
 obtain⟨X,hX⟩:∃X:al,X=⟨g.rules,g.now,g.az,(gB g.ae 60).take (0+g.ae.length),g.cabins,(gA g.todo 20).take (0+g.todo.length),(List.replicate (0:Int).toNat (0:Int)++g.aA)⟩:=⟨_,rfl⟩
 have Cx:bJ X:=by
   rw[hX];refine⟨hs.1, ?_,hs.2.2.1, ?_, ?_⟩
   · show((gB g.ae 60).take _).length≤1048576;rw[List.length_take]; omega
   · show((gA g.todo 20).take _).length≤1048576;rw[List.length_take]; omega
   · show(List.replicate (0:Int).toNat (0:Int)++g.aA).length≤1048576;omega
 obtain⟨D,hD⟩:∃D,D=yo X q:=⟨_,rfl⟩;obtain⟨y,hy⟩:∃y,y=yp X q:=⟨_,rfl⟩;obtain⟨v,hv⟩:∃v,v=bx X q:=⟨_,rfl⟩;have Cy:bJ D:=by rw[hD]; exact Qv Cx q
 have yc:y.code=v:=by rw[hy,hv]; exact QS X q
 have t1:(y.code != v)=false:=by rw[yc]; simp
 have d1:D.todo.length≤1048576:=Cy.2.2.2.1;have d2:D.ae.length≤1048576:=Cy.2.1;have d3:D.aA.length≤1048576:=Cy.2.2.2.2;apply gz
 · intro hk
   repeat' first
     | exact trivial
     | (refine Pz.mk ?_; cbv)
     | (refine Ob.mk ⟨rfl,by decide,by decide⟩ ?_; cbv)
     | (refine Ob.mk o1 ?_; cbv)
     | (refine Ob.mk o2 ?_; cbv)
     | (refine Ob.mk ⟨by decide,by decide,by decide⟩ ?_; cbv)
     | (refine Ob.mk o3 ?_; cbv)
     | (refine Ob.mk o4 ?_; cbv)
     | (refine Ob.mk o5 ?_; cbv)
     | (refine Ob.mk o6 ?_; cbv)
     | (refine Ob.mk o7 ?_; cbv)
     | (refine Ob.mk o8 ?_; cbv)
     | refine And.intro ?_ ?_
     | fail
   all_goals exact hk
 refine ag.uM hP (QG X q Cx D hD y hy) (by rw[hX]; rfl) ?_;cbv
 repeat' first
   | exact trivial
   | (refine Pz.mk ?_; cbv)
   | (refine ag.uM hP (Po X q Cx v hv) (by rw[hX]; rfl) ?_; cbv)
   | (refine Br.no t1 ?_; cbv)
   | fail
 apply aW.rh (A:=List Int) (B:=Int) (fun td j=>[(3,pN 3),(5,oN 30),(6,oN 31),(7,oN 32),(8,oN 33),(9,oN 34),(10,pN 10),(12,iT fun _=>j)]) (fun td j=>[(3, .box [.undef, .undef, .undef, .undef, .undef, .undef, .undef, .undef, .undef, .undef, .undef, .undef, .undef, .undef, .own 35]),(10, .box [.undef, .undef, .undef, .undef, .undef, .undef, .undef, .undef, .undef, .undef, .undef, .own 36, .undef, .own 37, .own 38]),(30,aK .int fun _=>(gA g.todo 20)),(31,aK .aB fun _=>(gB g.ae 60)),(32,aK .int fun _=>[]++(gA g.todo 20)),(33,aK .aB fun _=>[]++(gB g.ae 60)),(34,aK .int fun _=>[]++(List.replicate (0:Int).toNat (0:Int)++g.aA)),(35,aK .int fun _=>(List.replicate (0:Int).toNat (0:Int)++g.aA)),(36,aK .aB fun _=>D.ae),(37,aK .int fun _=>td),(38,aK .int fun _=>D.aA)]) (fun td j=>td.length=D.todo.length∧0≤j∧j.toNat≤D.todo.length) (fun td j _=>D.todo.length - j.toNat)
 · cbv
   (try dsimp only)
   repeat' first | exact trivial | refine⟨rfl, ?_⟩ | fail
 · exact⟨rfl,by omega,Nat.zero_le _⟩
 rintro td j ⟨p0,p1,p2⟩
 cbv;refine Br.dec (fun k_=> ?_) (fun k_=> ?_) <;> cbv
 · have dN:j<(td.length:Int):=k_;have gk:(j+1).toNat=j.toNat+1∧j.toNat+1≤D.todo.length∧ -9223372036854775808≤j+1∧j+1≤9223372036854775807:=by omega
   repeat' first
     | exact trivial
     | (refine Pz.mk ?_; cbv)
     | (refine Ob.mk ⟨p1,k_⟩ ?_; cbv)
     | (refine Sv.len ?_; intro u hu; simp only[List.length_set] at hu; cbv)
     | (refine Ar.exact (by exact gk.2.2.1) (by exact gk.2.2.2) ?_; cbv)
     | fail
   any_goals
     apply aO.Bb
     · cbv
       (try dsimp only)
       repeat' first | exact trivial | refine⟨rfl, ?_⟩ | fail
     · (try dsimp only)
       exact⟨hu.trans p0,by omega,by rw[gk.1]; exact gk.2.1⟩
     · (try dsimp only)
       rw[gk.1]; have:=gk.2.1; omega
 apply aW.rh (A:=List ax) (B:=Int) (fun ps j=>[(3,pN 3),(5,oN 30),(6,oN 31),(7,oN 32),(8,oN 33),(9,oN 34),(10,pN 10),(13,iT fun _=>j)]) (fun ps j=>[(3, .box [.undef, .undef, .undef, .undef, .undef, .undef, .undef, .undef, .undef, .undef, .undef, .undef, .undef, .undef, .own 35]),(10, .box [.undef, .undef, .undef, .undef, .undef, .undef, .undef, .undef, .undef, .undef, .undef, .own 36, .undef, .own 37, .own 38]),(30,aK .int fun _=>(gA g.todo 20)),(31,aK .aB fun _=>(gB g.ae 60)),(32,aK .int fun _=>[]++(gA g.todo 20)),(33,aK .aB fun _=>[]++(gB g.ae 60)),(34,aK .int fun _=>[]++(List.replicate (0:Int).toNat (0:Int)++g.aA)),(35,aK .int fun _=>(List.replicate (0:Int).toNat (0:Int)++g.aA)),(36,aK .aB fun _=>ps),(37,aK .int fun _=>td),(38,aK .int fun _=>D.aA)]) (fun ps j=>ps.length=D.ae.length∧0≤j∧j.toNat≤D.ae.length) (fun ps j _=>D.ae.length - j.toNat)
 · cbv
   (try dsimp only)
   repeat' first | exact trivial | refine⟨rfl, ?_⟩ | fail
 · exact⟨rfl,by omega,Nat.zero_le _⟩
 rintro ps j2 ⟨s0,s1,s2⟩
 cbv;refine Br.dec (fun lq=> ?_) (fun lq=> ?_) <;> cbv
 · have sY:j2<(ps.length:Int):=lq;have oD:(j2+1).toNat=j2.toNat+1∧j2.toNat+1≤D.ae.length∧ -9223372036854775808≤j2+1∧j2+1≤9223372036854775807:=by omega
   repeat' first
     | exact trivial
     | (refine Pz.mk ?_; cbv)
     | (refine Ob.mk ⟨s1,lq⟩ ?_; cbv)
     | (refine Sv.len ?_; intro u hu; simp only[List.length_set] at hu; cbv)
     | (refine Ar.exact (by exact oD.2.2.1) (by exact oD.2.2.2) ?_; cbv)
     | fail
   any_goals
     apply aO.Bb
     · cbv
       (try dsimp only)
       repeat' first | exact trivial | refine⟨rfl, ?_⟩ | fail
     · (try dsimp only)
       exact⟨hu.trans s0,by omega,by rw[oD.1]; exact oD.2.1⟩
     · (try dsimp only)
       rw[oD.1]; have:=oD.2.1; omega
 apply aW.rh (A:=List Int) (B:=Int) (fun js j=>[(3,pN 3),(5,oN 30),(6,oN 31),(7,oN 32),(8,oN 33),(9,oN 34),(10,pN 10),(14,iT fun _=>j)]) (fun js j=>[(3, .box [.undef, .undef, .undef, .undef, .undef, .undef, .undef, .undef, .undef, .undef, .undef, .undef, .undef, .undef, .own 35]),(10, .box [.undef, .undef, .undef, .undef, .undef, .undef, .undef, .undef, .undef, .undef, .undef, .own 36, .undef, .own 37, .own 38]),(30,aK .int fun _=>(gA g.todo 20)),(31,aK .aB fun _=>(gB g.ae 60)),(32,aK .int fun _=>[]++(gA g.todo 20)),(33,aK .aB fun _=>[]++(gB g.ae 60)),(34,aK .int fun _=>[]++(List.replicate (0:Int).toNat (0:Int)++g.aA)),(35,aK .int fun _=>(List.replicate (0:Int).toNat (0:Int)++g.aA)),(36,aK .aB fun _=>ps),(37,aK .int fun _=>td),(38,aK .int fun _=>js)]) (fun js j=>js.length=D.aA.length∧0≤j∧j.toNat≤D.aA.length) (fun js j _=>D.aA.length - j.toNat)
 · cbv
   (try dsimp only)
   repeat' first | exact trivial | refine⟨rfl, ?_⟩ | fail
 · exact⟨rfl,by omega,Nat.zero_le _⟩
 rintro js j3 ⟨u0,u1,u2⟩
 cbv;refine Br.dec (fun sZ=> ?_) (fun sZ=> ?_) <;> cbv
 · have BN:j3<(js.length:Int):=sZ;have lz:(j3+1).toNat=j3.toNat+1∧j3.toNat+1≤D.aA.length∧ -9223372036854775808≤j3+1∧j3+1≤9223372036854775807:=by omega
   repeat' first
     | exact trivial
     | (refine Pz.mk ?_; cbv)
     | (refine Ob.mk ⟨u1,sZ⟩ ?_; cbv)
     | (refine Sv.len ?_; intro u hu; simp only[List.length_set] at hu; cbv)
     | (refine Ar.exact (by exact lz.2.2.1) (by exact lz.2.2.2) ?_; cbv)
     | fail
   any_goals
     apply aO.Bb
     · cbv
       (try dsimp only)
       repeat' first | exact trivial | refine⟨rfl, ?_⟩ | fail
     · (try dsimp only)
       exact⟨hu.trans u0,by omega,by rw[lz.1]; exact lz.2.1⟩
     · (try dsimp only)
       rw[lz.1]; have:=lz.2.1; omega
 apply aW.Fv (A:=Int) (fun j=>[(3,pN 3),(5,oN 30),(6,oN 31),(7,oN 32),(8,oN 33),(9,oN 34),(15,iT fun _=>j)]) (fun j=>[(3, .box [.undef, .undef, .undef, .undef, .undef, .undef, .undef, .undef, .undef, .undef, .undef, .undef, .undef, .undef, .own 35]),(30,aK .int fun _=>(gA g.todo 20)),(31,aK .aB fun _=>(gB g.ae 60)),(32,aK .int fun _=>[]++(gA g.todo 20)),(33,aK .aB fun _=>[]++(gB g.ae 60)),(34,aK .int fun _=>[]++(List.replicate (0:Int).toNat (0:Int)++g.aA)),(35,aK .int fun _=>(List.replicate (0:Int).toNat (0:Int)++g.aA))]) (fun j=>0≤j∧j≤60) (fun j _=>(60 - j).toNat)
 · cbv
   (try dsimp only)
   repeat' first | exact trivial | refine⟨rfl, ?_⟩ | fail
 · exact⟨by omega,by omega⟩
 rintro j4 ⟨v1,v2⟩
 cbv;refine Br.dec (fun gE=> ?_) (fun gE=> ?_) <;> cbv
 · have jy :j4<60:=gE;have w1:0≤j4∧j4<(((gB g.ae 60).length:Nat):Int):=by rw[lP]; omega
   have w2:0≤j4∧j4<((([]++(gB g.ae 60)).length:Nat):Int):=w1
   have t2:(!yr (cS .aB (fun _=>(gB g.ae 60)) (fun _=>j4.toNat) ()) (cS .aB (fun _=>[]++(gB g.ae 60)) (fun _=>j4.toNat) ()))=false:=by
     show(!yr (cS .aB (fun _=>(gB g.ae 60)) (fun _=>j4.toNat) ()) (cS .aB (fun _=>(gB g.ae 60)) (fun _=>j4.toNat) ()))=false;rw[QT]; rfl
   by_cases qN:j4<20
   · have w3:0≤j4∧j4<(((gA g.todo 20).length:Nat):Int):=by rw[lT]; omega
     have w4:0≤j4∧j4<((([]++(gA g.todo 20)).length:Nat):Int):=w3
     have t3:(cS .int (fun _=>(gA g.todo 20)) (fun _=>j4.toNat) () != cS .int (fun _=>[]++(gA g.todo 20)) (fun _=>j4.toNat) ())=false:=by
       show(cS .int (fun _=>(gA g.todo 20)) (fun _=>j4.toNat) () != cS .int (fun _=>(gA g.todo 20)) (fun _=>j4.toNat) ())=false;simp
     repeat' first
       | exact trivial
       | (refine Pz.mk ?_; cbv)
       | (refine Ob.mk w1 ?_; cbv)
       | (refine Ob.mk w2 ?_; cbv)
       | (refine Br.no t2 ?_; cbv)
       | (refine Br.yes (decide_eq_true qN) ?_; cbv)
       | (refine Ob.mk w3 ?_; cbv)
       | (refine Ob.mk w4 ?_; cbv)
       | (refine Br.no t3 ?_; cbv)
       | (refine Ar.exact (by omega) (by omega) ?_; cbv)
       | refine And.intro ?_ ?_
       | fail
     any_goals
       apply aO.Ga
       · cbv
         (try dsimp only)
         repeat' first | exact trivial | refine⟨rfl, ?_⟩ | fail
       · (try dsimp only)
         exact⟨by omega,by omega⟩
       · (try dsimp only)
         omega
   · repeat' first
       | exact trivial
       | (refine Pz.mk ?_; cbv)
       | (refine Ob.mk w1 ?_; cbv)
       | (refine Ob.mk w2 ?_; cbv)
       | (refine Br.no t2 ?_; cbv)
       | (refine Br.no (decide_eq_false qN) ?_; cbv)
       | (refine Ar.exact (by omega) (by omega) ?_; cbv)
       | refine And.intro ?_ ?_
       | fail
     any_goals
       apply aO.Ga
       · cbv
         (try dsimp only)
         repeat' first | exact trivial | refine⟨rfl, ?_⟩ | fail
       · (try dsimp only)
         exact⟨by omega,by omega⟩
       · (try dsimp only)
         omega
 repeat' first
   | exact trivial
   | (refine Pz.mk ?_; cbv)
   | (refine ag.by hP (Pg (List.replicate (0:Int).toNat (0:Int)++g.aA) ([]++(List.replicate (0:Int).toNat (0:Int)++g.aA))) ?_; cbv)
   | fail
 exact⟨decide_eq_true rfl,trivial⟩
theorem QV (code:List UInt8):Spec Tryz.prog 10 [lA .byte code] (aM (bR fun _=>true)):=Spec.Mc (QU code)
end Go.Proofs.YtpklefhdkkegiaaGreat

