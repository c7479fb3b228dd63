/- Parts of a proof. No conditions. -/

import Derived.Test.YtpklefhdkkegiaaGreatG45
import Derived.Test.YtpklefhdkkegiaaGreatG46
import Derived.Test.YtpklefhdkkegiaaGreatG38
import Derived.Test.YtpklefhdkkegiaaGreatG33
import Derived.Test.YtpklefhdkkegiaaGreatG16
import Derived.Test.YtpklefhdkkegiaaGreatG15
set_option linter.unusedSimpArgs false
set_option linter.unusedVariables false
namespace Go.Proofs.YtpklefhdkkegiaaGreat
open Go
set_option maxRecDepth 100000
theorem VW {g:ai} {ag:Int} (h:ag<0):cu g ag=false:=by
 rw[cu,ak,decide_eq_false (by omega),Bool.false_and,Bool.and_false]
theorem VX {g:ai} {ag:Int} (h:(g.cabins.length:Int)≤ag):cu g ag=false:=by
 rw[cu,ak,decide_eq_false (p:=ag≤_) (by omega),Bool.and_false,Bool.and_false]
set_option maxHeartbeats 8000000 in
theorem VY (code :List UInt8):bJ Tryz.prog 4 [.c (.own 0)] [(0, .view .byte fun _=>code)] (dx (bR fun _=>true) []):=by
 refine fp au Tryz.func4 rfl rfl (fr:=true) (fun _=>by kernel_rfl) rfl rfl fun P hP hA hB=> ?_;cbv;refine af.by hP (uv code) ?_;cbv;refine Br.dec (fun h0=> ?_) (fun h0=> ?_) <;> cbv
 · repeat' first | exact trivial | refine⟨rfl, ?_⟩ | fail
 have hc:=uu h0;refine aD.ex hP (Lp code hc) fun⟨g,ag⟩ hg=> ?_;cbv;have hs:a_ g:=(show gu g from hg).1;obtain⟨F,hF⟩:∃F,F=(bH g ag).1:=⟨_,rfl⟩;obtain⟨ids,l7⟩:∃y,y=(bH g ag).2:=⟨_,rfl⟩;obtain⟨L,hL⟩:∃L,L=bj g ag:=⟨_,rfl⟩;obtain⟨b,hb⟩:∃b,b=bU g:=⟨_,rfl⟩;have qT:a_ F:=by rw[hF]; exact(Bn hs _).1
 refine af.by hP (Bu g ag hs F hF ids l7) ?_;cbv;refine af.by hP (Tx g ag hs L hL) ?_;cbv;refine af.by hP (Bb g ag hs L hL) ?_;cbv;refine Br.split (fun k1=> ?_) (fun k1=> ?_) <;> cbv
 · have k1:((L.length:Int) != (L.length:Int))=true:=k1;simp at k1
 refine af.by hP (kF g hs b hb) ?_;cbv;have hlen:cu g ag=false→(((ids.length:Nat):Int) == 0)=true:=fun hn=>by rw[l7,F4 hn]; rfl
 cases hC:bU g with
 | false=>
   have g1:(!b)=true:=by rw[hb,hC]; rfl
   have hn:cu g ag=false:=by rw[cu,hC]; rfl
   repeat' first
     | exact trivial
     | (refine Pz.mk ?_; cbv)
     | (refine Br.yes g1 ?_; cbv)
     | refine⟨hlen hn, ?_⟩
     | fail
 | true =>
   have g1:(!b)=false:=by rw[hb,hC]; rfl
   by_cases tY:ag<0
   · repeat' first
       | exact trivial
       | (refine Pz.mk ?_; cbv)
       | (refine Br.no g1 ?_; cbv)
       | (refine Br.yes (decide_eq_true tY) ?_; cbv)
       | refine⟨hlen (VW tY), ?_⟩
       | fail
   by_cases mH:(g.cabins.length:Int)≤ag
   · repeat' first
       | exact trivial
       | (refine Pz.mk ?_; cbv)
       | (refine Br.no g1 ?_; cbv)
       | (refine Br.no (decide_eq_false tY) ?_; cbv)
       | (refine Br.yes (decide_eq_true mH) ?_; cbv)
       | refine⟨hlen (VX mH), ?_⟩
       | fail
   obtain⟨n,rfl⟩:∃n:Nat,ag=n:=⟨ag.toNat,by omega⟩;have hn:n<g.cabins.length:=by omega
   have hG:=dy.1 hC;obtain⟨S,lH⟩:=qR hG hn;obtain⟨K1,K2,K3⟩:=yX hG hn;have M1:=BF hG hn;have Ga:=VC hG hn;have tC:=fun z hz h1 h2 h3=>VD hG hn (z:=z) hz h1 h2 h3;have M3:HG F:=by rw[hF]; exact S.hg
   rw[←hF] at lH K1 K2 K3 M1 Ga tC;have okF:bU F=true:=dy.2 M3;have oF:0≤(n:Int)∧(n:Int)<(F.cabins.length:Int):=by omega
   have VZ:aB F (n:Int)=bM .ag (fun _=>F.cabins) (fun _=>((n:Nat):Int).toNat) ():=by
     rw[jt (List.getElem?_eq_getElem (show n<F.cabins.length by omega))];exact(qQ (E:= .ag) (xs:=F.cabins) (Int.toNat_natCast n) (List.getElem?_eq_getElem (show n<F.cabins.length by omega))).symm
   rw[VZ] at tC;have sm:true=iE F F:=(Bz M3).symm;have W0:F.ae.length≤1048576:=qT.2.1
   repeat' first
     | exact trivial
     | (refine Pz.mk ?_; cbv)
     | (refine Br.no g1 ?_; cbv)
     | (refine Br.no (decide_eq_false tY) ?_; cbv)
     | (refine Br.no (decide_eq_false mH) ?_; cbv)
     | (refine af.by hP (kF F qT true okF.symm) ?_; cbv)
     | (refine af.by hP (Bb F (n:Int) qT [] M1.symm) ?_; cbv)
     | (refine af.by hP (EP F (n:Int) qT 0 lH.symm) ?_; cbv)
     | (refine Br.no (by first | with_reducible rfl | exact(rfl:(!true)=false) | exact(by decide)) ?_; cbv)
     | fail
   apply aR.vD (A:=Int) (fun j=>[(4,nT fun _=>n),(5,pN 5),(7,iT fun _=>j)]) (fun j=>(5, .box (np 10 F))::pK 10 F) (fun j=>0≤j∧j.toNat≤F.ae.length) (fun j _=>F.ae.length - j.toNat)
   · cbv
     (try dsimp only)
     repeat' first | exact trivial | refine⟨rfl, ?_⟩ | fail
   · exact⟨by omega,Nat.zero_le _⟩
   rintro j ⟨q1,q2⟩
   cbv;refine Br.dec (fun jT=> ?_) (fun jT=> ?_) <;> cbv
   · have eh : j < (F.ae.length:Int):=jT;have ek:j.toNat+1≤F.ae.length∧(j+1).toNat=j.toNat+1:=by omega
     obtain⟨z,hz⟩:∃z,z=bM .aE (fun _=>F.ae) (fun _=>j.toNat) ():=⟨_,rfl⟩;have zm:z∈F.ae:=by rw[hz]; exact FQ ek.1
     have r1: -9223372036854775808≤j+1:=by omega
     have r2:j+1≤9223372036854775807:=by omega
     by_cases d1:z.ag=(n:Int)
     · have qU : ((bM .aE (fun _=>F.ae) (fun _=>j.toNat) ()).ag == (n:Int))=true:=by rw[←hz,d1]; simp
       by_cases d2:z.st=1
       · have BG :((bM .aE (fun _=>F.ae) (fun _=>j.toNat) ()).st == 1)=true:=by rw[←hz,d2]; rfl
         cases d3:fS z F.now with
         | true =>
           have Gb:(!fS z F.now)=false:=by rw[d3]; rfl
           repeat' first
             | exact trivial
             | (refine Pz.mk ?_; cbv)
             | (refine Ob.mk ⟨q1,jT⟩ ?_; cbv)
             | (refine Br.yes qU ?_; cbv)
             | (refine Br.yes BG ?_; cbv)
             | (refine af.lg hP (D7 z F.now) (by rw[hz]; rfl) ?_; cbv)
             | (refine Br.no Gb ?_; cbv)
             | (refine Ar.exact (by exact r1) (by exact r2) ?_; cbv)
             | refine And.intro ?_ ?_
             | fail
           any_goals
             apply aL.pz
             · cbv
               (try dsimp only)
               repeat' first | exact trivial | refine⟨rfl, ?_⟩ | fail
             · (try dsimp only)
               exact⟨by omega,by rw[ek.2]; exact ek.1⟩
             · (try dsimp only)
               rw[ek.2]; omega
         | false =>
           have Gb:(!fS z F.now)=true:=by rw[d3]; rfl
           have d4:=tC z zm d1 d2 d3;have V0:¬(bM .aE (fun _=>F.ae) (fun _=>j.toNat) ()).aj≤(bM .ag (fun _=>F.cabins) (fun _=>((n:Nat):Int).toNat) ()).seats.free:=by rw[←hz]; exact Int.not_le.2 d4
           repeat' first
             | exact trivial
             | (refine Pz.mk ?_; cbv)
             | (refine Ob.mk ⟨q1,jT⟩ ?_; cbv)
             | (refine Br.yes qU ?_; cbv)
             | (refine Br.yes BG ?_; cbv)
             | (refine af.lg hP (D7 z F.now) (by rw[hz]; rfl) ?_; cbv)
             | (refine Br.yes Gb ?_; cbv)
             | (refine Ob.mk oF ?_; cbv)
             | (refine Br.no (decide_eq_false V0) ?_; cbv)
             | (refine Ar.exact (by exact r1) (by exact r2) ?_; cbv)
             | refine And.intro ?_ ?_
             | fail
           any_goals
             apply aL.pz
             · cbv
               (try dsimp only)
               repeat' first | exact trivial | refine⟨rfl, ?_⟩ | fail
             · (try dsimp only)
               exact⟨by omega,by rw[ek.2]; exact ek.1⟩
             · (try dsimp only)
               rw[ek.2]; omega
       · have BG:((bM .aE (fun _=>F.ae) (fun _=>j.toNat) ()).st == 1)=false:=by rw[←hz]; simpa using d2
         repeat' first
           | exact trivial
           | (refine Pz.mk ?_; cbv)
           | (refine Ob.mk ⟨q1,jT⟩ ?_; cbv)
           | (refine Br.yes qU ?_; cbv)
           | (refine Br.no BG ?_; cbv)
           | (refine Ar.exact (by exact r1) (by exact r2) ?_; cbv)
           | refine And.intro ?_ ?_
           | fail
         any_goals
           apply aL.pz
           · cbv
             (try dsimp only)
             repeat' first | exact trivial | refine⟨rfl, ?_⟩ | fail
           · (try dsimp only)
             exact⟨by omega,by rw[ek.2]; exact ek.1⟩
           · (try dsimp only)
             rw[ek.2]; omega
     · have qU:((bM .aE (fun _=>F.ae) (fun _=>j.toNat) ()).ag == (n:Int))=false:=by rw[←hz]; simpa using d1
       repeat' first
         | exact trivial
         | (refine Pz.mk ?_; cbv)
         | (refine Ob.mk ⟨q1,jT⟩ ?_; cbv)
         | (refine Br.no qU ?_; cbv)
         | (refine Ar.exact (by exact r1) (by exact r2) ?_; cbv)
         | refine And.intro ?_ ?_
         | fail
       any_goals
         apply aL.pz
         · cbv
           (try dsimp only)
           repeat' first | exact trivial | refine⟨rfl, ?_⟩ | fail
         · (try dsimp only)
           exact⟨by omega,by rw[ek.2]; exact ek.1⟩
         · (try dsimp only)
           rw[ek.2]; omega
   · have a1:F=(bH F (n:Int)).1:=by rw[Ga]
     have a2: []=(bH F (n:Int)).2:=by rw[Ga]
     repeat' first
       | exact trivial
       | (refine Pz.mk ?_; cbv)
       | (refine af.by hP (Bu F (n:Int) qT F a1 [] a2) ?_; cbv)
       | (refine Br.yes (by first | with_reducible rfl | exact(by decide)) ?_; cbv)
       | (refine af.by hP (ER F F qT qT true sm) ?_; cbv)
       | refine⟨rfl, ?_⟩
       | fail
def M4 (k:Nat) (x:ai):List (Nat × an):=[(k,aH .int fun _=>x.rules.seats),(k+1,aH .aE fun _=>x.ae),(k+2, .view .ag fun _=>x.cabins),(k+3,aH .int fun _=>x.todo),(k+4,aH .int fun _=>x.aq)]
set_option maxHeartbeats 8000000 in
theorem V1 (code:List UInt8):bJ Tryz.prog 5 [.c (.own 0)] [(0, .view .byte fun _=>code)] (dx (bR fun _=>true) []):=by
 refine fp au Tryz.func5 rfl rfl (fr:=true) (fun _=>by kernel_rfl) rfl rfl fun P hP hA hB=> ?_;cbv
 repeat (refine Pz.mk ?_; cbv)
 refine af.by hP (uv code) ?_;cbv
 repeat (refine Pz.mk ?_; cbv)
 refine Br.dec (fun h0=> ?_) (fun h0=> ?_) <;> (cbv; repeat (refine Pz.mk ?_; cbv))
 · repeat' first | exact trivial | refine⟨rfl, ?_⟩ | fail
 have hc:=uu h0;refine aD.ex hP (Lp code hc) fun⟨g,ag⟩ hg=> ?_;cbv
 repeat (refine Pz.mk ?_; cbv)
 have hs:a_ g:=(show gu g from hg).1;obtain⟨F,hF⟩:∃F,F=(bH g ag).1:=⟨_,rfl⟩;obtain⟨ids,l7⟩:∃y,y=(bH g ag).2:=⟨_,rfl⟩;obtain⟨b,hb⟩:∃b,b=bU g:=⟨_,rfl⟩;have qT:a_ F:=by rw[hF]; exact(Bn hs _).1
 have EF:ids.length≤11:=by rw[l7]; exact(Bn hs _).2
 have V2:ids.length≤aN:=Nat.le_trans EF (by decide);have fA:g.cabins.length≤1048576:=hs.2.2.1.1
 have made:∀d∈ids,jq F d=true∧(sC F d).tm=g.now+g.rules.bE∧ids.count d=1∧(0≤g.now∧g.now≤1000000)∧(1≤g.rules.bE∧g.rules.bE≤8):=fun d hd=>by
   cases hv:cu g ag with
   | false=>rw[l7,F4 hv] at hd; cases hd
   | true=>
     obtain⟨hG,n,c,hk,rfl⟩:=sS hv;have hn:=bC hk;rw[l7] at hd;have m:=VE hG hn hd;rw[←hF] at m;have o:=VF hG hn;have w:=(eB hG.rules).bE;exact⟨m.1,m.2,by rw[l7,o.count,if_pos hd],bD hG.now,by omega⟩
 have other:bU g=true→F.cabins.length=g.cabins.length∧∀(j:Int) c0,0≤j→j≠ag→g.cabins[j.toNat]? = some c0→∃c1,F.cabins[j.toNat]? = some c1∧c1.row=c0.row∧c1.seats.free=c0.seats.free∧c1.seats.held=c0.seats.held:=fun hC=>by
   cases hv:cu g ag with
   | false=>
     have e:F=g:=by rw[hF,F4 hv]
     rw[e];exact⟨rfl,fun j c0 _ _ hc=>⟨c0,hc,rfl,rfl,rfl⟩⟩
   | true=>
     obtain⟨hG,n,c,hk,rfl⟩:=sS hv;have hn:=bC hk;have K:=(yX hG hn).1;rw[←hF] at K;refine⟨K,fun j c0 h0 hj hc=> ?_⟩;have:=VG hG hn (j:=j.toNat) (by omega) hc;rw[←hF] at this;exact this
 refine af.by hP (Bu g ag hs F hF ids l7) ?_;cbv
 repeat (refine Pz.mk ?_; cbv)
 refine af.by hP (Bv g ag hs F hF ids l7) ?_;cbv
 repeat (refine Pz.mk ?_; cbv)
 refine af.by hP (BA ids ids) ?_;cbv
 repeat (refine Pz.mk ?_; cbv)
 refine Br.split (fun k1=> ?_) (fun k1=> ?_) <;> (cbv; repeat (refine Pz.mk ?_; cbv))
 · have k1:(!decide (ids=ids))=true:=k1;simp at k1
 apply aR.vD (A:=Int) (fun j=>[(3,pN 3),(4,iT fun _=>ag),(5,pN 5),(6,oN 6),(9,iT fun _=>j)]) (fun j=>(3, .box (np 10 g))::(5, .box (np 15 F))::(6,aH .int fun _=>ids)::(pK 10 g++pK 15 F)) (fun j=>0≤j∧j.toNat≤ids.length) (fun j _=>ids.length - j.toNat)
 · cbv
   (try dsimp only)
   repeat' first | exact trivial | refine⟨rfl, ?_⟩ | fail
 · exact⟨by omega,Nat.zero_le _⟩
 rintro j ⟨q1,q2⟩
 cbv;refine Br.dec (fun jT=> ?_) (fun jT=> ?_) <;> (cbv; repeat (refine Pz.mk ?_; cbv))
 · have eh:j<(ids.length:Int):=jT;have ek:j.toNat+1≤ids.length∧(j+1).toNat=j.toNat+1:=by omega
   obtain⟨d,hd⟩:∃d,d=bM .int (fun _=>ids) (fun _=>j.toNat) ():=⟨_,rfl⟩;obtain⟨m1,m2,m3,m4,m5⟩:=made d (by rw[hd]; exact FQ ek.1);obtain⟨aI,hp⟩:∃p,p=sC F d:=⟨_,rfl⟩;rw[←hp] at m2;have r1: -9223372036854775808≤j+1:=by omega
   have r2:j+1≤9223372036854775807:=by omega
   have r3: -9223372036854775808≤g.now+g.rules.bE:=by omega
   have r4:g.now+g.rules.bE≤9223372036854775807:=by omega
   have t1:(aI.tm != g.now+g.rules.bE)=false:=by rw[m2]; simp
   have t2:((((ids.count d:Nat):Int)) != 1)=false:=by rw[m3]; rfl
   apply fO
   · intro hk
     repeat' first
       | exact trivial
       | (refine Ob.mk (⟨q1,jT⟩) ?_; cbv)
       | (refine af.lg hP (EM F d qT aI hp true m1.symm) (by rw[hd]; rfl) ?_; cbv)
       | (refine Pz.mk ?_; cbv) | (refine aW.mk ?_ (by kernel_rfl) ?_; rotate_left; cbv; rotate_right) | refine⟨rfl, ?_⟩ | refine And.intro ?_ ?_ | exact rfl | fail
     all_goals exact hk
   repeat' first
     | exact trivial
     | (refine Pz.mk ?_; cbv)
     | (refine Br.no (by first | with_reducible rfl | exact(rfl:(!true)=false)) ?_; cbv)
     | (refine Ar.exact (by exact r3) (by exact r4) ?_; cbv)
     | (refine Br.no t1 ?_; cbv)
     | (refine Ob.mk ⟨q1,jT⟩ ?_; cbv)
     | (refine af.lg hP (FR ids d V2) (by rw[hd]; rfl) ?_; cbv)
     | (refine Br.no t2 ?_; cbv)
     | (refine Ar.exact (by exact r1) (by exact r2) ?_; cbv)
     | fail
   any_goals
     apply aL.pz
     · cbv
       (try dsimp only)
       repeat' first | exact trivial | refine⟨rfl, ?_⟩ | fail
     · (try dsimp only)
       exact⟨by omega,by rw[ek.2]; exact ek.1⟩
     · (try dsimp only)
       rw[ek.2]; omega
 refine af.by hP (kF g hs b hb) ?_;cbv
 repeat (refine Pz.mk ?_; cbv)
 cases hC:bU g with
 | false=>
   have g1:(!b)=true:=by rw[hb,hC]; rfl
   repeat' first
     | exact trivial
     | (refine Pz.mk ?_; cbv)
     | (refine Br.yes g1 ?_; cbv)
     | refine⟨rfl, ?_⟩
     | fail
 | true =>
   have g1:(!b)=false:=by rw[hb,hC]; rfl
   obtain⟨hlen,V3⟩:=other hC
   have vA:g.cabins.length≤4:=by
     have hG:=dy.1 hC;rw[hG.fL]; have:=(eB hG.rules).len; omega
   repeat' first
     | (refine Pz.mk ?_; cbv)
     | (refine Br.no g1 ?_; cbv)
     | fail
   apply aR.vD (A:=Int) (fun j=>[(3,pN 3),(4,iT fun _=>ag),(5,pN 5),(12,iT fun _=>j)]) (fun j=>(3, .box (np 10 g))::(5, .box (np 15 F))::(M4 10 g++M4 15 F)) (fun j=>0≤j∧j.toNat≤g.cabins.length) (fun j _=>g.cabins.length - j.toNat)
   · cbv
     (try dsimp only)
     repeat' first | exact trivial | refine⟨rfl, ?_⟩ | fail
   · exact⟨by omega,Nat.zero_le _⟩
   rintro k ⟨p1,p2⟩
   cbv;refine Br.dec (fun pF=> ?_) (fun pF=> ?_) <;> (cbv; repeat (refine Pz.mk ?_; cbv))
   · have AY:k<(g.cabins.length:Int):=pF;have iG:k.toNat+1≤g.cabins.length∧(k+1).toNat=k.toNat+1:=by omega
     have r5: -9223372036854775808≤k+1:=by omega
     have r6:k+1≤9223372036854775807:=by omega
     by_cases d1:k=ag
     · have qU:(k != ag)=false:=by rw[d1]; simp
       repeat' first
        | exact trivial
        | (refine Pz.mk ?_; cbv)
        | (refine Br.no qU ?_; cbv)
        | (refine Ar.exact (by exact r5) (by exact r6) ?_; cbv)
        | fail
       any_goals
        apply aL.pz
        · cbv
          (try dsimp only)
          repeat' first | exact trivial | refine⟨rfl, ?_⟩ | fail
        · (try dsimp only)
          exact⟨by omega,by rw[iG.2]; exact iG.1⟩
        · (try dsimp only)
          rw[iG.2]; omega
     · have qU:(k != ag)=true:=by simpa using d1
       obtain⟨c0,dZ⟩:∃c0,g.cabins[k.toNat]? = some c0:=⟨_,List.getElem?_eq_getElem iG.1⟩;obtain⟨c1,iM,e1,e2,e3⟩:=V3 k c0 p1 d1 dZ;have t1:(!decide (c0.row=c1.row))=false:=by rw[e1,decide_eq_true rfl]; rfl
       have t2:(c0.seats.free != c1.seats.free)=false:=by rw[e2]; simp
       have t3:(c0.seats.held != c1.seats.held)=false:=by rw[e3]; simp
       repeat' first
        | exact trivial
        | (refine Pz.mk ?_; cbv)
        | (refine Br.yes qU ?_; cbv)
        | (refine Ix.mk c0 p1 dZ ?_; cbv)
        | (refine Ix.mk c1 p1 iM ?_; cbv)
        | (refine af.by hP (U6 c0.row c1.row) ?_; cbv)
        | (refine Br.no t1 ?_; cbv)
        | (refine Br.no t2 ?_; cbv)
        | (refine Br.no t3 ?_; cbv)
        | (refine Ar.exact (by exact r5) (by exact r6) ?_; cbv)
        | refine And.intro ?_ ?_
        | fail
       any_goals
        apply aL.pz
        · cbv
          (try dsimp only)
          repeat' first | exact trivial | refine⟨rfl, ?_⟩ | fail
        · (try dsimp only)
          exact⟨by omega,by rw[iG.2]; exact iG.1⟩
        · (try dsimp only)
          rw[iG.2]; omega
   · have fin:(((F.cabins.length:Nat):Int) == (g.cabins.length:Int))=true:=by rw[hlen]; simp
     repeat' first
       | (refine Pz.mk ?_; cbv)
       | exact⟨fin,trivial⟩
       | fail
theorem V4 (code:List UInt8):Spec Tryz.prog 4 [lA .byte code] (aG (bR fun _=>true)):=Spec.tU (VY code)
theorem V5 (code:List UInt8):Spec Tryz.prog 5 [lA .byte code] (aG (bR fun _=>true)):=Spec.tU (V1 code)
end Go.Proofs.YtpklefhdkkegiaaGreat

