/- Parts of a proof. No conditions. -/

import Derived.Test.YtpklefhdkkegiaaGreatG24
import Derived.Test.YtpklefhdkkegiaaGreatG21
set_option linter.unusedSimpArgs false
set_option linter.unusedVariables false
namespace Go.Proofs.YtpklefhdkkegiaaGreat
open Go
set_option maxRecDepth 100000
theorem fO {K G:Prop} (f:K→G) (k:K):G:=f k
theorem yN {h:ai} {k:Int} {c1 c2:ba}:(bN h k c1).cabins.set k.toNat c2=(bN h k c2).cabins:=List.set_set ..
theorem sX {h:ai} {k:Int} {c:ba} (hk:0≤k∧k<(h.cabins.length:Int)):aB (bN h k c) k=c:=by
 show((h.cabins.set k.toNat c)[k.toNat]?).getD default=c;rw[List.getElem?_set,if_pos rfl,if_pos (by omega)]; rfl
theorem wh {h:ai} {p:ax} (q:p.al≠ -1):cW h p=bN {h with ae:=fu h.ae p.id} p.al (j_ (aB h p.al) p.aj):=if_neg q
theorem Bq {h:ai} {p:ax} (q:p.al = -1):cW h p = {h with ae:=fu h.ae p.id}:=if_pos q
def jJ (id:Int):bS:=⟨2,id,0,0,0,0⟩
def FD (c:ba) (id:Int):ba:={c with row:=iX c.row id}
def kO (h:ai) (p:ax):ai:=bN h p.ag (FD (aB h p.ag) p.id)
def l5 (h:ai) (p:ax):ai:={c_ h p with todo:=eD h.todo p.ag}
def qP (h:ai) (p:ax):ai:=cW (if p.st=2 then l5 h p else kO h p) p
def oe (h:ai) (id:Int):ai:=if aU h (jJ id)=0 then qP h (cN h id) else h
theorem Bl {h:ai} {id:Int} (hv:aU h (jJ id)=0):∃i k p c,b_ h i k p c∧p.id=id∧cN h id=p:=by
 obtain⟨h0,h1,h2⟩:=l4 hv;have hg:=dy.1 h0;rw[Fk h0 h2 rfl] at hv
 have hk:0≤br h.ae id:=by
  have:¬br h.ae (jJ id).id<0:=fun q=>by rw[if_pos q] at hv; cases hv
  have e:(jJ id).id=id:=rfl;rw[e] at this;omega
 obtain⟨i,k,kn⟩:=known hg hk;exact⟨i,k,_,_,kn.LQ hg,kn.id,kn.aE⟩
theorem sV {h:ai} {q:bS} (k:q.kind=4∨q.kind=5) (hv:aU h q=0):∃i k p c,b_ h i k p c∧p.id=q.id∧cN h q.id=p∧p.st=2:=by
 obtain⟨h0,h1,h2⟩:=l4 hv;have hg:=dy.1 h0;rw[yC h0 h2 k,yA] at hv
 have hk:0≤br h.ae q.id:=by
  have:¬br h.ae q.id<0:=fun q=>by rw[if_pos q] at hv; cases hv
  omega
 rw[if_neg (by omega)] at hv
 have hs:(cN h q.id).st=2:=by
  by_cases e:(cN h q.id).st=2
  · exact e
  · rw[if_pos e] at hv; cases hv
 obtain⟨i,k,kn⟩:=known hg hk;exact⟨i,k,_,_,kn.LQ hg,kn.id,kn.aE,by rw[←kn.aE]; exact hs⟩
def kd (id:Int):bS:=⟨4,id,0,0,0,0⟩
def L9 (c:ba) (p:ax):ba:={c with seats:=bz c.seats p.aj 0 (-1) 1 0,spoke:=ik c.spoke (dG p)}
def eV (h:ai) (p:ax):ai:=bN h p.ag (L9 (aB h p.ag) p)
def sW (h:ai) (p:ax):ai:=if p.al = -1 then cW (eV h p) p else lp (cW (eV h p) p) p.al p.aj
def oh (h:ai) (id:Int):ai:=if aU h (kd id)=0 then sW h (cN h id) else h
def ke (id:Int):bS:=⟨5,id,0,0,0,0⟩
def uj (h:ai) (p:ax):ai:={dz h p with todo:=eD (dz h p).todo p.ag}
def om (h:ai) (id:Int):ai:=if aU h (ke id)=0 then uj h (cN h id) else h
theorem uk {h:ai} {p:ax} (hf:p.al = -1∨∃f,ln h p f) (q:p.al≠ -1):0≤p.al∧p.al<(h.cabins.length:Int):=by
 obtain⟨f,e,l⟩:=hf.resolve_left q;omega
theorem um {h:ai} {k j:Int} {c:ba} (q:0≤k∧k<(h.cabins.length:Int)):0≤k∧k<((bN h j c).cabins.length:Int):=by rw[iZ]; exact q
def kP (id ag al aj aO:Int):bS:=⟨1,id,ag,al,aj,aO⟩
def dv (h:ai) (id ag al aj aO:Int):ax:=⟨id,ag,al,aj,aO,h.now,h.aA,1,0,0⟩
def uo (c:ba) (n:Int):ba:={c with seats:=bz c.seats n 0 0 0 1}
def my (h:ai) (p:ax):ai:=if p.al = -1 then h else bN h p.al (uo (aB h p.al) p.aj)
def oq (h:ai) (p:ax):ai:={h with aA:=h.aA+1,ae:=ff h.ae p}
def fD (h:ai) (p:ax):ai:=v8 (oq h p) p
def il (h:ai) (p:ax):ai:={my (fD h p) p with todo:=eD h.todo p.ag}
def oo (h:ai) (id ag al aj aO:Int):ai:=if aU h (kP id ag al aj aO)=0 then il h (dv h id ag al aj aO) else h
structure jK (h:ai) (p:ax) (k:Nat) (c:ba):Prop where
 hg:HG h
 hk:h.cabins[k]? = some c
 ag:p.ag=(k:Int)
 ok:bF h.rules p h.now=true
 new:br h.ae p.id<0
 aA:p.aA=h.aA
 FE:1≤h.aA∧h.aA≤1000000
 st:p.st=1
 room:jG h (k:Int)<h.rules.room
 loose:p.al≠ -1→p.aj≤gd (aB h p.al)
theorem Bm {h:ai} {id ag al aj aO:Int} (hv:aU h (kP id ag al aj aO)=0):∃k c,jK h (dv h id ag al aj aO) k c:=by
 obtain⟨h0,h1,h2⟩:=l4 hv;have hg:=dy.1 h0;have jr:=Ff h2 rfl;rw[Fj h0 h2 rfl,yy] at hv
 have no:∀{P:Prop} [Decidable P] {a:Int} {b:Int},a≠0→(if P then a else b)=0→¬P∧b=0:=fun {P} _ {a} {b} ha q=>by
   by_cases e:P
   · rw[if_pos e] at q; exact(ha q).elim
   · rw[if_neg e] at q; exact⟨e,q⟩
 obtain⟨a1,hv⟩:=no (by decide) hv;obtain⟨a2,hv⟩:=no (by decide) hv;obtain⟨a3,hv⟩:=no (by decide) hv;obtain⟨a4,hv⟩:=no (by decide) hv;obtain⟨a5,hv⟩:=no (by decide) hv;obtain⟨a6,hv⟩:=no (by decide) hv;obtain⟨a7,hv⟩:=no (by decide) hv;obtain⟨a8,hv⟩:=no (by decide) hv;obtain⟨a9,hv⟩:=no (by decide) hv;obtain⟨pw,_⟩:=no (by decide) hv;have tt:∀{b:Bool},¬b=false→b=true:=fun {b} h=>by cases b <;> simp_all
 have b1:iI h ag=true:=tt a1;have b1:=bD b1;have b2:ak al (-1) ((h.cabins.length:Int) - 1)=true:=tt a2;have b2:=bD b2;have b3:al≠ag:=a3;have b4:ak aj 1 h.rules.size=true:=tt a4;have b5:¬aO≥h.rules.bX:=a5;have b6:ak id 1 999=true:=tt a6;have b7:¬br h.ae id≥0:=a7;have b8:¬jG h ag≥h.rules.room:=a8;have b9:¬(al≠ -1∧gd (aB h al)<aj):=a9;have WL:¬h.aA>1000000:=pw;have t0:0≤aO:=jr.aO.1;have ht:=bD hg.aA;have hn:=bD hg.now;have hr:=eB hg.rules;have q1:=hr.tries;have q2:=hr.rest;have hc:=hg.fL;obtain⟨k,rfl⟩:∃k:Nat,ag=(k:Int):=⟨ag.toNat,by omega⟩;have hk:k<h.cabins.length:=by omega
 refine⟨k,h.cabins[k],hg,List.getElem?_eq_getElem hk,rfl, ?_,(by show br h.ae id<0; omega),rfl,by omega,rfl,by omega,fun q=> ?_⟩
 · show(ca h.rules && (ak h.now 0 1000000 && (ak id 1 999 && (ak (k:Int) 0 (h.rules.seats.length - 1) && (ak al (-1) (h.rules.seats.length - 1) && (!(al == (k:Int)) &&
    (ak aj 1 h.rules.size && (ak aO 0 (h.rules.bX - 1) && (ak h.now 0 h.now && (ak h.aA 1 1000000 && (ak 0 0 (h.rules.tries - 1) &&
    (((1:Int) == 1 && ak 0 0 (h.now+h.rules.rest)) || ((1:Int) == 2 && ak 0 1 (h.now+h.rules.bE))))))))))))))=true
   rw[hg.rules,hg.now,b6,b4];simp only[Bool.true_and,ak,Bool.and_eq_true,decide_eq_true_eq,Bool.not_eq_true',beq_eq_false_iff_ne,Bool.or_eq_true];refine⟨by omega,by omega,b3,by omega,by omega,by omega,by omega, .inl ⟨rfl,by omega,by omega⟩⟩
 · have q:al≠ -1:=q;have:¬gd (aB h al)<aj:=fun e=>b9 ⟨q,e⟩;show aj≤gd (aB h al);omega
section
variable {h : ai} {p : ax} {k : Nat} {c : ba}
theorem jK.lY (o:jK h p k c):0≤p.ag∧p.ag<(h.cabins.length:Int):=by
 have:=bC o.hk;have:=o.ag;omega
theorem jK.al (o:jK h p k c):p.al = -1∨∃f,ln h p f:=by
 have h1:=(iH o.ok).al;have h2:=o.hg.fL
 by_cases q:p.al = -1
 · exact .inl q
 · exact .inr ⟨p.al.toNat,by omega,by omega⟩
theorem jK.iJ (o:jK h p k c):aB h p.ag=c:=by rw[o.ag]; exact jt o.hk
theorem jK.none (o:jK h p k c) {z:ax} (hz:z∈h.ae):z.id≠p.id∧z.aA≠p.aA:=by
 refine⟨fun e=> ?_,fun e=> ?_⟩
 · obtain⟨i,hi,e1,_⟩:=Bh (lX o.hg.ae) hz;have:=o.new;rw[←e,e1] at this;omega
 · have:=(o.hg.ae.ok z hz).2;rw[e,o.aA] at this;omega
theorem jK.FB (o:jK h p k c):sN c.row (cD h.rules p h.now)=bP bd (cD h.rules p h.now) c.row:=by
 have r:=qN o.hg o.hk;have e:=ud o.ok o.st;have h3:=r.b0;have h4:=o.room;have h5:=(eB o.hg.rules).room;have h6:jG h (k:Int)=((aV (bK (k:Int)) h.ae:Nat):Int):=rfl;refine Lv r.pre (by omega) (Fc o.ok o.st) (fun y hy=> ?_) (fun y hy=> ?_)
 · obtain⟨z,hz,_,_,e1,_⟩:=r.of y hy;rw[e,e1]; exact(o.none hz).1
 · obtain⟨z,hz,_,_,_,e1⟩:=r.of y hy;rw[e,e1]; exact(o.none hz).2
end
end Go.Proofs.YtpklefhdkkegiaaGreat

