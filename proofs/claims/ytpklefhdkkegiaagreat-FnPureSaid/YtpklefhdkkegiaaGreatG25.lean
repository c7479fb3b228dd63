/- Parts of a proof. No conditions. -/

import Derived.Test.YtpklefhdkkegiaaGreatG24
import Derived.Test.YtpklefhdkkegiaaGreatG21
set_option linter.unusedSimpArgs false
set_option linter.unusedVariables false
namespace Go.Proofs.YtpklefhdkkegiaaGreat
open Go
set_option maxRecDepth 100000
theorem gz {K G:Prop} (f:K→G) (k:K):G:=f k
theorem vS {h:al} {k:Int} {c1 c2:bh}:(bU h k c1).cabins.set k.toNat c2=(bU h k c2).cabins:=List.set_set ..
theorem rG {h:al} {k:Int} {c:bh} (hk:0≤k∧k<(h.cabins.length:Int)):aE (bU h k c) k=c:=by
 show((h.cabins.set k.toNat c)[k.toNat]?).getD default=c;rw[List.getElem?_set,if_pos rfl,if_pos (by omega)]; rfl
theorem yk {h:al} {p:ax} (q:p.aq≠ -1):hC h p=bU {h with ae:=fX h.ae p.id} p.aq (kH (aE h p.aq) p.au):=if_neg q
theorem yl {h:al} {p:ax} (q:p.aq = -1):hC h p = {h with ae:=fX h.ae p.id}:=if_pos q
def lF (id:Int):cf:=⟨2,id,0,0,0,0⟩
def Qe (c:bh) (id:Int):bh:={c with row:=iZ c.row id}
def ml (h:al) (p:ax):al:=bU h p.ah (Qe (aE h p.ah) p.id)
def nr (h:al) (p:ax):al:={dE h p with todo:=fj h.todo p.ah}
def vT (h:al) (p:ax):al:=hC (if p.st=2 then nr h p else ml h p) p
def th (h:al) (id:Int):al:=if bx h (lF id)=0 then vT h (eO h id) else h
theorem IB {h:al} {id:Int} (hv:bx h (lF id)=0):∃i k p c,cE h i k p c∧p.id=id∧eO h id=p:=by
 obtain⟨h0,h1,h2⟩:=oI hv;have hg:=iD.1 h0;rw[B8 h0 h2 rfl] at hv
 have hk:0≤bq h.ae id:=by
  have:¬bq h.ae (lF id).id<0:=fun q=>by rw[if_pos q] at hv; cases hv
  have e:(lF id).id=id:=rfl;rw[e] at this;omega
 obtain⟨i,k,kn⟩:=known hg hk;exact⟨i,k,_,_,kn.Ik hg,kn.id,kn.aB⟩
theorem yi {h:al} {q:cf} (k:q.kind=4∨q.kind=5) (hv:bx h q=0):∃i k p c,cE h i k p c∧p.id=q.id∧eO h q.id=p∧p.st=2:=by
 obtain⟨h0,h1,h2⟩:=oI hv;have hg:=iD.1 h0;rw[vK h0 h2 k,ya] at hv
 have hk:0≤bq h.ae q.id:=by
  have:¬bq h.ae q.id<0:=fun q=>by rw[if_pos q] at hv; cases hv
  omega
 rw[if_neg (by omega)] at hv
 have hs:(eO h q.id).st=2:=by
  by_cases e:(eO h q.id).st=2
  · exact e
  · rw[if_pos e] at hv; cases hv
 obtain⟨i,k,kn⟩:=known hg hk;exact⟨i,k,_,_,kn.Ik hg,kn.id,kn.aB,by rw[←kn.aB]; exact hs⟩
def np (id:Int):cf:=⟨4,id,0,0,0,0⟩
def Qf (c:bh) (p:ax):bh:={c with ai:=bW c.ai p.au 0 (-1) 1 0,spoke:=iK c.spoke (eB p)}
def hM (h:al) (p:ax):al:=bU h p.ah (Qf (aE h p.ah) p)
def yj (h:al) (p:ax):al:=if p.aq = -1 then hC (hM h p) p else oK (hC (hM h p) p) p.aq p.au
def tj (h:al) (id:Int):al:=if bx h (np id)=0 then yj h (eO h id) else h
def nq (id:Int):cf:=⟨5,id,0,0,0,0⟩
def ym (h:al) (p:ax):al:={fM h p with todo:=fj (fM h p).todo p.ah}
def tn (h:al) (id:Int):al:=if bx h (nq id)=0 then ym h (eO h id) else h
theorem vU {h:al} {p:ax} (hf:p.aq = -1∨∃f,rD h p f) (q:p.aq≠ -1):0≤p.aq∧p.aq<(h.cabins.length:Int):=by
 obtain⟨f,e,l⟩:=hf.resolve_left q;omega
theorem yn {h:al} {k j:Int} {c:bh} (q:0≤k∧k<(h.cabins.length:Int)):0≤k∧k<((bU h j c).cabins.length:Int):=by rw[qq]; exact q
def ns (id ah aq au aT:Int):cf:=⟨1,id,ah,aq,au,aT⟩
def e_ (h:al) (id ah aq au aT:Int):ax:=⟨id,ah,aq,au,aT,h.now,h.az,1,0,0⟩
def Cu (c:bh) (n:Int):bh:={c with ai:=bW c.ai n 0 0 0 1}
def vR (h:al) (p:ax):al:=if p.aq = -1 then h else bU h p.aq (Cu (aE h p.aq) p.au)
def ID (h:al) (p:ax):al:={h with az:=h.az+1,ae:=gM h.ae p}
def jY (h:al) (p:ax):al:=Cl (ID h p) p
def Cv (h:al) (p:ax):al:={vR (jY h p) p with todo:=fj h.todo p.ah}
def tp (h:al) (id ah aq au aT:Int):al:=if bx h (ns id ah aq au aT)=0 then Cv h (e_ h id ah aq au aT) else h
structure kJ (h:al) (p:ax) (k:Nat) (c:bh):Prop where
 hg:HG h
 hk:h.cabins[k]? = some c
 ah:p.ah=(k:Int)
 ok:bz h.rules p h.now=true
 new:bq h.ae p.id<0
 az:p.az=h.az
 Qg:1≤h.az∧h.az≤1000000
 st:p.st=1
 room:ju h (k:Int)<h.rules.room
 loose:p.aq≠ -1→p.au≤fx (aE h p.aq)
theorem IC {h:al} {id ah aq au aT:Int} (hv:bx h (ns id ah aq au aT)=0):∃k c,kJ h (e_ h id ah aq au aT) k c:=by
 obtain⟨h0,h1,h2⟩:=oI hv;have hg:=iD.1 h0;have jr:=B0 h2 rfl;rw[B7 h0 h2 rfl,x_] at hv
 have no:∀{P:Prop} [Decidable P] {a:Int} {b:Int},a≠0→(if P then a else b)=0→¬P∧b=0:=fun {P} _ {a} {b} ha q=>by
   by_cases e:P
   · rw[if_pos e] at q; exact(ha q).elim
   · rw[if_neg e] at q; exact⟨e,q⟩
 obtain⟨a1,hv⟩:=no (by decide) hv;obtain⟨a2,hv⟩:=no (by decide) hv;obtain⟨a3,hv⟩:=no (by decide) hv;obtain⟨a4,hv⟩:=no (by decide) hv;obtain⟨a5,hv⟩:=no (by decide) hv;obtain⟨a6,hv⟩:=no (by decide) hv;obtain⟨a7,hv⟩:=no (by decide) hv;obtain⟨a8,hv⟩:=no (by decide) hv;obtain⟨a9,hv⟩:=no (by decide) hv;obtain⟨p7,_⟩:=no (by decide) hv;have tt:∀{b:Bool},¬b=false→b=true:=fun {b} h=>by cases b <;> simp_all
 have b1:gN h ah=true:=tt a1;have b1:=bF b1;have b2:aj aq (-1) ((h.cabins.length:Int) - 1)=true:=tt a2;have b2:=bF b2;have b3:aq≠ah:=a3;have b4:aj au 1 h.rules.size=true:=tt a4;have b5:¬aT≥h.rules.cd:=a5;have b6:aj id 1 999=true:=tt a6;have b7:¬bq h.ae id≥0:=a7;have b8:¬ju h ah≥h.rules.room:=a8;have b9:¬(aq≠ -1∧fx (aE h aq)<au):=a9;have Rv:¬h.az>1000000:=p7;have t0:0≤aT:=jr.aT.1;have ht:=bF hg.az;have hn:=bF hg.now;have hr:=fv hg.rules;have q1:=hr.tries;have q2:=hr.rest;have hc:=hg.iX;obtain⟨k,rfl⟩:∃k:Nat,ah=(k:Int):=⟨ah.toNat,by omega⟩;have hk:k<h.cabins.length:=by omega
 refine⟨k,h.cabins[k],hg,List.getElem?_eq_getElem hk,rfl, ?_,(by show bq h.ae id<0; omega),rfl,by omega,rfl,by omega,fun q=> ?_⟩
 · show(ca h.rules && (aj h.now 0 1000000 && (aj id 1 999 && (aj (k:Int) 0 (h.rules.ai.length - 1) && (aj aq (-1) (h.rules.ai.length - 1) && (!(aq == (k:Int)) &&
    (aj au 1 h.rules.size && (aj aT 0 (h.rules.cd - 1) && (aj h.now 0 h.now && (aj h.az 1 1000000 && (aj 0 0 (h.rules.tries - 1) &&
    (((1:Int) == 1 && aj 0 0 (h.now+h.rules.rest)) || ((1:Int) == 2 && aj 0 1 (h.now+h.rules.cC))))))))))))))=true
   rw[hg.rules,hg.now,b6,b4];simp only[Bool.true_and,aj,Bool.and_eq_true,decide_eq_true_eq,Bool.not_eq_true',beq_eq_false_iff_ne,Bool.or_eq_true];refine⟨by omega,by omega,b3,by omega,by omega,by omega,by omega, .inl ⟨rfl,by omega,by omega⟩⟩
 · have q:aq≠ -1:=q;have:¬fx (aE h aq)<au:=fun e=>b9 ⟨q,e⟩;show au≤fx (aE h aq);omega
section
variable {h : al} {p : ax} {k : Nat} {c : bh}
theorem kJ.tg (o:kJ h p k c):0≤p.ah∧p.ah<(h.cabins.length:Int):=by
 have:=bD o.hk;have:=o.ah;omega
theorem kJ.aq (o:kJ h p k c):p.aq = -1∨∃f,rD h p f:=by
 have h1:=(qn o.ok).aq;have h2:=o.hg.iX
 by_cases q:p.aq = -1
 · exact .inl q
 · exact .inr ⟨p.aq.toNat,by omega,by omega⟩
theorem kJ.mi (o:kJ h p k c):aE h p.ah=c:=by rw[o.ah]; exact nk o.hk
theorem kJ.none (o:kJ h p k c) {z:ax} (hz:z∈h.ae):z.id≠p.id∧z.az≠p.az:=by
 refine⟨fun e=> ?_,fun e=> ?_⟩
 · obtain⟨i,hi,e1,_⟩:=Cm (oG o.hg.ae) hz;have:=o.new;rw[←e,e1] at this;omega
 · have:=(o.hg.ae.ok z hz).2;rw[e,o.az] at this;omega
theorem kJ.Co (o:kJ h p k c):qm c.row (dj h.rules p h.now)=bE bd (dj h.rules p h.now) c.row:=by
 have r:=rA o.hg o.hk;have e:=vJ o.ok o.st;have h3:=r.bB;have h4:=o.room;have h5:=(fv o.hg.rules).room;have h6:ju h (k:Int)=((aV (bL (k:Int)) h.ae:Nat):Int):=rfl;refine HU r.pre (by omega) (BV o.ok o.st) (fun y hy=> ?_) (fun y hy=> ?_)
 · obtain⟨z,hz,_,_,e1,_⟩:=r.of y hy;rw[e,e1]; exact(o.none hz).1
 · obtain⟨z,hz,_,_,_,e1⟩:=r.of y hy;rw[e,e1]; exact(o.none hz).2
end
end Go.Proofs.YtpklefhdkkegiaaGreat

