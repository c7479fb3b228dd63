/- Parts of a proof. No conditions. -/

import Derived.Test.YtpklefhdkkegiaaGreatG37
import Derived.Test.YtpklefhdkkegiaaGreatG39
set_option linter.unusedSimpArgs false
set_option linter.unusedVariables false
namespace Go.Proofs.YtpklefhdkkegiaaGreat
open Go
set_option maxRecDepth 100000
theorem Vf (q:bS) (k:q.kind=1):kP q.id q.ag q.al q.aj q.aO=q:=by cases q; simp only at k; subst k; rfl
theorem yS {q:bS} (h:eo q=true) (k:q.kind=2∨q.kind=4∨q.kind=5∨q.kind=7):(⟨q.kind,q.id,0,0,0,0⟩:bS)=q:=by
 rw[eo,if_neg (by omega),if_pos k] at h;simp only[Bool.and_eq_true,beq_iff_eq] at h;obtain⟨_,a,b,c,d⟩:=h;cases q; simp only at a b c d ⊢; subst a b c d; rfl
theorem Vg {q:bS} (h:eo q=true) (k:q.kind=3):kN q.ag q.aj=q:=by
 rw[eo,if_neg (by omega),if_neg (by omega),if_pos k] at h;simp only[Bool.and_eq_true,beq_iff_eq] at h;obtain⟨_,a,b,c⟩:=h;cases q; simp only at a b c k ⊢; subst a b c k; rfl
theorem Vh {q:bS} (h:eo q=true) (k:q.kind=6):ou=q:=by
 rw[eo,if_neg (by omega),if_neg (by omega),if_neg (by omega),if_pos k] at h;simp only[Bool.and_eq_true,beq_iff_eq] at h;obtain⟨e,a,b,c,d⟩:=h;cases q; simp only at a b c d e k ⊢; subst a b c d e k; rfl
theorem Vi {h:ai} {q:bS} (hv:aU h q=0):jw h q=0:=by
 obtain⟨h0,h1,h2⟩:=l4 hv;have hk:=bD h1;unfold jw
 split
 · rename_i k; rw[Vf q k]; exact hv
 split
 · rename_i k; rw[show jJ q.id=q by have:=yS h2 (.inl k); rw[k] at this; exact this]; exact hv
 split
 · rename_i k; rw[Vg h2 k]; exact hv
 split
 · rename_i k; rw[show kd q.id=q by have:=yS h2 (.inr (.inl k)); rw[k] at this; exact this]; exact hv
 split
 · rename_i k; rw[show ke q.id=q by have:=yS h2 (.inr (.inr (.inl k))); rw[k] at this; exact this]; exact hv
 split
 · rename_i k; rw[Vh h2 k]; exact hv
 · have k:q.kind=7:=by omega
   rw[show eW q.id=q by have:=yS h2 (.inr (.inr (.inr k))); rw[k] at this; exact this]; exact hv
theorem MH (h:ai) (q:bS):ur h q=aU h q:=by
 unfold ur; split
 · rename_i hv; rw[Vi hv,hv]
 · rfl
theorem Vj (h:ai) (q:bS):0≤aU h q∧aU h q≤17:=by
 unfold aU yy yz yA vZ
 repeat' split
 all_goals omega
theorem MI {h:ai} {q:bS} (hv:¬aU h q=0):jL h q=h∧wi h q = []:=⟨if_neg hv,if_neg hv⟩
theorem MJ {l:List Int} {x:Int}:hasB l x=true↔x∈l:=by simp[hasB]
theorem Vk (h:ai) (p:ax):(cW h p).ae=fu h.ae p.id:=(ju _ _).2.2.2.1
theorem HG.gn {h:ai} (hg:HG h) {j:Nat} {c:ba} (hj:h.cabins[j]? = some c):(0≤c.seats.free∧c.seats.free≤60)∧(0≤c.seats.held∧c.seats.held≤60)∧(0≤c.seats.bp∧c.seats.bp≤60)∧(0≤c.seats.tied∧c.seats.tied≤60):=by
 have g:=lZ.1 (hg.fV hj).gn;have h1:=g.total;have h2:=g.free;have h3:=g.held;have h4:=g.bp;have h5:=g.tied;omega
section
variable {h : ai} {i k : Nat} {p : ax} {c : ba}
theorem MK (ok:bF h.rules p h.now=true) (h2:p.st=2):eT h.rules p h.now=true↔p.asked≠h.rules.tries - 1:=by
 have:=A9 ok;simp only[eT,ok,h2,Bool.and_eq_true,decide_eq_true_eq,beq_self_eq_true,true_and];omega
end
theorem Vl {h:ai} {id:Int} {i:Nat} {p:ax} (h1:br h.ae id=(i:Int)) (h2:h.ae[i]? = some p):cN h id=p:=by
 rw[cN,h1,Int.toNat_natCast,h2]; rfl
theorem yU {h:ai} (hg:HG h) {z:ax} (hz:z∈h.ae):qI h z.id=true∧cN h z.id=z:=by
 obtain⟨i,hi,h3,h4⟩:=Bh (lX hg.ae) hz;refine⟨?_,Vl h3 (by rw[List.getElem?_eq_getElem hi,h4])⟩;rw[qI,dy.2 hg,h3]; simp
theorem ML {e:Entry} {P:Entry→Bool}:∀{l:List Entry},(∀y∈l,bd y e=P y)→(∀y∈l,y.aZ≠e.aZ)→(l.Pairwise fun a b=>P b=true→P a=true)→cU (bP bd e l) e.aZ=((l.countP P:Nat):Int)
 | [],_,_,_=>by simp[bP,cU,ie]
 | a :: s,h1,h2,h3=>by
   obtain⟨p1,p2⟩:=List.pairwise_cons.1 h3;have ih:=ML (l:=s) (fun y hy=>h1 y (List.mem_cons_of_mem _ hy)) (fun y hy=>h2 y (List.mem_cons_of_mem _ hy)) p2;have ha:=h1 a List.mem_cons_self;have hne:=h2 a List.mem_cons_self;rw[bP,ha];cases hp:P a with
   | true=>
     rw[if_pos rfl,List.countP_cons,hp,if_pos rfl];have hf:(a.aZ == e.aZ)=false:=by simpa using hne
     rw[cU,ie,List.findIdx?_cons,hf];rw[cU,ie] at ih;cases hq:List.findIdx? (fun x:Entry=>x.aZ == e.aZ) (bP bd e s) with
     | none=>rw[hq] at ih; simp only at ih; omega
     | some m=>rw[hq] at ih; simp only[Bool.false_eq_true,if_false,Option.map_some] at ih ⊢; omega
   | false=>
     have hz:(a::s).countP P=0:=by
      rw[List.countP_eq_zero];intro y hy;rcases List.mem_cons.1 hy with rfl | hy
      · rw[hp]; simp
      · intro q; have:=p1 y hy q; rw[hp] at this; cases this
     rw[if_neg (by simp),hz,cU,ie,List.findIdx?_cons];simp
theorem Vm {R:bn} {t:Int} (h:0≤t):lvl R t 0=t:=by
 rw[lvl,Int.zero_tdiv,if_neg (by omega)]; omega
section
variable {h : ai} {p : ax} {k : Nat} {c : ba}
theorem jK.place (o:jK h p k c) (hs:p.since=h.now):placeOf (il h p) p.id=((c.row.countP fun e=>decide (e.lvl≤p.aO):Nat):Int):=by
 have uP:=o.Mv hs;have pt:=o.aE hs;have iv:=Mu h p;have hp:p∈(il h p).ae:=by rw[iv.2.2.2.1]; exact(pt.2.1 p).2 (.inl rfl)
 obtain⟨k1,k2⟩:=yU uP hp
 have Vn:(aB (il h p) p.ag).row=bP bd (cD h.rules p h.now) c.row:=by
   have hk:=bC o.hk
   have e1:(fD h p).cabins=h.cabins.set k (kb c (cD h.rules p h.now)):=by
    show h.cabins.set p.ag.toNat (kb (aB (oq h p) p.ag) (cD h.rules p h.now))=_;rw[o.ag,Int.toNat_natCast];rw[show aB (oq h p) (k:Int)=c from jt o.hk]
   have e2:(il h p).cabins=(my (fD h p) p).cabins:=rfl
   have e3:(my (fD h p) p).cabins[k]? = some (kb c (cD h.rules p h.now)):=by
    unfold my; split
    · rw[e1,List.getElem?_set,if_pos rfl,if_pos hk]
    · have hne:p.al≠p.ag:=(iH o.ok).ne;have fr:=(iH o.ok).al;rename_i hf;show((fD h p).cabins.set p.al.toNat _)[k]? = _;rw[List.getElem?_set,if_neg (by have:=o.ag; omega),e1,List.getElem?_set,if_pos rfl,if_pos hk]
   rw[o.ag,jt (h:=il h p) (by rw[e2]; exact e3)];rfl
 rw[placeOf,if_pos k1,k2,Vn];have ee:cD h.rules p h.now=gM h.rules p h.now:=ud o.ok o.st
 have Vo:(gM h.rules p h.now).lvl=p.aO:=by
   have pg:=m_ o.ok;have ht:=bD pg.aO;show lP h.rules p h.now=p.aO;rw[lP,if_pos o.ok,hs,Int.sub_self,Vm ht.1]
 have g:=o.hg.fV o.hk
 have mem:∀y∈c.row,∃z∈h.ae,y=gM h.rules z h.now:=fun y hy=>by
   rw[g.row] at hy;obtain⟨z,hz,_,_,e⟩:=(pM o.hg.ae).1 hy;exact⟨z,hz,e⟩
 rw[ee];refine ML (e:=gM h.rules p h.now) (fun y hy=> ?_) (fun y hy=> ?_) ?_
 · obtain⟨z,hz,rfl⟩:=mem y hy;have h1:=(o.hg.ae.ok z hz).2;have h2:(gM h.rules p h.now).aA=h.aA:=o.aA;have h3:(gM h.rules z h.now).aA<h.aA:=h1;rw[bd,Vo,h2,Bool.eq_iff_iff];simp only[Bool.or_eq_true,Bool.and_eq_true,decide_eq_true_eq,beq_iff_eq];omega
 · obtain⟨z,hz,rfl⟩:=mem y hy;exact(o.none hz).1
 · rw[g.row];refine(pL o.hg.ae _).imp fun {a b} q r=> ?_;simp only[bd,Bool.or_eq_true,Bool.and_eq_true,decide_eq_true_eq,beq_iff_eq] at q;have r:b.lvl≤p.aO:=by simpa using r
   simp only[decide_eq_true_eq];omega
end
def fE (t js:List Int) (E:ai):ai:={E with todo:=t,aq:=js}
section
variable (t js : List Int)
theorem Vp (E:ai) (p:ax):cW (fE t js E) p=fE t js (cW E p):=by
 unfold cW ka; split <;> rfl
theorem Vq (E:ai) (p:ax):dz (fE t js E) p=fE t js (dz E p):=by
 unfold dz
 split
 · rename_i q; rw[if_pos (show eT E.rules p E.now=true from q)]; rfl
 · rename_i q; rw[if_neg (show¬eT E.rules p E.now=true from q)];exact Vp t js (c_ E p) p
theorem MM:∀(ds:List Int) (E:ai),cw ds (fE t js E)=fE t js (cw ds E)
 | [],_=>rfl
 | d ::ds,E=>by
   show cw ds (dz (fE t js E) (cN E d))=_;rw[Vq,MM ds]; rfl
theorem FY {E:ai} (h1:HG E) (h2:HG (fE t js E)) (k:Int):cH (fE t js E) k=cH E k:=by
 have:cu (fE t js E) k=cu E k:=by rw[cu,cu,dy.2 h1,dy.2 h2]; rfl
 rw[cH,cH,this]; rfl
theorem Vr {E:ai} (h1:HG E) (h2:HG (fE t js E)) (k:Int):dU (fE t js E) k=fE t js (dU E k):=by
 rw[dU,dU,FY t js h1 h2]
 split
 · rfl
 · rfl
theorem MN (k:Int):∀(n:Nat) {E:ai} {ids:List Int},HG E→HG (fE t js E)→eF n k (fE t js E) ids=(fE t js (eF n k E ids).1,(eF n k E ids).2)
 | 0,_,_,_,_=>rfl
 | n + 1,E,ids,h1,h2=>by
   rw[eF,eF,FY t js h1 h2]
   split
   · rfl
   · rename_i hv;have g1:=(nr hv).2.1;have g2:=(nr (E:=fE t js E) (k:=k) (by rw[FY t js h1 h2]; exact hv)).2.1;rw[Vr t js h1 h2] at g2 ⊢;exact MN k n g1 g2
theorem MO {E:ai} (h1:HG E) (h2:HG (fE t js E)) (k:Int):bj (fE t js E) k=bj E k:=by
 have:cu (fE t js E) k=cu E k:=by rw[cu,cu,dy.2 h1,dy.2 h2]; rfl
 rw[bj,bj,this]; rfl
theorem Vs {E:ai} (h1:HG E) (h2:HG (fE t js E)) (k:Int):cK (fE t js E) k=fE t js (cK E k):=by
 rw[cK,MO t js h1 h2,MM]; rfl
theorem Vt {E:ai} (h1:HG E) (h2:HG (fE t js E)) (k:Int):bH (fE t js E) k=(fE t js (bH E k).1,(bH E k).2):=by
 have e:=Vs t js h1 h2 k;have g2:=h2.expire k;rw[e] at g2;rw[bH,l3,e,show dV (fE t js (cK E k)) k=dV (cK E k) k from rfl,MN t js k _ (h1.expire k) g2]; rfl
end
theorem Vu {h:ai} {w:Nat} {t:Int} {ts:List Int} (hv:aU h (eW (w:Int))=0) (hw:w<h.aq.length) (hj:h.aq[w] = -1) (ht:h.todo=t::ts) :
   eG h (w:Int) = {h with aq:=h.aq.set w t,todo:=ts} ∧iK h (w:Int) = []∧hasB ts t=false∧aU (eG h (w:Int)) (eW (w:Int))=0∧
    iK (eG h (w:Int)) (w:Int)=(bH h t).2∧(eG (eG h (w:Int)) (w:Int)).aq[w]? = some (-1):=by
 obtain⟨hg,w',e,_,ej,_,_⟩:=sZ hv;have ew:w'=w:=by omega
 subst ew;have ej:gv h (w':Int)=h.aq[w']:=ej
 have e1:eG h (w':Int) = {h with aq:=h.aq.set w' t,todo:=ts}:=by
   rw[eG,if_pos hv,ns,if_pos (ej.trans hj),yO,ht,Int.toNat_natCast]; rfl
 have e2:iK h (w':Int) = []:=by rw[iK,if_pos hv,if_pos (ej.trans hj)]
 have g1:HG (eG h (w':Int)):=FP hg
 have WT:0≤t:=by
   have:=hg.aq.todo t (by rw[ht]; exact List.mem_cons_self);exact(bD this).1
 have hn:hasB ts t=false:=by
   have:=hg.aq.once;rw[ht] at this;obtain⟨q,_⟩:=List.pairwise_cons.1 this;cases hb:hasB ts t with
   | false=>rfl
   | true=>exact(q t (MJ.1 hb) rfl).elim
 have BE:gv (eG h (w':Int)) (w':Int)=t:=by
   rw[e1,gv,Int.toNat_natCast];show((h.aq.set w' t)[w']?).getD 0=t;rw[List.getElem?_set,if_pos rfl,if_pos hw]; rfl
 have ml:aU (eG h (w':Int)) (eW (w':Int))=0:=by
   obtain⟨h0,h1,h2⟩:=l4 hv;rw[yD h0 h2 rfl,vZ] at hv;rw[yD (dy.2 g1) h2 rfl,vZ];have er:(eG h (w':Int)).rules=h.rules:=by rw[e1]
   rw[er];have h3:¬(eW (w':Int)).id≥h.rules.bm:=fun q=>by rw[if_pos q] at hv; cases hv
   rw[if_neg h3,if_neg]
   rintro⟨q,_⟩
   have q:gv (eG h (w':Int)) (w':Int) = -1:=q;rw[BE] at q;omega
 have es:bH (eG h (w':Int)) t=(fE ts (h.aq.set w' t) (bH h t).1,(bH h t).2):=by
   have:eG h (w':Int)=fE ts (h.aq.set w' t) h:=e1;rw[this] at g1 ⊢;exact Vt ts _ hg g1 t
 refine⟨e1,e2,hn,ml, ?_, ?_⟩
 · rw[iK,if_pos ml,BE,if_neg (by omega),es]
 · rw[eG,if_pos ml,ns,BE,if_neg (by omega),uq,BE,es,Int.toNat_natCast];show((h.aq.set w' t).set w' (-1))[w']? = _;rw[List.getElem?_set,if_pos rfl,if_pos (by rw[List.length_set]; exact hw)]
theorem Vv {h:ai} {w:Nat} (hv:aU h (eW (w:Int))=0) (hw:w<h.aq.length) (hj:¬h.aq[w]<0) :
   iK h (w:Int)=(bH h h.aq[w]).2∧(eG h (w:Int)).aq[w]? = some (-1)∧(eG h (w:Int)).todo=h.todo:=by
 obtain⟨hg,w',e,_,ej,_,_⟩:=sZ hv;have ew:w'=w:=by omega
 subst ew;have ej:gv h (w':Int)=h.aq[w']:=ej;have k:=FH hg h.aq[w'];refine⟨by rw[iK,if_pos hv,if_neg (by rw[ej]; omega),ej], ?_, ?_⟩
 · rw[eG,if_pos hv,ns,if_neg (by rw[ej]; omega),uq,ej,Int.toNat_natCast];show((bH h h.aq[w']).1.aq.set w' (-1))[w']? = _;rw[List.getElem?_set,if_pos rfl,if_pos (by rw[k.1]; exact hw)]
 · rw[eG,if_pos hv,ns,if_neg (by rw[ej]; omega),uq,ej];exact k.2.1
section
variable {h : ai} {i k : Nat} {p : ax} {c : ba}
theorem b_.Vw (o:b_ h i k p c) (h2:p.st=2) {z:ax}:z∈(dz h p).ae↔(z∈h.ae∧z.id≠p.id)∨(p.asked≠h.rules.tries - 1∧z=dS h.rules p h.now):=by
 have hi:=o.lt;unfold dz
 split
 · rename_i hf;have hl:=(MK o.ok h2).1 hf;rw[yH o];show z∈h.ae.set i (dS h.rules p h.now)↔_;rw[yF (lX o.hg.ae) hi.1,hi.2]
   constructor
   · rintro(a | a)
     · exact .inr ⟨hl,a⟩
     · exact .inl a
   · rintro(a | a)
     · exact .inr a
     · exact .inl a.2
 · rename_i hf;have hl:p.asked=h.rules.tries - 1:=Decidable.not_not.1 fun q=>hf ((MK o.ok h2).2 q);rw[Vk];show z∈fu h.ae p.id↔_;rw[AZ o.at_,yE (lX o.hg.ae) hi.1,hi.2]
   constructor
   · exact .inl
   · rintro(a | a)
     · exact a
     · exact(a.1 hl).elim
theorem b_.Vx (o:b_ h i k p c) (h2:p.st=2) {j:Nat} {c0:ba} (hj:h.cabins[j]? = some c0) :
   ∃ c1,(dz h p).cabins[j]? = some c1∧(j=k→c1.seats.free=c0.seats.free+p.aj)∧(j≠k→c1.row=c0.row∧c1.seats.free=c0.seats.free∧c1.seats.held=c0.seats.held):=by
 have dr:=(o.drop h2).1;have hk:=bC o.hk;have gJ:=bC hj;have sz:=o.aj;unfold dz
 split
 · rw[yH o];show∃c1,(h.cabins.set k (kb (fC c p) (cD h.rules (dS h.rules p h.now) h.now)))[j]? = some c1∧_;rw[List.getElem?_set]
   by_cases e:k=j
   · subst e;rw[if_pos rfl,if_pos hk];have:c0=c:=Option.some.inj (hj.symm.trans o.hk);subst this;refine⟨_,rfl,fun _=> ?_,fun q=>(q rfl).elim⟩;show(fC c0 p).seats.free=_;rw[dr]
   · rw[if_neg e];exact⟨c0,hj,fun q=>(e q.symm).elim,fun _=>⟨rfl,rfl,rfl⟩⟩
 · have hlen:(cW (c_ h p) p).cabins.length=h.cabins.length:=(wc _ _).trans (iZ _ _ _);obtain⟨c1,dY⟩:∃c1,(cW (c_ h p) p).cabins[j]? = some c1:=⟨_,List.getElem?_eq_getElem (by rw[hlen]; exact gJ)⟩;refine⟨c1,dY, ?_⟩;have e:c_ h p=bN h (k:Int) (fC c p):=by rw[c_,o.iJ,o.ag]
   rw[e] at dY;obtain⟨FZ,dZ,h5⟩:=FO o dY;have:FZ=c0:=Option.some.inj (dZ.symm.trans hj);subst this;rcases h5 with⟨q,q2,q3⟩ | ⟨q,q2,q3⟩ | ⟨q,_,q3⟩
   · refine⟨fun _=> ?_,fun q'=>(q' q).elim⟩;rw[q3,dr,q2]
   · refine⟨fun q'=>(q q').elim,fun _=> ?_⟩;have gj:=o.hg.fV hj;have s3:=pO (cC (j:Int)) o.lt.1;rw[o.lt.2,yG q2 sz] at s3;have t1:=gj.tied;have t2:=(Bi gj.gn (n:=p.aj) (by omega) (by omega)).1;rw[q3];refine⟨rfl, ?_, ?_⟩
     · show(bz FZ.seats p.aj 0 0 0 (-1)).free=_;rw[t2]
     · show(bz FZ.seats p.aj 0 0 0 (-1)).held=_;rw[t2]
   · exact⟨fun q'=>(q q').elim,fun _=>by rw[q3]; exact⟨rfl,rfl,rfl⟩⟩
theorem b_.Vy (o:b_ h i k p c) {z:ax}:z∈(kL h (k:Int) p).ae↔z=fU h p∨(z∈h.ae∧z.id≠p.id):=by
 have hi:=o.lt;rw[yJ o];show z∈h.ae.set i (fU h p)↔_;rw[yF (lX o.hg.ae) hi.1,hi.2]
theorem b_.Vz (o:b_ h i k p c) {j:Nat} (hj:j≠k):(kL h (k:Int) p).cabins[j]? = h.cabins[j]? :=by
 rw[yJ o];show(h.cabins.set k _)[j]? = _;rw[List.getElem?_set,if_neg (Ne.symm hj)]
end
theorem yV {h:ai} (hg:HG h) {n:Nat} {c:ba} (hk:h.cabins[n]? = some c) {d:Int}:d∈bj h (n:Int)↔∃z∈h.ae,z.id=d∧z.ag=(n:Int)∧z.st=2∧z.dH≤h.now:=by
 have g:=hg.fV hk;rw[yK hg hk,sO,dF,List.mem_map]
 constructor
 · rintro⟨q,hq,rfl⟩
   obtain⟨hq,ht⟩:=List.mem_filter.1 hq;rw[g.pins] at hq;obtain⟨z,hz,h1,h2,rfl⟩:=mr.1 hq;exact⟨z,hz,rfl,h1,h2,of_decide_eq_true ht⟩
 · rintro⟨z,hz,rfl,h1,h2,h3⟩
   refine⟨dG z,List.mem_filter.2 ⟨?_,decide_eq_true h3⟩,rfl⟩;rw[g.pins];exact mr.2 ⟨z,hz,h1,h2,rfl⟩
def pS (E:ai):List Int→Int
 | []=>0
 | d::ds=>(cN E d).aj+pS E ds
theorem MP {E F:ai}:∀{ds:List Int},(∀d∈ds,cN E d=cN F d)→pS E ds=pS F ds
 | [],_=>rfl
 | d::ds,h=>by rw[pS,pS,h d List.mem_cons_self,MP fun x hx=>h x (List.mem_cons_of_mem _ hx)]
structure MQ (k:Nat) (ds:List Int) (E F:ai):Prop where
 back:∀z∈F.ae,(z∈E.ae∧z.id∉ds)∨(z.st=1∧z.id∈ds)
 iv:∀z∈E.ae,z.id∉ds→z∈F.ae
 last:∀y∈E.ae,y.id∈ds→y.asked=E.rules.tries - 1→∀z∈F.ae,z.id≠y.id
 more:∀y∈E.ae,y.id∈ds→y.asked≠E.rules.tries - 1→∃z∈F.ae,z.id=y.id
 ag:∀(j:Nat) c0,E.cabins[j]? = some c0→∃c1,F.cabins[j]? = some c1∧(j=k→c1.seats.free=c0.seats.free+pS E ds)∧(j≠k→c1.row=c0.row∧c1.seats.free=c0.seats.free∧c1.seats.held=c0.seats.held)
theorem MR {h:ai} {k:Nat} (hk:k<h.cabins.length):∀(ds:List Int) (E:ai),kM h k ds E→MQ k ds E (cw ds E)
 | [],E,_=>⟨fun z hz=> .inl ⟨hz,by simp⟩,fun z hz _=>hz,fun _ _ q=>by simp at q,fun _ _ q=>by simp at q,fun j c0 hj=>⟨c0,hj,fun _=>by simp[pS],fun _=>⟨rfl,rfl,rfl⟩⟩⟩
 | d :: ds, E,I=>by
   obtain⟨i,c,o,h2,fI,sY⟩:=I.at_ hk;have I':=I.step hk;have P:=MR hk ds _ I';obtain⟨nd,_⟩:=List.pairwise_cons.1 I.nd;have er:(dz E (cN E d)).rules=E.rules:=o.iv.1;have cA:=fun z=>o.Vw h2 (z:=z);have stay:∀z∈E.ae,z.id≠d→z∈(dz E (cN E d)).ae:=fun z hz hne=>(cA z).2 (.inl ⟨hz,by rw[fI]; exact hne⟩);have F0:d∉ds:=fun q=>nd d q rfl;refine⟨fun z hz=> ?_,fun z hz hn=> ?_,fun y hy F1 hl=> ?_,fun y hy F1 hl=> ?_,fun j c0 hj=> ?_⟩
   · rcases P.back z hz with⟨a,b⟩ | ⟨a,b⟩
     · rcases(cA z).1 a with⟨a1,a2⟩ | ⟨a1,a2⟩
       · exact .inl ⟨a1,fun q=>by
          rcases List.mem_cons.1 q with q | q
          · exact a2 (q.trans fI.symm)
          · exact b q⟩
       · refine .inr ⟨by rw[a2]; rfl, ?_⟩;rw[a2,show(dS E.rules (cN E d) E.now).id=d from fI];exact List.mem_cons_self
     · exact .inr ⟨a,List.mem_cons_of_mem _ b⟩
   · exact P.iv z (stay z hz fun e=>hn (by rw[e]; exact List.mem_cons_self)) fun q=>hn (List.mem_cons_of_mem _ q)
   · by_cases e:y.id=d
     · intro z hz ez
       have hyp:y=cN E d:=by
         by_cases q:y=cN E d
         · exact q
         · exact((vY o.hg.ae hy o.mem q).1 (e.trans fI.symm)).elim
       rcases P.back z hz with⟨a,_⟩ | ⟨_,b⟩
       · rcases(cA z).1 a with⟨_,a2⟩ | ⟨a1,_⟩
         · exact a2 (by rw[fI,ez,e])
         · exact a1 (by rw[←hyp]; exact hl)
       · exact F0 (by rw[←e,←ez]; exact b)
     · have yW:y.id∈ds:=(List.mem_cons.1 F1).resolve_left e;exact P.last y (stay y hy e) yW (by rw[er]; exact hl)
   · by_cases e:y.id=d
     · have hyp:y=cN E d:=by
         by_cases q:y=cN E d
         · exact q
         · exact((vY o.hg.ae hy o.mem q).1 (e.trans fI.symm)).elim
       have dW:dS E.rules (cN E d) E.now∈(dz E (cN E d)).ae:=(cA _).2 (.inr ⟨by rw[←hyp]; exact hl,rfl⟩);refine⟨_,P.iv _ dW (by rw[show(dS E.rules (cN E d) E.now).id=d from fI]; exact F0), ?_⟩;exact(show(dS E.rules (cN E d) E.now).id=d from fI).trans e.symm
     · have yW:y.id∈ds:=(List.mem_cons.1 F1).resolve_left e;exact P.more y (stay y hy e) yW (by rw[er]; exact hl)
   · obtain⟨c1,g1,g2,g3⟩:=o.Vx h2 hj;obtain⟨c2,g4,g5,g6⟩:=P.ag j c1 g1
     have es:pS (dz E (cN E d)) ds=pS E ds:=MP fun x hx=>by
       obtain⟨q,hq,e1,_,_⟩:=I.rem x (List.mem_cons_of_mem _ hx);have hne:q.id≠d:=by rw[e1]; exact fun e=>F0 (e▸hx)
       have a1:=(yU I'.hg (stay q hq hne)).2;have a2:=(yU I.hg hq).2;rw[e1] at a1 a2;rw[a1,a2]
     refine⟨c2,g4,fun q=> ?_,fun q=> ?_⟩
     · rw[g5 q,g2 q,es,pS]; omega
     · obtain⟨a1,a2,a3⟩:=g6 q;obtain⟨b1,b2,b3⟩:=g3 q;exact⟨a1.trans b1,a2.trans b2,a3.trans b3⟩
theorem F2 {h:ai} {n:Nat} (hg:HG h) (hn:n<h.cabins.length):MQ n (bj h (n:Int)) h (cK h (n:Int)):=by
 have hk:=List.getElem?_eq_getElem hn;have I:=kM.start hg hk;rw[←yK hg hk] at I;exact MR hn _ _ I
theorem VA {h:ai} {n:Nat} (hg:HG h) (hn:n<h.cabins.length):bj (cK h (n:Int)) (n:Int) = []:=by
 have P:=F2 hg hn;have I:=pP hg hn;have kE:n<(cK h (n:Int)).cabins.length:=by rw[I.len]; exact hn
 refine List.eq_nil_iff_forall_not_mem.2 fun d hd=> ?_;obtain⟨z,hz,e1,e2,e3,e4⟩:=(yV I.hg (List.getElem?_eq_getElem kE)).1 hd;rcases P.back z hz with⟨a,b⟩ | ⟨a,_⟩
 · rw[I.now] at e4;exact b ((yV hg (List.getElem?_eq_getElem hn)).2 ⟨z,a,rfl,e2,e3,e4⟩)
 · omega
theorem VB {h:ai} {n:Nat} {c:ba} (hg:HG h) (hk:h.cabins[n]? = some c) (h0:cH h (n:Int)=0) {z:ax} (hz:z∈h.ae) (h1:z.ag=(n:Int)) (h2:z.st=1) (h3:fS z h.now=false):c.seats.free<z.aj:=by
 rw[Bj hg hk] at h0;rcases Int.lt_or_le c.seats.free z.aj with aQ | hle
 · exact aQ
 exfalso;have g:=hg.fV hk;have hm:gM h.rules z h.now∈c.row:=by rw[g.row]; exact(pM hg.ae).2 ⟨z,hz,h1,h2,rfl⟩
 have tC:kG c.seats.free (gf h) (gM h.rules z h.now)=true:=by
   have hs:hasB (gf h) z.id=false:=by
    cases hb:hasB (gf h) z.id with
    | false=>rfl
    | true=>
      obtain⟨y,hy,e⟩:=List.mem_map.1 (MJ.1 hb);obtain⟨hy,hr⟩:=List.mem_filter.1 hy
      by_cases q:y=z
      · rw[q,h3] at hr; cases hr
      · exact((vY hg.ae hy hz q).1 e).elim
   simp only[kG,Bool.and_eq_true,decide_eq_true_eq];exact⟨hle,by show(!hasB (gf h) z.id)=true; rw[hs]; rfl⟩
 rw[mo] at h0;rcases iC (kG c.seats.free (gf h)) c.row with⟨e,hn⟩ | ⟨j,hj,e,e1,_⟩
 · have:=hn _ hm;rw[tC] at this; cases this
 · have e:ig c.row c.seats.free (gf h)=(j:Int):=e;rw[e,if_neg (by omega),Int.toNat_natCast,List.getElem?_eq_getElem hj] at h0;have hy:c.row[j]∈c.row:=List.getElem_mem hj;have h0:c.row[j].aZ=0:=h0;generalize c.row[j]=x at h0 hy;rw[g.row] at hy;obtain⟨y,yW,_,_,ey⟩:=(pM hg.ae).1 hy;rw[ey] at h0;have h0:y.id=0:=h0;have:=(iH (hg.ae.ok y yW).1).id;omega
structure F3 (n:Nat) (E F:ai) (ids:List Int):Prop where
 hg:HG F
 rules:F.rules=E.rules
 now:F.now=E.now
 back:∀z∈F.ae,(z∈E.ae∧z.id∉ids)∨(z.ag=(n:Int)∧z.st=2∧z.dH=E.now+E.rules.bE∧z.id∈ids)
 iv:∀z∈E.ae,z.id∉ids→z∈F.ae
 made:∀d∈ids,∃z∈F.ae,z.id=d∧z.st=2∧z.dH=E.now+E.rules.bE
 wait:∀d∈ids,∃z∈E.ae,z.id=d∧z.st=1
 once:ids.Nodup
 ag:∀(j:Nat),j≠n→F.cabins[j]? = E.cabins[j]?
 len:F.cabins.length=E.cabins.length
theorem MS {n :Nat}:∀(m:Nat) {E:ai},HG E→n<E.cabins.length→∃ids,(∀js,eF m (n:Int) E js=((eF m (n:Int) E []).1,js++ids))∧F3 n E (eF m (n:Int) E []).1 ids∧(dV E (n:Int)<m→cH (eF m (n:Int) E []).1 (n:Int)=0)
 | 0,E,hg,hn=>⟨[],fun js=>by simp[eF],⟨hg,rfl,rfl,fun z hz=> .inl ⟨hz,by simp⟩,fun z hz _=>hz,fun d hd=>by simp at hd,fun d hd=>by simp at hd,List.nodup_nil,fun _ _=>rfl,rfl⟩,fun q=>by omega⟩
 | m + 1, E, hg,hn=>by
   by_cases hv:cH E (n:Int)=0
   · have e:∀js,eF (m+1) (n:Int) E js=(E,js):=fun js=>by rw[eF,if_pos hv]
     exact⟨[],fun js=>by rw[e,e]; simp,by rw[e]; exact⟨hg,rfl,rfl,fun z hz=> .inl ⟨hz,by simp⟩,fun z hz _=>hz,fun d hd=>by simp at hd,fun d hd=>by simp at hd,List.nodup_nil,fun _ _=>rfl,rfl⟩,fun _=>by rw[e]; exact hv⟩
   · obtain ⟨_,g2,r1,r2,r3,_,_,r4,_⟩:=nr hv;obtain⟨n2,c2,i,p,en,o,st,fr,aZ,ep⟩:=Bk hv;have en:n2=n:=by omega
     subst en;obtain⟨ids,e1,S,e2⟩:=MS (n:=n2) m g2 (by rw[r3]; exact hn);have eH:dU E (n2:Int)=kL E (n2:Int) p:=by rw[dU,if_neg hv,ep]
     have e:∀js,eF (m+1) (n2:Int) E js=((eF m (n2:Int) (dU E (n2:Int)) []).1,js++(cH E (n2:Int)::ids)):=fun js=>by
       rw[eF,if_neg hv,e1]; simp
     have cA:=fun z=>o.Vy (z:=z);rw[←eH] at cA
     have fI:p.id∉ids:=fun q=>by
       obtain⟨z,hz,ez,es⟩:=S.wait _ q;rcases(cA z).1 hz with rfl | ⟨_,a⟩
       · have:(fU E p).st=2:=rfl;omega
       · exact a ez
     refine⟨cH E (n2:Int)::ids,fun js=>by rw[e,e []], ?_,fun q=>by rw[e]; exact e2 (by omega)⟩;rw[e];show F3 n2 E (eF m (n2:Int) (dU E (n2:Int)) []).1 _;rw[←aZ]
     have dW:fU E p∈(eF m (n2:Int) (dU E (n2:Int)) []).1.ae:=by
       exact S.iv _ ((cA _).2 (.inl rfl)) fI
     refine⟨S.hg,S.rules.trans r1,S.now.trans r2,fun z hz=> ?_,fun z hz hn=> ?_,fun d hd=> ?_,fun d hd=> ?_,List.nodup_cons.2 ⟨fI,S.once⟩,fun j hj=> ?_,S.len.trans r3⟩
     · rcases S.back z hz with⟨a,b⟩ | ⟨a1,a2,a3,a4⟩
       · rcases(cA z).1 a with rfl | ⟨a1,a2⟩
         · exact .inr ⟨o.ag,rfl,rfl,List.mem_cons_self⟩
         · exact .inl ⟨a1,fun q=>by
            rcases List.mem_cons.1 q with q | q
            · exact a2 q
            · exact b q⟩
       · rw[r1,r2] at a3;exact .inr ⟨a1,a2,a3,List.mem_cons_of_mem _ a4⟩
     · exact S.iv z ((cA z).2 (.inr ⟨hz,fun e=>hn (by rw[e]; exact List.mem_cons_self)⟩)) fun q=>hn (List.mem_cons_of_mem _ q)
     · rcases List.mem_cons.1 hd with rfl | hd
       · exact⟨_,dW,rfl,rfl,rfl⟩
       · obtain⟨z,hz,q1,q2,q3⟩:=S.made d hd;rw[r1,r2] at q3;exact⟨z,hz,q1,q2,q3⟩
     · rcases List.mem_cons.1 hd with rfl | hd
       · exact⟨p,o.mem,rfl,st⟩
       · obtain⟨z,hz,q1,q2⟩:=S.wait d hd;rcases(cA z).1 hz with rfl | ⟨a,_⟩
         · have:(fU E p).st=2:=rfl;omega
         · exact⟨z,a,q1,q2⟩
     · rw[S.ag j hj,eH,o.Vz hj]
theorem qR {h:ai} {n:Nat} (hg:HG h) (hn:n<h.cabins.length):F3 n (cK h (n:Int)) (bH h (n:Int)).1 (bH h (n:Int)).2∧cH (bH h (n:Int)).1 (n:Int)=0:=by
 have I:=pP hg hn;obtain⟨ids,e1,S,e2⟩:=MS (n:=n) (dV (cK h (n:Int)) (n:Int)+1) I.hg (by rw[I.len]; exact hn)
 have e:bH h (n:Int)=((eF (dV (cK h (n:Int)) (n:Int)+1) (n:Int) (cK h (n:Int)) []).1,ids):=by
  show eF _ _ _ _=_;rw[e1]; rfl
 rw[e];exact⟨S,e2 (by omega)⟩
theorem yX {h:ai} {n:Nat} (hg:HG h) (hn:n<h.cabins.length):(bH h (n:Int)).1.cabins.length=h.cabins.length∧(bH h (n:Int)).1.now=h.now∧(bH h (n:Int)).1.rules=h.rules:=by
 have I:=pP hg hn;have S:=(qR hg hn).1;exact⟨S.len.trans I.len,S.now.trans I.now,S.rules.trans I.rules⟩
theorem MT {h:ai} (hg:HG h):1≤h.rules.bE:=by
 have:=(eB hg.rules).bE; omega
theorem BF {h:ai} {n:Nat} (hg:HG h) (hn:n<h.cabins.length):bj (bH h (n:Int)).1 (n:Int) = []:=by
 have I:=pP hg hn;have S:=(qR hg hn).1;have K:=yX hg hn;have kE:n<(bH h (n:Int)).1.cabins.length:=by rw[K.1]; exact hn
 have Bw:n<(cK h (n:Int)).cabins.length:=by rw[I.len]; exact hn
 have hw:=MT hg;refine List.eq_nil_iff_forall_not_mem.2 fun d hd=> ?_;obtain⟨z,hz,e1,e2,e3,e4⟩:=(yV S.hg (List.getElem?_eq_getElem kE)).1 hd;rw[K.2.1] at e4;rcases S.back z hz with⟨a,_⟩ | ⟨_,_,a,_⟩
 · have:=(yV I.hg (List.getElem?_eq_getElem Bw)).2 ⟨z,a,e1,e2,e3,by rw[I.now]; exact e4⟩;rw[VA hg hn] at this;cases this
 · rw[I.now,I.rules] at a; omega
theorem F4 {h:ai} {k:Int} (hv:cu h k=false):bH h k=(h,[]):=by
 have he:cK h k=h:=by rw[cK,we hv]; rfl
 rw[bH,he,ui (by rw[cH,hv]; rfl)]
theorem VC {h:ai} {n:Nat} (hg:HG h) (hn:n<h.cabins.length):bH (bH h (n:Int)).1 (n:Int)=((bH h (n:Int)).1,[]):=by
 have he:cK (bH h (n:Int)).1 (n:Int)=(bH h (n:Int)).1:=by rw[cK,BF hg hn]; rfl
 rw[bH,he,ui (qR hg hn).2]
theorem VD {h:ai} {n:Nat} (hg:HG h) (hn:n<h.cabins.length) {z:ax} (hz:z∈(bH h (n:Int)).1.ae) (h1:z.ag=(n:Int)) (h2:z.st=1) (h3:fS z (bH h (n:Int)).1.now=false) :
  (aB (bH h (n:Int)).1 (n:Int)).seats.free<z.aj:=by
 have S:=qR hg hn;have kE:n<(bH h (n:Int)).1.cabins.length:=by rw[(yX hg hn).1]; exact hn
 have hk:=List.getElem?_eq_getElem kE;rw[jt hk];exact VB S.1.hg hk S.2 hz h1 h2 h3
theorem VE {h:ai} {n:Nat} (hg:HG h) (hn:n<h.cabins.length) {d:Int} (hd:d∈(bH h (n:Int)).2):jq (bH h (n:Int)).1 d=true∧(sC (bH h (n:Int)).1 d).tm=h.now+h.rules.bE:=by
 have I:=pP hg hn;have S:=(qR hg hn).1;obtain⟨z,hz,e1,e2,e3⟩:=S.made d hd;obtain⟨k1,k2⟩:=yU S.hg hz;rw[e1] at k1 k2;have ho:jq (bH h (n:Int)).1 d=true:=by rw[jq,k1,k2,e2]; rfl
 refine⟨ho, ?_⟩;rw[sC,if_pos ho,k2];show z.dH=_;rw[e3,I.now,I.rules]
theorem VF {h:ai} {n:Nat} (hg:HG h) (hn:n<h.cabins.length):(bH h (n:Int)).2.Nodup:=(qR hg hn).1.once
theorem VG {h:ai} {n j:Nat} (hg:HG h) (hn:n<h.cabins.length) (hj:j≠n) {c0:ba} (hc:h.cabins[j]? = some c0) :
  ∃ c1,(bH h (n:Int)).1.cabins[j]? = some c1∧c1.row=c0.row∧c1.seats.free=c0.seats.free∧c1.seats.held=c0.seats.held:=by
 have S:=(qR hg hn).1;obtain⟨c1,g1,_,g2⟩:=(F2 hg hn).ag j c0 hc;exact⟨c1,by rw[S.ag j hj]; exact g1,g2 hj⟩
theorem VH {h:ai} (hg:HG h) {d:Int}:d∈EO h↔∃z∈h.ae,z.id=d∧z.st=2∧z.dH≤h.now:=by
 rw[EO,if_pos (dy.2 hg),lj,List.mem_map]
 constructor
 · rintro⟨z,hz,e⟩
   obtain⟨hz,hb⟩:=List.mem_filter.1 hz;simp only[kD,Bool.and_eq_true,beq_iff_eq,decide_eq_true_eq] at hb;exact⟨z,hz,e,hb⟩
 · rintro⟨z,hz,e,hb⟩
   refine⟨z,List.mem_filter.2 ⟨hz, ?_⟩,e⟩;simp only[kD,Bool.and_eq_true,beq_iff_eq,decide_eq_true_eq];exact hb
def uw (E:ai) (i:Nat):Prop:=∀z∈E.ae,z.st=2→z.dH≤E.now→(i:Int)≤z.ag
theorem uw.zero {h:ai} (hg:HG h):uw h 0:=fun z hz _ _=>(iH (hg.ae.ok z hz).1).ag.1
theorem uw.step {E:ai} {i:Nat} (hg:HG E) (hn:i<E.cabins.length) (L:uw E i):uw (bH E (i:Int)).1 (i+1):=fun z hz e3 e4=>by
 have I:=pP hg hn;have S:=(qR hg hn).1;have K:=yX hg hn;have kE:i<(bH E (i:Int)).1.cabins.length:=by rw[K.1]; exact hn
 have hw:=MT hg;rw[K.2.1] at e4
 have h1:(i:Int)≤z.ag:=by
  rcases S.back z hz with⟨a,_⟩ | ⟨_,_,a,_⟩
  · rcases(F2 hg hn).back z a with⟨b,_⟩ | ⟨b,_⟩
    · exact L z b e3 e4
    · omega
  · rw[I.now,I.rules] at a; omega
 have h2:z.ag≠(i:Int):=fun e=>by
  have:=(yV S.hg (List.getElem?_eq_getElem kE)).2 ⟨z,hz,rfl,e,e3,by rw[K.2.1]; exact e4⟩;rw[BF hg hn] at this;cases this
 omega
theorem uw.all {E:ai} (hg:HG E) (L:uw E E.cabins.length):EO E = []:=by
 refine List.eq_nil_iff_forall_not_mem.2 fun d hd=> ?_;obtain⟨z,hz,_,e2,e3⟩:=(VH hg).1 hd;have h1:=L z hz e2 e3;have h2:=(iH (hg.ae.ok z hz).1).ag.2;have h3:=hg.fL;omega
theorem VI {R:bn} {p:ax} {now:Int} (h:bF R p now=true) (h2:p.st=2):p.dH≤now+R.bE:=by
 simp only[bF,Bool.and_eq_true,Bool.or_eq_true,beq_iff_eq] at h;obtain⟨_,_,_,_,_,_,_,_,_,_,_,h⟩:=h;rcases h with⟨h,_⟩ | ⟨_,h⟩
 · omega
 · exact(bD h).2
theorem VJ {h:ai} (hg:HG h) {z:ax} (hz:z∈h.ae):jq h z.id=(z.st == 2)∧(jq h z.id=true→(sC h z.id).tm≤h.now+h.rules.bE):=by
 obtain⟨k1,k2⟩:=yU hg hz;have e:jq h z.id=(z.st == 2):=by rw[jq,k1,k2,Bool.true_and]
 refine⟨e,fun ho=> ?_⟩;rw[sC,if_pos ho,k2];rw[e] at ho;exact VI (hg.ae.ok z hz).1 (by simpa using ho)
theorem VK {h:ai} {w:Nat} (hv:aU h (eW (w:Int))=0) (hw:w<h.aq.length) (hj:¬h.aq[w]<0):bj (eG h (w:Int)) h.aq[w] = []:=by
 obtain⟨hg,w',e,_,ej,_,e2⟩:=sZ hv;have ew:w'=w:=by omega
 subst ew;have ej:gv h (w':Int)=h.aq[w']:=ej;obtain⟨n,hn,FK⟩:=e2 (by omega);have g:=FP (who:=(w':Int)) hg
 have e3:eG h (w':Int)=fE (bH h h.aq[w']).1.todo ((bH h h.aq[w']).1.aq.set w' (-1)) (bH h h.aq[w']).1:=by
  rw[eG,if_pos hv,ns,if_neg (by rw[ej]; omega),uq,ej,Int.toNat_natCast]; rfl
 rw[e3] at g ⊢;rw[MO _ _ (hg.scan _) g,hn];exact BF hg FK
end Go.Proofs.YtpklefhdkkegiaaGreat

