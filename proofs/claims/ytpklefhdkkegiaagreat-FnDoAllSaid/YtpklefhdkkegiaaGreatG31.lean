/- Parts of a proof. No conditions. -/

import Derived.Test.YtpklefhdkkegiaaGreatG24
import Derived.Test.YtpklefhdkkegiaaGreatG15
import Derived.Test.YtpklefhdkkegiaaGreatG16
import Derived.Test.YtpklefhdkkegiaaGreatG25
import Derived.Test.YtpklefhdkkegiaaGreatG21
set_option linter.unusedSimpArgs false
set_option linter.unusedVariables false
namespace Go.Proofs.YtpklefhdkkegiaaGreat
open Go
set_option maxRecDepth 100000
theorem TP {α:Type} {f:α→Int} {l:List α} (hd:l.Pairwise fun a b=>f a≠f b) {i:Nat} (hi:i<l.length) {z:α}:z∈l.take i++l.drop (i+1)↔z∈l∧f z≠f l[i]:=by
 have pm:l.Perm (l[i]::(l.take i++l.drop (i+1))):=by
   conv=>lhs; rw[Bd hi]
   exact List.perm_middle
 obtain⟨n1,_⟩:=List.pairwise_cons.1 ((pm.pairwise_iff (fun {a b} q e=>q e.symm)).1 hd);rw[pm.mem_iff,List.mem_cons]
 constructor
 · intro hz;exact⟨.inr hz,fun e=>n1 z hz e.symm⟩
 · rintro⟨rfl | hz,hn⟩
   · exact(hn rfl).elim
   · exact hz
theorem yI {α:Type} (l:List α) (a:Int):(cutAt l a).Sublist l:=by
 unfold cutAt; split
 · exact List.Sublist.refl _
 · have h:=List.Sublist.append (List.Sublist.refl (l.take a.toNat)) (List.drop_sublist_drop_left l (Nat.le_succ a.toNat))
   rwa [List.take_append_drop] at h
theorem LR {l:List Entry} (hd:l.Pairwise fun a b=>a.aZ≠b.aZ) {id:Int} {y:Entry}:y∈iX l id↔y∈l∧y.aZ≠id:=by
 rcases iC (fun e:Entry=>e.aZ == id) l with⟨e,hn⟩ | ⟨i,hi,e,e1,_⟩
 · have e:cU l id = -1:=e;rw[iX,cutAt,e,if_pos (by omega)];exact⟨fun h=>⟨h,fun q=>by have:=hn y h; simp[q] at this⟩,fun h=>h.1⟩
 · have e:cU l id=(i:Int):=e;have e1:l[i].aZ=id:=by simpa using e1
   rw[iX,cutAt,e,if_neg (by omega),Int.toNat_natCast,TP (f:=Entry.aZ) hd hi,e1]
theorem TQ {l:List Entry} {id:Int} {y:Entry} (hy:y∈l) (e:y.aZ=id):(iX l id).length+1=l.length:=by
 rcases iC (fun e:Entry=>e.aZ == id) l with⟨_,hn⟩ | ⟨i,hi,e2,_,_⟩
 · have:=hn y hy;simp[e] at this
 · have e2:cU l id=(i:Int):=e2;rw[iX,cutAt,e2,if_neg (by omega),Int.toNat_natCast,List.length_append,List.length_take,List.length_drop];omega
section
variable {h : ai} {i k : Nat} {p : ax} {c : ba}
theorem yJ (o:b_ h i k p c):kL h (k:Int) p = {h with ae:=h.ae.set i (fU h p),cabins:=h.cabins.set k (v_ h c p)}:=by
 have e1:ff h.ae (fU h p)=h.ae.set i (fU h p):=KW o.at_;rw[kL,e1,show aB h (k:Int)=c from jt o.hk];show({h with ae:=_,cabins:=h.cabins.set ((k:Int)).toNat _}:ai)=_;rw[Int.toNat_natCast]
theorem b_.aJ (o:b_ h i k p c) (h1:p.st=1):gM h.rules p h.now∈c.row:=o.row.2 ⟨p,o.mem,o.ag,h1,rfl⟩
theorem b_.offer (o:b_ h i k p c) (h1:p.st=1) (iO:p.aj≤c.seats.free):HG (kL h (k:Int) p)∧bw (kJ c.spoke (dG (fU h p)))=true:=by
 obtain⟨hi,ei⟩:=o.lt;have hk:=bC o.hk;have g:=o.hg.fV o.hk;have r:=qN o.hg o.hk;have hd:=lX o.hg.ae;have sz:=o.aj;have hr:=eB o.hg.rules;have pn:=iH o.ok;have hn:=bD o.hg.now;have ok:bF h.rules (fU h p) h.now=true:=TG o.ok
 have dj:(bf c.spoke).length≤9:=by
   have a1:(bB c.spoke).length=(bf c.spoke).length:=by rw[bB,if_pos g.jZ,mb]
   have a2:(gH h.ae (k:Int)).length=(ga (k:Int) h.ae).length:=by rw[gH,mb]
   have a3:=r.b0;have a4:=r.room;have a5:=hr.room;have a6:=List.length_pos_of_mem (o.aJ h1);rw[g.pins] at a1;omega
 have TR:fc (dG (fU h p))=true:=by
   show(ak (h.now+h.rules.bE) 1 1000008 && ak p.id 1 999)=true;have:=hr.bE;have:=pn.id;simp only[ak,Bool.and_eq_true,decide_eq_true_eq];omega
 have wp:=TE g.jZ TR (fun q hq e=>by
   obtain⟨z,hz,_,hs,rfl⟩:=o.pins.1 hq;have hne:z≠p:=fun e=>by rw[e,h1] at hs; cases hs
   exact o.one hz hne e) dj
 have ld:=TL g.gn (n:=p.aj) (by omega) iO;refine⟨?_,wp.1⟩;generalize hq:fU h p=q at ok wp;have q1:q.id=p.id:=by rw[←hq]; rfl
 have q2:q.aA=p.aA:=by rw[←hq]; rfl
 have q3:q.since=p.since:=by rw[←hq]; rfl
 have q4:q.ag=(k:Int):=by rw[←hq]; exact o.ag
 have q5:q.st=2:=by rw[←hq]; rfl
 have q6:q.al=p.al:=by rw[←hq]; rfl
 have q7:q.aj=p.aj:=by rw[←hq]; rfl
 have cS:dq h.rules h.now h.aA (h.ae.set i q):=o.hg.ae.set hi ok (by rw[ei,q1]) (by rw[ei,q2]) (by rw[ei,q3]);have hm:∀z,z∈h.ae.set i q↔z=q∨(z∈h.ae∧z.id≠p.id):=fun z=>by rw[yF hd hi,ei]
 rw[yJ o,hq];refine o.hg.next rfl rfl rfl ?_ ?_ rfl rfl cS fun j c1 hj=> ?_
 · show(h.ae.set i q).length≤40;rw[List.length_set]; exact o.hg.dj
 · show(h.cabins.set k _).length=_;rw[List.length_set]
 show mv h.rules h.now (h.ae.set i q) j c1;have hj:(h.cabins.set k (v_ h c p))[j]? = some c1:=hj;rw[List.getElem?_set] at hj;have s1:=v7 (bK (j:Int)) hi q;have s2:=v7 (cz (j:Int)) hi q;have s3:=v7 (cC (j:Int)) hi q;have TM:bK (j:Int) q=bK (j:Int) h.ae[i]:=by rw[ei,bK,bK,q4,o.ag]
 have TN:cC (j:Int) q=cC (j:Int) h.ae[i]:=by rw[ei,cC,cC,lN,lN,q6,q7]
 by_cases ej:k=j
 · subst ej;rw[if_pos rfl,if_pos hk] at hj;cases hj;rw[ei,nq (.inl (by rw[h1]; decide)),wa q5 q4 (by rw[q7]; exact sz),q7] at s2;refine⟨?_, ?_,ld.2, ?_,by show bw (kJ c.spoke (dG (fU h p)))=true; rw[hq]; exact wp.1, ?_, ?_, ?_⟩
   · show(bz c.seats p.aj (-1) 1 0 0).total=_;rw[ld.1]; exact g.total
   · have:=g.room; omega
   · refine uh cS ?_ fun y=> ?_
     · show(iX c.row p.id).Pairwise _;exact r.pre.lt.sublist (yI _ _)
     · show y∈iX c.row p.id↔_;rw[LR r.pre.ne,o.row]
       constructor
       · rintro⟨⟨z,hz,hc,hs,rfl⟩,hn⟩
         exact⟨z,(hm z).2 (.inr ⟨hz,hn⟩),hc,hs,rfl⟩
       · rintro⟨z,hz,hc,hs,rfl⟩
         rcases(hm z).1 hz with rfl | ⟨hz,hn⟩
         · rw[q5] at hs; cases hs
         · exact⟨⟨z,hz,hc,hs,rfl⟩,hn⟩
   · show bB (kJ c.spoke (dG (fU h p)))=_;rw[hq];refine Be cS wp.1 fun y=> ?_;rw[wp.2,o.pins]
     constructor
     · rintro(rfl | ⟨z,hz,hc,hs,rfl⟩)
       · exact⟨q,(hm q).2 (.inl rfl),q4,q5,rfl⟩
       · have hne:z≠p:=fun e=>by rw[e,h1] at hs; cases hs
         exact⟨z,(hm z).2 (.inr ⟨hz,o.one hz hne⟩),hc,hs,rfl⟩
     · rintro⟨z,hz,hc,hs,rfl⟩
       rcases(hm z).1 hz with rfl | ⟨hz,_⟩
       · exact .inl rfl
       · exact .inr ⟨z,hz,hc,hs,rfl⟩
   · show(bz c.seats p.aj (-1) 1 0 0).held=_;rw[ld.1];show c.seats.held+p.aj=_;have:=g.held;omega
   · show(bz c.seats p.aj (-1) 1 0 0).tied=_;rw[ld.1];show c.seats.tied=_;have:=g.tied;omega
 · rw [if_neg ej] at hj;have gj:=o.hg.fV hj;have hne:((k:Int))≠(j:Int):=by omega
   rw[ei,nq (.inr (by rw[o.ag]; exact hne)),nq (.inr (by rw[q4]; exact hne))] at s2;refine gj.other o.hg.ae cS rfl rfl rfl gj.gn (fun z hz=> ?_) (by omega) (by have:=gj.held; omega) (by have:=gj.tied; omega);rw[hm]
   constructor
   · rintro(rfl | h)
     · exact(hne (q4.symm.trans hz)).elim
     · exact h.1
   · intro h;exact .inr ⟨h,o.one h fun e=>hne (by rw[←o.ag,←e]; exact hz)⟩
end
theorem TS {h:ai} (hg:HG h) {k:Nat} {c:ba} (hk:h.cabins[k]? = some c) (hn:mo h c≠0):∃i p,b_ h i k p c∧p.st=1∧p.aj≤c.seats.free∧p.id=mo h c∧cN h (mo h c)=p:=by
 have g:=hg.fV hk;rw[mo] at hn ⊢;rcases iC (kG c.seats.free (gf h)) c.row with⟨e,_⟩ | ⟨j,hj,e,e1,_⟩
 · have e:ig c.row c.seats.free (gf h) = -1:=e;rw[e,if_pos (by omega)] at hn;exact(hn rfl).elim
 · have e:ig c.row c.seats.free (gf h)=(j:Int):=e;rw[e,if_neg (by omega),Int.toNat_natCast,List.getElem?_eq_getElem hj,Option.getD_some];have hm:=List.getElem_mem hj;have pG:∃z∈h.ae,z.ag=(k:Int)∧z.st=1∧c.row[j]=gM h.rules z h.now:=(pM hg.ae).1 (by rw[←g.row]; exact hm);obtain⟨z,hz,hc,hs,ez⟩:=pG;rw[ez] at e1 ⊢
   have e1:z.aj≤c.seats.free:=by
    simp only[kG,Bool.and_eq_true,decide_eq_true_eq] at e1;exact e1.1
   obtain⟨i,hi,e2,e3⟩:=Bh (lX hg.ae) hz;refine⟨i,z,⟨hg,by rw[List.getElem?_eq_getElem hi,e3],hk,hc,(hg.ae.ok z hz).1,e2⟩,hs,e1,rfl, ?_⟩;show(h.ae[(br h.ae z.id).toNat]?).getD default=z;rw[e2,Int.toNat_natCast,List.getElem?_eq_getElem hi,e3]; rfl
theorem HG.small {h:ai} (hg:HG h):a_ h:=by
 have hr:=eB hg.rules;have h1:=hr.len;have h2:=hg.dj;have h3:=hg.fL;have h4:=qO hg;have h5:=hg.bm;have h6:=hr.bm;refine⟨?_, ?_,⟨?_,fun c hc=> ?_⟩, ?_, ?_⟩
 · show _≤1048576; omega
 · show _≤1048576; omega
 · show _≤1048576; omega
 · obtain⟨k,hk,rfl⟩:=List.getElem_of_mem hc;have r:=qN hg (List.getElem?_eq_getElem hk);have a1:=r.b0;have a2:=r.room;have a3:=hr.room;have w:=wG r.jZ;refine⟨by show _≤1048576; omega,by show _≤1048576; rw[w.len]; omega,fun y hy=> ?_⟩
   have :y.length≤(h.cabins[k]).spoke.flatten.length:=by
    have h2:∀{w:List (List aC)} {l:List aC},l∈w→l.length≤w.flatten.length:=by
     intro w l hl
     induction w with
     | nil=>cases hl
     | cons a w ih=>
       simp only[List.flatten_cons,List.length_append];rcases List.mem_cons.1 hl with rfl | hl
       · omega
       · have:=ih hl; omega
    exact h2 hy
   have w2:(h.cabins[k]).spoke.flatten.length≤10:=w.dj;show _≤1048576; omega
 · show _≤1048576; omega
 · show _≤1048576; omega
def cw:List Int→ai→ai
 | [],E=>E
 | d::ds,E=>cw ds (dz E (cN E d))
def cK (h:ai) (k:Int):ai:=cw (bj h k) h
theorem LS:∀(ds:List Int) (d:Int) (E:ai),cw (ds ++ [d]) E=dz (cw ds E) (cN (cw ds E) d)
 | [],_,_=>rfl
 | x::ds,d,E=>LS ds d (dz E (cN E x))
theorem LU {ds:List Int} {i:Nat} (hi:i<ds.length) (E:ai):cw (ds.take (i+1)) E=dz (cw (ds.take i) E) (cN (cw (ds.take i) E) ds[i]):=by
 rw[List.take_add_one,List.getElem?_eq_getElem hi]; exact LS _ _ _
structure kM (h:ai) (k:Nat) (ds:List Int) (E:ai):Prop where
 hg:HG E
 rules:E.rules=h.rules
 now:E.now=h.now
 len:E.cabins.length=h.cabins.length
 todo:E.todo=h.todo
 aq:E.aq=h.aq
 nd:ds.Pairwise fun a b=>a≠b
 rem:∀d∈ds,∃p∈E.ae,p.id=d∧p.ag=(k:Int)∧p.st=2
theorem kM.start {h:ai} (hg:HG h) {k:Nat} {c:ba} (hk:h.cabins[k]? = some c):kM h k (sO c h.now) h:=by
 have g:=hg.fV hk;refine⟨hg,rfl,rfl,rfl,rfl,rfl, ?_,fun d hd=> ?_⟩
 · rw[sO,dF,List.pairwise_map];refine List.Pairwise.filter _ ?_;rw[bB,if_pos g.jZ];exact((Fs (lt:=bu) (bf c.spoke)).pairwise_iff (R:=fun a b=>a.pid≠b.pid) (fun {a b} q e=>q e.symm)).2 (wG g.jZ).ne
 · rw[sO,dF] at hd;obtain⟨q,hq,rfl⟩:=List.mem_map.1 hd;have hq:=(List.mem_filter.1 hq).1;rw[g.pins,mr] at hq;obtain⟨z,hz,hc,hs,rfl⟩:=hq;exact⟨z,hz,rfl,hc,hs⟩
theorem kM.at_ {h:ai} {k:Nat} {d:Int} {ds:List Int} {E:ai} (I:kM h k (d::ds) E) (hk:k<h.cabins.length):∃i c,b_ E i k (cN E d) c∧(cN E d).st=2∧(cN E d).id=d∧br E.ae d=(i:Int):=by
 obtain⟨p,hp,e1,e2,e3⟩:=I.rem d List.mem_cons_self;obtain⟨i,hi,e4,e5⟩:=Bh (lX I.hg.ae) hp;rw[e1] at e4
 have ep:cN E d=p:=by
  show(E.ae[(br E.ae d).toNat]?).getD default=p;rw[e4,Int.toNat_natCast,List.getElem?_eq_getElem hi,e5]; rfl
 have bL:k<E.cabins.length:=by rw[I.len]; exact hk
 rw[ep];exact⟨i,E.cabins[k],⟨I.hg,by rw[List.getElem?_eq_getElem hi,e5],List.getElem?_eq_getElem bL,e2,(I.hg.ae.ok p hp).1,by rw[e1]; exact e4⟩,e3,e1,e4⟩
theorem kM.step {h:ai} {k:Nat} {d:Int} {ds:List Int} {E:ai} (I:kM h k (d::ds) E) (hk:k<h.cabins.length):kM h k ds (dz E (cN E d)):=by
 obtain⟨i,c,o,h2,fI,_⟩:=I.at_ hk;obtain⟨k1,k2,k3,k4,k5⟩:=o.iv;obtain⟨n1,n2⟩:=List.pairwise_cons.1 I.nd;refine⟨o.FA h2,k1.trans I.rules,k2.trans I.now,k3.trans I.len,k4.trans I.todo,k5.trans I.aq,n2,fun x hx=> ?_⟩;obtain⟨p,hp,e1,e2,e3⟩:=I.rem x (List.mem_cons_of_mem _ hx);exact⟨p,o.stay hp (by rw[e1,fI]; exact fun e=>n1 x hx e.symm),e1,e2,e3⟩
theorem LV {h:ai} {k:Nat} (hk:k<h.cabins.length):∀(ds:List Int) (E:ai),kM h k ds E→kM h k [] (cw ds E)
 | [],_,I=>I
 | d::ds,E,I=>LV hk ds (dz E (cN E d)) (I.step hk)
theorem sS {h:ai} {k:Int} (hv:cu h k=true):HG h∧∃(n:Nat) (c:ba),h.cabins[n]? = some c∧k=(n:Int):=by
 simp only[cu,Bool.and_eq_true] at hv;obtain⟨h1,h2⟩:=hv;have h2:=bD h2;obtain⟨n,rfl⟩:∃n:Nat,k=(n:Int):=⟨k.toNat,by omega⟩;have hn:n<h.cabins.length:=by omega
 exact⟨dy.1 h1,n,h.cabins[n],List.getElem?_eq_getElem hn,rfl⟩
theorem LW {h:ai} (hg:HG h) {n:Nat} (hn:n<h.cabins.length):cu h (n:Int)=true:=by
 rw[cu,dy.2 hg];simp only[ak,Bool.and_eq_true,decide_eq_true_eq,true_and];exact⟨by omega,by omega⟩
theorem we {h:ai} {k:Int} (hv:cu h k=false):bj h k = []:=by rw[bj,hv]; rfl
theorem yK {h:ai} {n:Nat} {c:ba} (hg:HG h) (hk:h.cabins[n]? = some c):bj h (n:Int)=sO c h.now:=by
 rw[bj,if_pos (LW hg (bC hk)),jt hk]
theorem TT {h:ai} {k:Int} {i:Nat} (hi:i<(bj h k).length):∃n:Nat,k=(n:Int)∧n<h.cabins.length∧kM h n ((bj h k).drop i) (cw ((bj h k).take i) h):=by
 have hv:cu h k=true:=by
  cases e:cu h k with
  | true=>rfl
  | false=>rw[we e] at hi; cases hi
 obtain⟨hg,n,c,hk,rfl⟩:=sS hv;have hn:=bC hk;refine⟨n,rfl,hn, ?_⟩
 have key:∀i,i≤(bj h (n:Int)).length→kM h n ((bj h (n:Int)).drop i) (cw ((bj h (n:Int)).take i) h):=by
  intro i
  induction i with
  | zero=>
    intro _;rw[yK hg hk];exact kM.start hg hk
  | succ i ih=>
    intro hi;have I:=ih (by omega);rw[←List.getElem_cons_drop (by omega:i<(bj h (n:Int)).length)] at I;rw[LU (by omega:i<(bj h (n:Int)).length)];exact I.step hn
 exact key i (by omega)
theorem pP {h:ai} {n:Nat} (hg:HG h) (hn:n<h.cabins.length):kM h n [] (cK h (n:Int)):=by
 have hk:=List.getElem?_eq_getElem hn;rw[cK,yK hg hk];exact LV hn _ _ (kM.start hg hk)
theorem LX {h:ai} (hs:a_ h) (k:Int):a_ (cK h k):=by
 cases hv:cu h k with
 | false=>rw[cK,we hv]; exact hs
 | true=>
   obtain⟨hg,n,c,hk,rfl⟩:=sS hv;exact(pP hg (bC hk)).hg.small
def dU (h:ai) (k:Int):ai:=if cH h k=0 then h else kL h k (cN h (cH h k))
theorem Bj {h:ai} {n:Nat} {c:ba} (hg:HG h) (hk:h.cabins[n]? = some c):cH h (n:Int)=mo h c:=by
 rw[cH,if_pos (LW hg (bC hk)),jt hk]
theorem Bk {h:ai} {k:Int} (hv:¬cH h k=0):∃(n:Nat) (c:ba) (i:Nat) (p:ax),k=(n:Int)∧b_ h i n p c∧p.st=1∧p.aj≤c.seats.free∧p.id=cH h k∧cN h (cH h k)=p:=by
 have hc:cu h k=true:=by
  cases e:cu h k with
  | true=>rfl
  | false=>rw[cH,e] at hv; exact absurd rfl hv
 obtain⟨hg,n,c,hk,rfl⟩:=sS hc;have e:=Bj hg hk;rw[e] at hv ⊢;obtain⟨i,p,h1,h2,h3,h4,h5⟩:=TS hg hk hv;exact⟨n,c,i,p,rfl,h1,h2,h3,h4,h5⟩
def dV (E:ai) (k:Int):Nat:=(aB E k).row.length
def eF:Nat→Int→ai→List Int→ai × List Int
 | 0,_,E,ids=>(E,ids)
 | n+1,k,E,ids=>if cH E k=0 then(E,ids) else eF n k (dU E k) (ids ++ [cH E k])
def l3 (k:Int) (E:ai) (ids:List Int):ai × List Int:=eF (dV E k+1) k E ids
def bH (h:ai) (k:Int):ai × List Int:=l3 k (cK h k) []
theorem ui {k:Int} {E:ai} {ids:List Int} (h:cH E k=0):l3 k E ids=(E,ids):=if_pos h
theorem nr {E:ai} {k:Int} (hv:¬cH E k=0):HG E∧HG (dU E k)∧(dU E k).rules=E.rules∧(dU E k).now=E.now∧(dU E k).cabins.length=E.cabins.length∧(dU E k).todo=E.todo∧(dU E k).aq=E.aq∧dV (dU E k) k+1=dV E k∧dV E k≤10:=by
 obtain⟨n,c,i,p,rfl,o,st,fr,aZ,ep⟩:=Bk hv;have e:dU E (n:Int)=kL E (n:Int) p:=by rw[dU,if_neg hv,ep]
 have hk:=bC o.hk;rw[e,yJ o];have h1:=(o.offer st fr).1;rw[yJ o] at h1;refine⟨o.hg,h1,rfl,rfl,List.length_set,rfl,rfl, ?_, ?_⟩
 · have a1:aB {E with ae:=E.ae.set i (fU E p),cabins:=E.cabins.set n (v_ E c p)} (n:Int)=v_ E c p:=by
    show((E.cabins.set n (v_ E c p))[((n:Int)).toNat]?).getD default=_;rw[Int.toNat_natCast,List.getElem?_set]; simp[hk]
   rw[dV,a1,dV,jt o.hk];exact TQ (o.aJ st) rfl
 · rw[dV,jt o.hk];have r:=qN o.hg o.hk;have:=r.b0;have:=r.room;have:=(eB o.hg.rules).room;omega
theorem LY {k:Int} {E:ai} {ids:List Int} (hv:¬cH E k=0):l3 k E ids=l3 k (dU E k) (ids ++ [cH E k]):=by
 have h1:=(nr hv).2.2.2.2.2.2.2.1;rw[l3,eF,if_neg hv,l3,h1]
theorem LZ {w:List (List aC)} (h:kC w) (p:aC):kC (ik w p):=by
 unfold ik; split
 · refine⟨by rw[List.length_set]; exact h.1,fun x hx=> ?_⟩;rcases List.mem_or_eq_of_mem_set hx with q | rfl
   · exact h.2 x q
   · refine Nat.le_trans (yI _ _).length_le ?_;unfold bQ;rw[List.getD_eq_getElem?_getD];cases hq:w[fN p]? with
     | none=>exact Nat.zero_le _
     | some l=>exact h.2 l (List.mem_of_getElem? hq)
 · exact h
theorem sU {h:ai} (hs:a_ h) {k:Int} {c:ba} (hc:iS c):a_ (bN h k c):=
 ⟨hs.1,hs.2.1,TH hs.2.2.1 hc,hs.2.2.2.1,hs.2.2.2.2⟩
theorem TU {h:ai} (hs:a_ h) {l:List ax} (hl:l.length≤aN):a_ {h with ae:=l}:=⟨hs.1,hl,hs.2.2.1,hs.2.2.2.1,hs.2.2.2.2⟩
theorem yL {h:ai} (hs:a_ h) {l:List Int} (hl:l.length≤aN):a_ {h with todo:=l}:=⟨hs.1,hs.2.1,hs.2.2.1,hl,hs.2.2.2.2⟩
theorem mw {h:ai} (hs:a_ h) (k:Int):iS (aB h k):=by
 unfold aB;cases q:h.cabins[k.toNat]? with
 | none=>exact⟨Nat.zero_le _,Nat.zero_le _,fun y hy=>by cases hy⟩
 | some c=>exact hs.2.2.1.2 c (List.mem_of_getElem? q)
theorem TV {l:List ax} (h:l.length≤aN) (id:Int):(fu l id).length≤aN:=Nat.le_trans (yI _ _).length_le h
theorem L0 {h:ai} (hs:a_ h) (p:ax):a_ (cW h p):=by
 rw[cW,ka];have h1:a_ {h with ae:=fu h.ae p.id}:=TU hs (TV hs.2.1 _)
 split
 · exact h1
 · exact sU h1 ⟨(mw h1 _).1,(mw h1 _).2⟩
theorem L3 (h:ai) (p:ax):(cW h p).todo=h.todo:=(ju _ _).2.2.2.2.1
theorem TW {h:ai} (hs:a_ h) (p:ax):a_ (c_ h p):=
 sU hs ⟨(mw hs _).1,LZ (mw hs _).2 _⟩
theorem yM {l:List Int} {n:Nat} (h:l.length≤n) (hn:n+1≤1048576) (k:Int):(eD l k).length≤aN:=by
 have:=A6 l k;show _≤1048576;omega
theorem TX {h:ai} (hs:a_ h) (id:Int):a_ (oe h id):=by
 unfold oe; split
 · rename_i hv;obtain⟨i,k,p,c,o,fI,ep⟩:=Bl hv;rw[ep];have ht:=qO o.hg;refine L0 ?_ p
   split
   · exact yL (TW hs p) (yM ht (by decide) _)
   · exact sU hs ⟨Nat.le_trans (yI _ _).length_le (mw hs _).1,(mw hs _).2⟩
 · exact hs
theorem TY {h:ai} (hs:a_ h) (id:Int):a_ (oh h id):=by
 unfold oh; split
 · rename_i hv;obtain⟨i,k,p,c,o,fI,ep,_⟩:=sV (q:=kd id) (.inl rfl) hv;have ep:cN h id=p:=ep;rw[ep];have ht:=qO o.hg;have h1:a_ (eV h p):=sU hs ⟨(mw hs _).1,LZ (mw hs _).2 _⟩;have h2:a_ (cW (eV h p) p):=L0 h1 p;have h3:(cW (eV h p) p).todo.length≤4:=by rw[L3]; exact ht
   unfold sW; split
   · exact h2
   · exact yL (sU h2 (k:=p.al) (c:={aB (cW (eV h p) p) p.al with seats:=bz (aB (cW (eV h p) p) p.al).seats p.aj 1 0 (-1) 0}) (mw h2 p.al)) (yM h3 (by decide) _)
 · exact hs
theorem TZ {h:ai} (hs:a_ h) (id:Int):a_ (om h id):=by
 unfold om; split
 · rename_i hv;obtain⟨i,k,p,c,o,fI,ep,st⟩:=sV (q:=ke id) (.inr rfl) hv;have ep:cN h id=p:=ep;rw[ep];have hg:=o.FA st;exact yL hg.small (yM (qO hg) (by decide) _)
 · exact hs
theorem T0 {h:ai} (hs:a_ h) (id ag al aj aO:Int):a_ (oo h id ag al aj aO):=by
 unfold oo; split
 · rename_i hv;obtain⟨k,c,o⟩:=Bm hv;generalize dv h id ag al aj aO=p at o;have ht:=qO o.hg
   have hp:(ff h.ae p).length≤aN:=by
    have h1:=o.hg.dj;have h2:=KX h.ae p.id;unfold ff
    split
    · rw[List.length_set]; exact hs.2.1
    · show _≤1048576;rw[List.length_append,List.length_cons,List.length_take,List.length_drop]; omega
   have hr:(aB h p.ag).row.length≤10:=by
    rw[o.iJ];have r:=qN o.hg o.hk;have:=r.b0;have:=r.room;have:=(eB o.hg.rules).room;omega
   have h1:a_ (oq h p):=⟨hs.1,hp,hs.2.2.1,hs.2.2.2.1,hs.2.2.2.2⟩
   have h2:a_ (fD h p):=sU h1 ⟨by
    show(bP bd _ (aB h p.ag).row).length≤1048576;rw[wT]; omega,(mw hs p.ag).2⟩
   have h3:a_ (my (fD h p) p):=by
    unfold my; split
    · exact h2
    · exact sU h2 ⟨(mw h2 _).1,(mw h2 _).2⟩
   exact yL h3 (yM ht (by decide) _)
 · exact hs
theorem T1 {h:ai} (hs:a_ h) (k:Int):a_ (dU h k):=by
 by_cases hv:cH h k=0
 · rw[dU,if_pos hv]; exact hs
 · exact(nr hv).2.1.small
theorem Bn {h:ai} (hs:a_ h) (k:Int):a_ (bH h k).1∧(bH h k).2.length≤11:=by
 have h1:=LX hs k
 by_cases hv:cH (cK h k) k=0
 · rw[bH,ui hv]; exact⟨h1,Nat.zero_le _⟩
 · have h2:=(nr hv).2.2.2.2.2.2.2.2;rw[bH,l3]
   have key:∀{n:Nat} {E:ai} {ids:List Int},a_ E→a_ (eF n k E ids).1∧(eF n k E ids).2.length≤ids.length+n:=by
    intro n
    induction n with
    | zero=>intro E ids h; exact⟨h,by show ids.length≤_; omega⟩
    | succ n ih=>
      intro E ids h;unfold eF; split
      · exact⟨h,by show ids.length≤_; omega⟩
      · have:=ih (ids:=ids ++ [cH E k]) (T1 h k);rw[List.length_append,List.length_singleton] at this;exact⟨this.1,by omega⟩
   have:=key (n:=dV (cK h k) k+1) (ids:=[]) h1;exact⟨this.1,by have:=this.2; simp only[List.length_nil] at this; omega⟩
end Go.Proofs.YtpklefhdkkegiaaGreat

