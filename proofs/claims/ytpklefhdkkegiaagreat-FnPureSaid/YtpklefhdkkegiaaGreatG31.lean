/- Parts of a proof. No conditions. -/

import Derived.Test.YtpklefhdkkegiaaGreatG24
import Derived.Test.YtpklefhdkkegiaaGreatG15
import Derived.Test.YtpklefhdkkegiaaGreatG16
import Derived.Test.YtpklefhdkkegiaaGreatG25
import Derived.Test.YtpklefhdkkegiaaGreatG21
set_option linter.unusedSimpArgs false
set_option linter.unusedVariables false
namespace Go.Proofs.YtpklefhdkkegiaaGreat
open Go
set_option maxRecDepth 100000
theorem PN {α:Type} {f:α→Int} {l:List α} (hd:l.Pairwise fun a b=>f a≠f b) {i:Nat} (hi:i<l.length) {z:α}:z∈l.take i++l.drop (i+1)↔z∈l∧f z≠f l[i]:=by
 have pm:l.Perm (l[i]::(l.take i++l.drop (i+1))):=by
   conv=>lhs; rw[yd hi]
   exact List.perm_middle
 obtain⟨n1,_⟩:=List.pairwise_cons.1 ((pm.pairwise_iff (fun {a b} q e=>q e.symm)).1 hd);rw[pm.mem_iff,List.mem_cons]
 constructor
 · intro hz;exact⟨.inr hz,fun e=>n1 z hz e.symm⟩
 · rintro⟨rfl | hz,hn⟩
   · exact(hn rfl).elim
   · exact hz
theorem yg {α:Type} (l:List α) (a:Int):(cutAt l a).Sublist l:=by
 unfold cutAt; split
 · exact List.Sublist.refl _
 · have h:=List.Sublist.append (List.Sublist.refl (l.take a.toNat)) (List.drop_sublist_drop_left l (Nat.le_succ a.toNat))
   rwa [List.take_append_drop] at h
theorem PO {l:List Entry} (hd:l.Pairwise fun a b=>a.bm≠b.bm) {id:Int} {y:Entry}:y∈iZ l id↔y∈l∧y.bm≠id:=by
 rcases iC (fun e:Entry=>e.bm == id) l with⟨e,hn⟩ | ⟨i,hi,e,e1,_⟩
 · have e:dx l id = -1:=e;rw[iZ,cutAt,e,if_pos (by omega)];exact⟨fun h=>⟨h,fun q=>by have:=hn y h; simp[q] at this⟩,fun h=>h.1⟩
 · have e:dx l id=(i:Int):=e;have e1:l[i].bm=id:=by simpa using e1
   rw[iZ,cutAt,e,if_neg (by omega),Int.toNat_natCast,PN (f:=Entry.bm) hd hi,e1]
theorem PQ {l:List Entry} {id:Int} {y:Entry} (hy:y∈l) (e:y.bm=id):(iZ l id).length+1=l.length:=by
 rcases iC (fun e:Entry=>e.bm == id) l with⟨_,hn⟩ | ⟨i,hi,e2,_,_⟩
 · have:=hn y hy;simp[e] at this
 · have e2:dx l id=(i:Int):=e2;rw[iZ,cutAt,e2,if_neg (by omega),Int.toNat_natCast,List.length_append,List.length_take,List.length_drop];omega
section
variable {h : al} {i k : Nat} {p : ax} {c : bh}
theorem Cq (o:cE h i k p c):oH h (k:Int) p = {h with ae:=h.ae.set i (hG h p),cabins:=h.cabins.set k (tf h c p)}:=by
 have e1:gM h.ae (hG h p)=h.ae.set i (hG h p):=Hl o.at_;rw[oH,e1,show aE h (k:Int)=c from nk o.hk];show({h with ae:=_,cabins:=h.cabins.set ((k:Int)).toNat _}:al)=_;rw[Int.toNat_natCast]
theorem cE.aH (o:cE h i k p c) (h1:p.st=1):jR h.rules p h.now∈c.row:=o.row.2 ⟨p,o.mem,o.ah,h1,rfl⟩
theorem cE.offer (o:cE h i k p c) (h1:p.st=1) (gG:p.au≤c.ai.free):HG (oH h (k:Int) p)∧bu (jt c.spoke (eB (hG h p)))=true:=by
 obtain⟨hi,ei⟩:=o.lt;have hk:=bD o.hk;have g:=o.hg.jx o.hk;have r:=rA o.hg o.hk;have hd:=oG o.hg.ae;have sz:=o.au;have hr:=fv o.hg.rules;have pn:=qn o.ok;have hn:=bF o.hg.now;have ok:bz h.rules (hG h p) h.now=true:=PD o.ok
 have dy:(a_ c.spoke).length≤9:=by
   have a1:(cB c.spoke).length=(a_ c.spoke).length:=by rw[cB,if_pos g.kG,kh]
   have a2:(fJ h.ae (k:Int)).length=(eX (k:Int) h.ae).length:=by rw[fJ,kh]
   have a3:=r.bB;have a4:=r.room;have a5:=hr.room;have a6:=List.length_pos_of_mem (o.aH h1);rw[g.pins] at a1;omega
 have PR:dX (eB (hG h p))=true:=by
   show(aj (h.now+h.rules.cC) 1 1000008 && aj p.id 1 999)=true;have:=hr.cC;have:=pn.id;simp only[aj,Bool.and_eq_true,decide_eq_true_eq];omega
 have wp:=Py g.kG PR (fun q hq e=>by
   obtain⟨z,hz,_,hs,rfl⟩:=o.pins.1 hq;have hne:z≠p:=fun e=>by rw[e,h1] at hs; cases hs
   exact o.one hz hne e) dy
 have ld:=PI g.kD (n:=p.au) (by omega) gG;refine⟨?_,wp.1⟩;generalize hq:hG h p=q at ok wp;have q1:q.id=p.id:=by rw[←hq]; rfl
 have q2:q.az=p.az:=by rw[←hq]; rfl
 have q3:q.since=p.since:=by rw[←hq]; rfl
 have q4:q.ah=(k:Int):=by rw[←hq]; exact o.ah
 have q5:q.st=2:=by rw[←hq]; rfl
 have q6:q.aq=p.aq:=by rw[←hq]; rfl
 have q7:q.au=p.au:=by rw[←hq]; rfl
 have dn:c_ h.rules h.now h.az (h.ae.set i q):=o.hg.ae.set hi ok (by rw[ei,q1]) (by rw[ei,q2]) (by rw[ei,q3]);have hm:∀z,z∈h.ae.set i q↔z=q∨(z∈h.ae∧z.id≠p.id):=fun z=>by rw[Cj hd hi,ei]
 rw[Cq o,hq];refine o.hg.next rfl rfl rfl ?_ ?_ rfl rfl dn fun j c1 hj=> ?_
 · show(h.ae.set i q).length≤40;rw[List.length_set]; exact o.hg.dy
 · show(h.cabins.set k _).length=_;rw[List.length_set]
 show lD h.rules h.now (h.ae.set i q) j c1;have hj:(h.cabins.set k (tf h c p))[j]? = some c1:=hj;rw[List.getElem?_set] at hj;have s1:=te (bL (j:Int)) hi q;have s2:=te (cg (j:Int)) hi q;have s3:=te (cu (j:Int)) hi q;have PK:bL (j:Int) q=bL (j:Int) h.ae[i]:=by rw[ei,bL,bL,q4,o.ah]
 have PL:cu (j:Int) q=cu (j:Int) h.ae[i]:=by rw[ei,cu,cu,jP,jP,q6,q7]
 by_cases ej:k=j
 · subst ej;rw[if_pos rfl,if_pos hk] at hj;cases hj;rw[ei,qt (.inl (by rw[h1]; decide)),yf q5 q4 (by rw[q7]; exact sz),q7] at s2;refine⟨?_, ?_,ld.2, ?_,by show bu (jt c.spoke (eB (hG h p)))=true; rw[hq]; exact wp.1, ?_, ?_, ?_⟩
   · show(bW c.ai p.au (-1) 1 0 0).total=_;rw[ld.1]; exact g.total
   · have:=g.room; omega
   · refine ye dn ?_ fun y=> ?_
     · show(iZ c.row p.id).Pairwise _;exact r.pre.lt.sublist (yg _ _)
     · show y∈iZ c.row p.id↔_;rw[PO r.pre.ne,o.row]
       constructor
       · rintro⟨⟨z,hz,hc,hs,rfl⟩,hn⟩
         exact⟨z,(hm z).2 (.inr ⟨hz,hn⟩),hc,hs,rfl⟩
       · rintro⟨z,hz,hc,hs,rfl⟩
         rcases(hm z).1 hz with rfl | ⟨hz,hn⟩
         · rw[q5] at hs; cases hs
         · exact⟨⟨z,hz,hc,hs,rfl⟩,hn⟩
   · show cB (jt c.spoke (eB (hG h p)))=_;rw[hq];refine Ck dn wp.1 fun y=> ?_;rw[wp.2,o.pins]
     constructor
     · rintro(rfl | ⟨z,hz,hc,hs,rfl⟩)
       · exact⟨q,(hm q).2 (.inl rfl),q4,q5,rfl⟩
       · have hne:z≠p:=fun e=>by rw[e,h1] at hs; cases hs
         exact⟨z,(hm z).2 (.inr ⟨hz,o.one hz hne⟩),hc,hs,rfl⟩
     · rintro⟨z,hz,hc,hs,rfl⟩
       rcases(hm z).1 hz with rfl | ⟨hz,_⟩
       · exact .inl rfl
       · exact .inr ⟨z,hz,hc,hs,rfl⟩
   · show(bW c.ai p.au (-1) 1 0 0).held=_;rw[ld.1];show c.ai.held+p.au=_;have:=g.held;omega
   · show(bW c.ai p.au (-1) 1 0 0).tied=_;rw[ld.1];show c.ai.tied=_;have:=g.tied;omega
 · rw [if_neg ej] at hj;have gj:=o.hg.jx hj;have hne:((k:Int))≠(j:Int):=by omega
   rw[ei,qt (.inr (by rw[o.ah]; exact hne)),qt (.inr (by rw[q4]; exact hne))] at s2;refine gj.other o.hg.ae dn rfl rfl rfl gj.kD (fun z hz=> ?_) (by omega) (by have:=gj.held; omega) (by have:=gj.tied; omega);rw[hm]
   constructor
   · rintro(rfl | h)
     · exact(hne (q4.symm.trans hz)).elim
     · exact h.1
   · intro h;exact .inr ⟨h,o.one h fun e=>hne (by rw[←o.ah,←e]; exact hz)⟩
end
theorem PS {h:al} (hg:HG h) {k:Nat} {c:bh} (hk:h.cabins[k]? = some c) (hn:sS h c≠0):∃i p,cE h i k p c∧p.st=1∧p.au≤c.ai.free∧p.id=sS h c∧eO h (sS h c)=p:=by
 have g:=hg.jx hk;rw[sS] at hn ⊢;rcases iC (qc c.ai.free (kF h)) c.row with⟨e,_⟩ | ⟨j,hj,e,e1,_⟩
 · have e:kE c.row c.ai.free (kF h) = -1:=e;rw[e,if_pos (by omega)] at hn;exact(hn rfl).elim
 · have e:kE c.row c.ai.free (kF h)=(j:Int):=e;rw[e,if_neg (by omega),Int.toNat_natCast,List.getElem?_eq_getElem hj,Option.getD_some];have hm:=List.getElem_mem hj;have xU:∃z∈h.ae,z.ah=(k:Int)∧z.st=1∧c.row[j]=jR h.rules z h.now:=(vM hg.ae).1 (by rw[←g.row]; exact hm);obtain⟨z,hz,hc,hs,ez⟩:=xU;rw[ez] at e1 ⊢
   have e1:z.au≤c.ai.free:=by
    simp only[qc,Bool.and_eq_true,decide_eq_true_eq] at e1;exact e1.1
   obtain⟨i,hi,e2,e3⟩:=Cm (oG hg.ae) hz;refine⟨i,z,⟨hg,by rw[List.getElem?_eq_getElem hi,e3],hk,hc,(hg.ae.ok z hz).1,e2⟩,hs,e1,rfl, ?_⟩;show(h.ae[(bq h.ae z.id).toNat]?).getD default=z;rw[e2,Int.toNat_natCast,List.getElem?_eq_getElem hi,e3]; rfl
theorem HG.small {h:al} (hg:HG h):bJ h:=by
 have hr:=fv hg.rules;have h1:=hr.len;have h2:=hg.dy;have h3:=hg.iX;have h4:=qo hg;have h5:=hg.bO;have h6:=hr.bO;refine⟨?_, ?_,⟨?_,fun c hc=> ?_⟩, ?_, ?_⟩
 · show _≤1048576; omega
 · show _≤1048576; omega
 · show _≤1048576; omega
 · obtain⟨k,hk,rfl⟩:=List.getElem_of_mem hc;have r:=rA hg (List.getElem?_eq_getElem hk);have a1:=r.bB;have a2:=r.room;have a3:=hr.room;have w:=wG r.kG;refine⟨by show _≤1048576; omega,by show _≤1048576; rw[w.len]; omega,fun y hy=> ?_⟩
   have :y.length≤(h.cabins[k]).spoke.flatten.length:=by
    have h2:∀{w:List (List ay)} {l:List ay},l∈w→l.length≤w.flatten.length:=by
     intro w l hl
     induction w with
     | nil=>cases hl
     | cons a w ih=>
       simp only[List.flatten_cons,List.length_append];rcases List.mem_cons.1 hl with rfl | hl
       · omega
       · have:=ih hl; omega
    exact h2 hy
   have w2:(h.cabins[k]).spoke.flatten.length≤10:=w.dy;show _≤1048576; omega
 · show _≤1048576; omega
 · show _≤1048576; omega
def dI:List Int→al→al
 | [],E=>E
 | d::ds,E=>dI ds (fM E (eO E d))
def f_ (h:al) (k:Int):al:=dI (b0 h k) h
theorem Ip:∀(ds:List Int) (d:Int) (E:al),dI (ds ++ [d]) E=fM (dI ds E) (eO (dI ds E) d)
 | [],_,_=>rfl
 | x::ds,d,E=>Ip ds d (fM E (eO E x))
theorem Iq {ds:List Int} {i:Nat} (hi:i<ds.length) (E:al):dI (ds.take (i+1)) E=fM (dI (ds.take i) E) (eO (dI (ds.take i) E) ds[i]):=by
 rw[List.take_add_one,List.getElem?_eq_getElem hi]; exact Ip _ _ _
structure jX (h:al) (k:Nat) (ds:List Int) (E:al):Prop where
 hg:HG E
 rules:E.rules=h.rules
 now:E.now=h.now
 len:E.cabins.length=h.cabins.length
 todo:E.todo=h.todo
 aA:E.aA=h.aA
 nd:ds.Pairwise fun a b=>a≠b
 rem:∀d∈ds,∃p∈E.ae,p.id=d∧p.ah=(k:Int)∧p.st=2
theorem jX.start {h:al} (hg:HG h) {k:Nat} {c:bh} (hk:h.cabins[k]? = some c):jX h k (ta c h.now) h:=by
 have g:=hg.jx hk;refine⟨hg,rfl,rfl,rfl,rfl,rfl, ?_,fun d hd=> ?_⟩
 · rw[ta,fY,List.pairwise_map];refine List.Pairwise.filter _ ?_;rw[cB,if_pos g.kG];exact((Ca (lt:=bf) (a_ c.spoke)).pairwise_iff (R:=fun a b=>a.pid≠b.pid) (fun {a b} q e=>q e.symm)).2 (wG g.kG).ne
 · rw[ta,fY] at hd;obtain⟨q,hq,rfl⟩:=List.mem_map.1 hd;have hq:=(List.mem_filter.1 hq).1;rw[g.pins,rC] at hq;obtain⟨z,hz,hc,hs,rfl⟩:=hq;exact⟨z,hz,rfl,hc,hs⟩
theorem jX.at_ {h:al} {k:Nat} {d:Int} {ds:List Int} {E:al} (I:jX h k (d::ds) E) (hk:k<h.cabins.length):∃i c,cE E i k (eO E d) c∧(eO E d).st=2∧(eO E d).id=d∧bq E.ae d=(i:Int):=by
 obtain⟨p,hp,e1,e2,e3⟩:=I.rem d List.mem_cons_self;obtain⟨i,hi,e4,e5⟩:=Cm (oG I.hg.ae) hp;rw[e1] at e4
 have ep:eO E d=p:=by
  show(E.ae[(bq E.ae d).toNat]?).getD default=p;rw[e4,Int.toNat_natCast,List.getElem?_eq_getElem hi,e5]; rfl
 have bw:k<E.cabins.length:=by rw[I.len]; exact hk
 rw[ep];exact⟨i,E.cabins[k],⟨I.hg,by rw[List.getElem?_eq_getElem hi,e5],List.getElem?_eq_getElem bw,e2,(I.hg.ae.ok p hp).1,by rw[e1]; exact e4⟩,e3,e1,e4⟩
theorem jX.step {h:al} {k:Nat} {d:Int} {ds:List Int} {E:al} (I:jX h k (d::ds) E) (hk:k<h.cabins.length):jX h k ds (fM E (eO E d)):=by
 obtain⟨i,c,o,h2,mj,_⟩:=I.at_ hk;obtain⟨k1,k2,k3,k4,k5⟩:=o.mJ;obtain⟨n1,n2⟩:=List.pairwise_cons.1 I.nd;refine⟨o.Io h2,k1.trans I.rules,k2.trans I.now,k3.trans I.len,k4.trans I.todo,k5.trans I.aA,n2,fun x hx=> ?_⟩;obtain⟨p,hp,e1,e2,e3⟩:=I.rem x (List.mem_cons_of_mem _ hx);exact⟨p,o.stay hp (by rw[e1,mj]; exact fun e=>n1 x hx e.symm),e1,e2,e3⟩
theorem Ir {h:al} {k:Nat} (hk:k<h.cabins.length):∀(ds:List Int) (E:al),jX h k ds E→jX h k [] (dI ds E)
 | [],_,I=>I
 | d::ds,E,I=>Ir hk ds (fM E (eO E d)) (I.step hk)
theorem yh {h:al} {k:Int} (hv:ew h k=true):HG h∧∃(n:Nat) (c:bh),h.cabins[n]? = some c∧k=(n:Int):=by
 simp only[ew,Bool.and_eq_true] at hv;obtain⟨h1,h2⟩:=hv;have h2:=bF h2;obtain⟨n,rfl⟩:∃n:Nat,k=(n:Int):=⟨k.toNat,by omega⟩;have hn:n<h.cabins.length:=by omega
 exact⟨iD.1 h1,n,h.cabins[n],List.getElem?_eq_getElem hn,rfl⟩
theorem Is {h:al} (hg:HG h) {n:Nat} (hn:n<h.cabins.length):ew h (n:Int)=true:=by
 rw[ew,iD.2 hg];simp only[aj,Bool.and_eq_true,decide_eq_true_eq,true_and];exact⟨by omega,by omega⟩
theorem Cr {h:al} {k:Int} (hv:ew h k=false):b0 h k = []:=by rw[b0,hv]; rfl
theorem It {h:al} {n:Nat} {c:bh} (hg:HG h) (hk:h.cabins[n]? = some c):b0 h (n:Int)=ta c h.now:=by
 rw[b0,if_pos (Is hg (bD hk)),nk hk]
theorem PT {h:al} {k:Int} {i:Nat} (hi:i<(b0 h k).length):∃n:Nat,k=(n:Int)∧n<h.cabins.length∧jX h n ((b0 h k).drop i) (dI ((b0 h k).take i) h):=by
 have hv:ew h k=true:=by
  cases e:ew h k with
  | true=>rfl
  | false=>rw[Cr e] at hi; cases hi
 obtain⟨hg,n,c,hk,rfl⟩:=yh hv;have hn:=bD hk;refine⟨n,rfl,hn, ?_⟩
 have key:∀i,i≤(b0 h (n:Int)).length→jX h n ((b0 h (n:Int)).drop i) (dI ((b0 h (n:Int)).take i) h):=by
  intro i
  induction i with
  | zero=>
    intro _;rw[It hg hk];exact jX.start hg hk
  | succ i ih=>
    intro hi;have I:=ih (by omega);rw[←List.getElem_cons_drop (by omega:i<(b0 h (n:Int)).length)] at I;rw[Iq (by omega:i<(b0 h (n:Int)).length)];exact I.step hn
 exact key i (by omega)
theorem Iu {h:al} {n:Nat} (hg:HG h) (hn:n<h.cabins.length):jX h n [] (f_ h (n:Int)):=by
 have hk:=List.getElem?_eq_getElem hn;rw[f_,It hg hk];exact Ir hn _ _ (jX.start hg hk)
theorem Iv {h:al} (hs:bJ h) (k:Int):bJ (f_ h k):=by
 cases hv:ew h k with
 | false=>rw[f_,Cr hv]; exact hs
 | true=>
   obtain⟨hg,n,c,hk,rfl⟩:=yh hv;exact(Iu hg (bD hk)).hg.small
def gO (h:al) (k:Int):al:=if eh h k=0 then h else oH h k (eO h (eh h k))
theorem PU {h:al} {n:Nat} {c:bh} (hg:HG h) (hk:h.cabins[n]? = some c):eh h (n:Int)=sS h c:=by
 rw[eh,if_pos (Is hg (bD hk)),nk hk]
theorem Iw {h:al} {k:Int} (hv:¬eh h k=0):∃(n:Nat) (c:bh) (i:Nat) (p:ax),k=(n:Int)∧cE h i n p c∧p.st=1∧p.au≤c.ai.free∧p.id=eh h k∧eO h (eh h k)=p:=by
 have hc:ew h k=true:=by
  cases e:ew h k with
  | true=>rfl
  | false=>rw[eh,e] at hv; exact absurd rfl hv
 obtain⟨hg,n,c,hk,rfl⟩:=yh hc;have e:=PU hg hk;rw[e] at hv ⊢;obtain⟨i,p,h1,h2,h3,h4,h5⟩:=PS hg hk hv;exact⟨n,c,i,p,rfl,h1,h2,h3,h4,h5⟩
def gK (E:al) (k:Int):Nat:=(aE E k).row.length
def jb:Nat→Int→al→List Int→al × List Int
 | 0,_,E,ids=>(E,ids)
 | n+1,k,E,ids=>if eh E k=0 then(E,ids) else jb n k (gO E k) (ids ++ [eh E k])
def nn (k:Int) (E:al) (ids:List Int):al × List Int:=jb (gK E k+1) k E ids
def fB (h:al) (k:Int):al × List Int:=nn k (f_ h k) []
theorem Iy {k:Int} {E:al} {ids:List Int} (h:eh E k=0):nn k E ids=(E,ids):=if_pos h
theorem rE {E:al} {k:Int} (hv:¬eh E k=0):HG E∧HG (gO E k)∧(gO E k).rules=E.rules∧(gO E k).now=E.now∧(gO E k).cabins.length=E.cabins.length∧(gO E k).todo=E.todo∧(gO E k).aA=E.aA∧gK (gO E k) k+1=gK E k∧gK E k≤10:=by
 obtain⟨n,c,i,p,rfl,o,st,fr,bm,ep⟩:=Iw hv;have e:gO E (n:Int)=oH E (n:Int) p:=by rw[gO,if_neg hv,ep]
 have hk:=bD o.hk;rw[e,Cq o];have h1:=(o.offer st fr).1;rw[Cq o] at h1;refine⟨o.hg,h1,rfl,rfl,List.length_set,rfl,rfl, ?_, ?_⟩
 · have a1:aE {E with ae:=E.ae.set i (hG E p),cabins:=E.cabins.set n (tf E c p)} (n:Int)=tf E c p:=by
    show((E.cabins.set n (tf E c p))[((n:Int)).toNat]?).getD default=_;rw[Int.toNat_natCast,List.getElem?_set]; simp[hk]
   rw[gK,a1,gK,nk o.hk];exact PQ (o.aH st) rfl
 · rw[gK,nk o.hk];have r:=rA o.hg o.hk;have:=r.bB;have:=r.room;have:=(fv o.hg.rules).room;omega
theorem PV {k:Int} {E:al} {ids:List Int} (hv:¬eh E k=0):nn k E ids=nn k (gO E k) (ids ++ [eh E k]):=by
 have h1:=(rE hv).2.2.2.2.2.2.2.1;rw[nn,jb,if_neg hv,nn,h1]
theorem Iz {w:List (List ay)} (h:jO w) (p:ay):jO (iK w p):=by
 unfold iK; split
 · refine⟨by rw[List.length_set]; exact h.1,fun x hx=> ?_⟩;rcases List.mem_or_eq_of_mem_set hx with q | rfl
   · exact h.2 x q
   · refine Nat.le_trans (yg _ _).length_le ?_;unfold bG;rw[List.getD_eq_getElem?_getD];cases hq:w[eZ p]? with
     | none=>exact Nat.zero_le _
     | some l=>exact h.2 l (List.mem_of_getElem? hq)
 · exact h
theorem qv {h:al} (hs:bJ h) {k:Int} {c:bh} (hc:ln c):bJ (bU h k c):=
 ⟨hs.1,hs.2.1,PE hs.2.2.1 hc,hs.2.2.2.1,hs.2.2.2.2⟩
theorem PW {h:al} (hs:bJ h) {l:List ax} (hl:l.length≤aS):bJ {h with ae:=l}:=⟨hs.1,hl,hs.2.2.1,hs.2.2.2.1,hs.2.2.2.2⟩
theorem vP {h:al} (hs:bJ h) {l:List Int} (hl:l.length≤aS):bJ {h with todo:=l}:=⟨hs.1,hs.2.1,hs.2.2.1,hl,hs.2.2.2.2⟩
theorem kI {h:al} (hs:bJ h) (k:Int):ln (aE h k):=by
 unfold aE;cases q:h.cabins[k.toNat]? with
 | none=>exact⟨Nat.zero_le _,Nat.zero_le _,fun y hy=>by cases hy⟩
 | some c=>exact hs.2.2.1.2 c (List.mem_of_getElem? q)
theorem PX {l:List ax} (h:l.length≤aS) (id:Int):(fX l id).length≤aS:=Nat.le_trans (yg _ _).length_le h
theorem IA {h:al} (hs:bJ h) (p:ax):bJ (hC h p):=by
 rw[hC,lC];have h1:bJ {h with ae:=fX h.ae p.id}:=PW hs (PX hs.2.1 _)
 split
 · exact h1
 · exact qv h1 ⟨(kI h1 _).1,(kI h1 _).2⟩
theorem PY (h:al) (p:ax):(hC h p).todo=h.todo:=(lE _ _).2.2.2.2.1
theorem PZ {h:al} (hs:bJ h) (p:ax):bJ (dE h p):=
 qv hs ⟨(kI hs _).1,Iz (kI hs _).2 _⟩
theorem vQ {l:List Int} {n:Nat} (h:l.length≤n) (hn:n+1≤1048576) (k:Int):(fj l k).length≤aS:=by
 have:=xZ l k;show _≤1048576;omega
theorem P1 {h:al} (hs:bJ h) (id:Int):bJ (th h id):=by
 unfold th; split
 · rename_i hv;obtain⟨i,k,p,c,o,mj,ep⟩:=IB hv;rw[ep];have ht:=qo o.hg;refine IA ?_ p
   split
   · exact vP (PZ hs p) (vQ ht (by decide) _)
   · exact qv hs ⟨Nat.le_trans (yg _ _).length_le (kI hs _).1,(kI hs _).2⟩
 · exact hs
theorem P2 {h:al} (hs:bJ h) (id:Int):bJ (tj h id):=by
 unfold tj; split
 · rename_i hv;obtain⟨i,k,p,c,o,mj,ep,_⟩:=yi (q:=np id) (.inl rfl) hv;have ep:eO h id=p:=ep;rw[ep];have ht:=qo o.hg;have h1:bJ (hM h p):=qv hs ⟨(kI hs _).1,Iz (kI hs _).2 _⟩;have h2:bJ (hC (hM h p) p):=IA h1 p;have h3:(hC (hM h p) p).todo.length≤4:=by rw[PY]; exact ht
   unfold yj; split
   · exact h2
   · exact vP (qv h2 (k:=p.aq) (c:={aE (hC (hM h p) p) p.aq with ai:=bW (aE (hC (hM h p) p) p.aq).ai p.au 1 0 (-1) 0}) (kI h2 p.aq)) (vQ h3 (by decide) _)
 · exact hs
theorem P3 {h:al} (hs:bJ h) (id:Int):bJ (tn h id):=by
 unfold tn; split
 · rename_i hv;obtain⟨i,k,p,c,o,mj,ep,st⟩:=yi (q:=nq id) (.inr rfl) hv;have ep:eO h id=p:=ep;rw[ep];have hg:=o.Io st;exact vP hg.small (vQ (qo hg) (by decide) _)
 · exact hs
theorem P4 {h:al} (hs:bJ h) (id ah aq au aT:Int):bJ (tp h id ah aq au aT):=by
 unfold tp; split
 · rename_i hv;obtain⟨k,c,o⟩:=IC hv;generalize e_ h id ah aq au aT=p at o;have ht:=qo o.hg
   have hp:(gM h.ae p).length≤aS:=by
    have h1:=o.hg.dy;have h2:=Hn h.ae p.id;unfold gM
    split
    · rw[List.length_set]; exact hs.2.1
    · show _≤1048576;rw[List.length_append,List.length_cons,List.length_take,List.length_drop]; omega
   have hr:(aE h p.ah).row.length≤10:=by
    rw[o.mi];have r:=rA o.hg o.hk;have:=r.bB;have:=r.room;have:=(fv o.hg.rules).room;omega
   have h1:bJ (ID h p):=⟨hs.1,hp,hs.2.2.1,hs.2.2.2.1,hs.2.2.2.2⟩
   have h2:bJ (jY h p):=qv h1 ⟨by
    show(bE bd _ (aE h p.ah).row).length≤1048576;rw[tX]; omega,(kI hs p.ah).2⟩
   have h3:bJ (vR (jY h p) p):=by
    unfold vR; split
    · exact h2
    · exact qv h2 ⟨(kI h2 _).1,(kI h2 _).2⟩
   exact vP h3 (vQ ht (by decide) _)
 · exact hs
theorem P5 {h:al} (hs:bJ h) (k:Int):bJ (gO h k):=by
 by_cases hv:eh h k=0
 · rw[gO,if_pos hv]; exact hs
 · exact(rE hv).2.1.small
theorem P6 {h:al} (hs:bJ h) (k:Int):bJ (fB h k).1∧(fB h k).2.length≤11:=by
 have h1:=Iv hs k
 by_cases hv:eh (f_ h k) k=0
 · rw[fB,Iy hv]; exact⟨h1,Nat.zero_le _⟩
 · have h2:=(rE hv).2.2.2.2.2.2.2.2;rw[fB,nn]
   have key:∀{n:Nat} {E:al} {ids:List Int},bJ E→bJ (jb n k E ids).1∧(jb n k E ids).2.length≤ids.length+n:=by
    intro n
    induction n with
    | zero=>intro E ids h; exact⟨h,by show ids.length≤_; omega⟩
    | succ n ih=>
      intro E ids h;unfold jb; split
      · exact⟨h,by show ids.length≤_; omega⟩
      · have:=ih (ids:=ids ++ [eh E k]) (P5 h k);rw[List.length_append,List.length_singleton] at this;exact⟨this.1,by omega⟩
   have:=key (n:=gK (f_ h k) k+1) (ids:=[]) h1;exact⟨this.1,by have:=this.2; simp only[List.length_nil] at this; omega⟩
end Go.Proofs.YtpklefhdkkegiaaGreat

