/- Parts of a proof. No conditions. -/

import Derived.Test.YtpklefhdkkegiaaGreatG23
import Derived.Test.YtpklefhdkkegiaaGreatG22
import Derived.Test.YtpklefhdkkegiaaGreatG20
import Derived.Test.YtpklefhdkkegiaaGreatG19
set_option linter.unusedSimpArgs false
set_option linter.unusedVariables false
namespace Go.Proofs.YtpklefhdkkegiaaGreat
open Go
set_option maxRecDepth 100000
def dG (p:ax):aC:=⟨p.dH,p.id⟩
theorem LK {α:Type} {lt:α→α→Bool} (h:lu lt) (z:α):lt z z=false:=by
 cases q:lt z z with
 | false=>rfl
 | true=>have:=h.as _ _ q; rw[q] at this; cases this
theorem v5 {α:Type} {lt:α→α→Bool} (h:lu lt):∀{a b:List α},(a.Pairwise fun x y=>lt x y=true)→(b.Pairwise fun x y=>lt x y=true)→(∀x,x∈a↔x∈b)→a=b
 | [],[],_,_,_=>rfl
 | [],y::b,_,_,he=>by have:=(he y).2 List.mem_cons_self; cases this
 | x::a,[],_,_,he=>by have:=(he x).1 List.mem_cons_self; cases this
 | x ::a,y::b,ha,hb,he=>by
   obtain⟨a1,a2⟩:=List.pairwise_cons.1 ha;obtain⟨b1,b2⟩:=List.pairwise_cons.1 hb
   have e:x=y:=by
     rcases List.mem_cons.1 ((he x).1 List.mem_cons_self) with q | q
     · exact q
     rcases List.mem_cons.1 ((he y).2 List.mem_cons_self) with r | r
     · exact r.symm
     have:=h.as _ _ (b1 x q);rw[a1 y r] at this; cases this
   subst e
   congr 1
   refine v5 h a2 b2 fun z=>⟨fun hz=> ?_,fun hz=> ?_⟩
   · rcases List.mem_cons.1 ((he z).1 (List.mem_cons_of_mem _ hz)) with rfl | q
     · have:=a1 z hz; rw[LK h] at this; cases this
     · exact q
   · rcases List.mem_cons.1 ((he z).2 (List.mem_cons_of_mem _ hz)) with rfl | q
     · have:=b1 z hz; rw[LK h] at this; cases this
     · exact q
theorem LL {α:Type} {lt:α→α→Bool} {x:α}:∀{s:List α},(gl lt x s).Perm (x::s)
 | []=>List.Perm.refl _
 | a ::s=>by
   rw[gl]; split
   · exact List.Perm.refl _
   · exact((LL (s:=s)).cons a).trans (List.Perm.swap x a s)
theorem LM {α:Type} {lt:α→α→Bool} {x:α}:∀{s:List α},(bP lt x s).Perm (x::s)
 | []=>List.Perm.refl _
 | a ::s=>by
   rw[bP]; split
   · exact((LM (s:=s)).cons a).trans (List.Perm.swap x a s)
   · exact List.Perm.refl _
theorem Fs {α:Type} {lt:α→α→Bool} (l:List α):(dC lt l).Perm l:=by
 obtain⟨n,hn⟩:∃n,l.length=n:=⟨_,rfl⟩
 induction n generalizing l with
 | zero=>
   have:l = []:=List.length_eq_zero_iff.1 hn;subst this; exact List.Perm.refl _
 | succ n ih=>
   rcases List.eq_nil_or_concat l with rfl | ⟨l',x,rfl⟩
   · exact List.Perm.refl _
   · rw[List.concat_eq_append,tv];exact LL.trans (((ih l' (by simpa using hn)).cons x).trans (List.perm_append_singleton x l').symm)
theorem Ft {α:Type} {lt:α→α→Bool} (h:lu lt) {l:List α} {R:α→α→Prop} (sym:∀a b,R a b→R b a) (aT:∀a b,lt b a=false→R a b→lt a b=true) (hl:l.Pairwise R):(dC lt l).Pairwise fun a b=>lt a b=true:=by
 have h1:=zr h l;have h2:(dC lt l).Pairwise R:=((Fs l).pairwise_iff (fun {a b} =>sym a b)).2 hl;exact(h1.and h2).imp fun {a b} q=>aT a b q.1 q.2
theorem Bc {α:Type} {lt:α→α→Bool} (h:lu lt) {e:α}:∀{l:List α},(l.Pairwise fun a b=>lt a b=true)→(∀y∈l,lt y e=false→lt e y=true)→(bP lt e l).Pairwise fun a b=>lt a b=true
 | [],_,_=>List.pairwise_singleton _ _
 | a ::s,hl,hn=>by
   obtain⟨l1,l2⟩:=List.pairwise_cons.1 hl;rw[bP]
   split
   · rename_i aQ;refine List.pairwise_cons.2 ⟨fun b hb=> ?_,Bc h l2 fun y hy=>hn y (List.mem_cons_of_mem _ hy)⟩;rcases rj.1 hb with rfl | hb
     · exact aQ
     · exact l1 b hb
   · rename_i aQ;have aQ:lt e a=true:=hn a List.mem_cons_self (by simpa using aQ);refine List.pairwise_cons.2 ⟨fun b hb=> ?_,hl⟩;rcases List.mem_cons.1 hb with rfl | hb
     · exact aQ
     · exact h.tr _ _ _ aQ (l1 b hb)
theorem lX {R:bn} {now aA:Int} {l:List ax} (h:dq R now aA l):l.Pairwise fun a b=>a.id≠b.id:=h.fT.imp fun {a b:ax} q=>Int.ne_of_lt q
theorem Tz {R:bn} {now aA:Int} {l:List ax} (h:dq R now aA l):l.Pairwise fun a b=>a.aA≠b.aA:=h.fair.imp fun {a b} q e=>by simp[gI,e] at q
theorem LN {R:bn} {now aA:Int} {l:List ax} (h:dq R now aA l) (k:Int):(fJ R k now l).Pairwise fun a b=>a.aA≠b.aA∧a.aZ≠b.aZ:=by
 rw[fJ,List.pairwise_map,List.pairwise_filter];refine((Tz h).and (lX h)).imp fun {a b} q ha hb=> ?_;simp only[Bool.and_eq_true] at ha hb;rw[cD,if_pos ha.1,cD,if_pos hb.1]; exact q
theorem pL {R:bn} {now aA:Int} {l:List ax} (h:dq R now aA l) (k:Int):(fK R l k now).Pairwise fun a b=>bd a b=true:=
 Ft oJ (R:=fun a b=>a.aA≠b.aA∧a.aZ≠b.aZ) (fun a b q=>⟨fun e=>q.1 e.symm,fun e=>q.2 e.symm⟩) (fun a b q1 q2=>A_ q1 (fun e=>q2.1 e.symm)) (LN h k)
theorem pM {R:bn} {now aA:Int} {l:List ax} (h:dq R now aA l) {k:Int} {y:Entry}:y∈fK R l k now↔∃z∈l,z.ag=k∧z.st=1∧y=gM R z now:=by
 rw[fK,wU,fJ,List.mem_map]
 constructor
 · rintro⟨z,hz,rfl⟩
   obtain⟨z1,z2⟩:=List.mem_filter.1 hz;simp only[Bool.and_eq_true,beq_iff_eq] at z2;have z3:=z2.1;simp only[fq,Bool.and_eq_true,beq_iff_eq] at z3;exact⟨z,z1,z2.2,z3.2,by rw[cD,if_pos z2.1]⟩
 · rintro⟨z,hz,hc,hs,rfl⟩
   have e:fq R z now=true:=by rw[fq,(h.ok z hz).1,hs]; rfl
   exact⟨z,List.mem_filter.2 ⟨hz,by rw[e,hc]; simp⟩,by rw[cD,if_pos e]⟩
theorem TA {R:bn} {now aA:Int} {l:List ax} (h:dq R now aA l) (k:Int):gO (fK R l k now):=by
 refine⟨fun e he=> ?_,pL h k, ?_⟩
 · obtain⟨z,hz,hc,hs,rfl⟩:=(pM h).1 he;have ok:=(h.ok z hz).1;have:=Fc ok hs
   rwa [ud ok hs] at this
 · have:=((Fs (lt:=bd) (fJ R k now l)).pairwise_iff (R:=fun a b=>a.aA≠b.aA∧a.aZ≠b.aZ) (fun {a b} q=>⟨fun e=>q.1 e.symm,fun e=>q.2 e.symm⟩)).2 (LN h k);exact this.imp fun {a b} q=>q.2
theorem mr {l:List ax} {k:Int} {y:aC}:y∈gH l k↔∃z∈l,z.ag=k∧z.st=2∧y=dG z:=by
 rw[gH,wU,ga,List.mem_map]
 constructor
 · rintro⟨z,hz,rfl⟩
   obtain⟨z1,z2⟩:=List.mem_filter.1 hz;simp only[Bool.and_eq_true,beq_iff_eq] at z2;exact⟨z,z1,z2.2,z2.1,rfl⟩
 · rintro⟨z,hz,hc,hs,rfl⟩
   exact⟨z,List.mem_filter.2 ⟨hz,by rw[hs,hc]; simp⟩,rfl⟩
theorem Fu {a b:aC} (h:bu b a=false) (ht:a.pid≠b.pid):bu a b=true:=by
 simp only[bu,Bool.or_eq_false_iff,Bool.and_eq_false_iff,decide_eq_false_iff_not,beq_eq_false_iff_ne] at h;simp only[bu,Bool.or_eq_true,Bool.and_eq_true,decide_eq_true_eq,beq_iff_eq];omega
theorem ug {R:bn} {now aA:Int} {l:List ax} (h:dq R now aA l) (k:Int):(gH l k).Pairwise fun a b=>bu a b=true:=by
 refine Ft jQ (R:=fun a b=>a.pid≠b.pid) (fun a b q e=>q e.symm) (fun a b q1 q2=>Fu q1 q2) ?_;rw[ga,List.pairwise_map,List.pairwise_filter];exact(lX h).imp fun {a b} q _ _=>q
theorem Fv {w:List (List aC)} (h:bw w=true) {q:aC}:q∈bB w↔q∈bf w:=by rw[bB,if_pos h,wU]
theorem TB {w:List (List aC)} (h:bw w=true):(bB w).Pairwise fun a b=>bu a b=true:=by
 rw[bB,if_pos h];exact Ft jQ (R:=fun a b=>a.pid≠b.pid) (fun a b q e=>q e.symm) (fun a b q1 q2=>Fu q1 q2) (wG h).ne
theorem Fw {w:List (List aC)} {k:Nat} (hk:k<w.length) (x:List aC):bf (w.set k x)=(w.take k).flatten++(x++(w.drop (k+1)).flatten):=by
 rw[bf,List.set_eq_take_append_cons_drop,if_pos hk,List.flatten_append,List.flatten_cons]
theorem Fx {w:List (List aC)} {k:Nat} (hk:k<w.length):bf w=(w.take k).flatten++(w[k]++(w.drop (k+1)).flatten):=by
 have:=Fw hk w[k]
 rwa [List.set_getElem_self hk] at this
theorem TC {w:List (List aC)} (h:bw w=true) {p:aC} (hp:p∈bf w):∃hk:fN p<w.length,p∈w[fN p]:=by
 obtain⟨l,hl,p8⟩:=List.mem_flatten.1 hp;obtain⟨k,hk,rfl⟩:=List.getElem_of_mem hl;have e:=(wG h).at_ k _ (List.getElem?_eq_getElem hk) p p8;have e2:fN p=k:=by rw[fN,e]; rfl
 subst e2;exact⟨hk,p8⟩
theorem sQ {w:List (List aC)} {p:aC} (hk:fN p<w.length):bQ w p=w[fN p]:=by
 show w.getD (fN p) []=_;rw[List.getD_eq_getElem?_getD,List.getElem?_eq_getElem hk]; rfl
theorem TD {w:List (List aC)} (h:bw w=true) {p:aC} (hp:p∈bf w):bw (ik w p)=true∧∀q,q∈bf (ik w p)↔q∈bf w∧q≠p:=by
 obtain⟨hk,hm⟩:=TC h hp;have g:=wG h;have h1:1≤p.tm:=A2 (g.ok p hp);rcases iC (fun q:aC=>decide (q=p)) (bQ w p) with⟨_,e⟩ | ⟨i,hi,e,e1,_⟩
 · have:=e p (by rw[sQ hk]; exact hm);simp at this
 have e:kI (bQ w p) p=(i:Int):=e;have eb:ij w p=true:=by rw[vW h h1]; exact decide_eq_true (by omega)
 have e1:(bQ w p)[i]=p:=of_decide_eq_true e1;rw[←E4 e eb]
 have hs:bQ w p=(bQ w p).take i++p::(bQ w p).drop (i+1):=by
   have:=List.getElem_cons_drop hi;rw[e1] at this;rw[this,List.take_append_drop]
 have pm:(bf w).Perm (p::bf (w.set (fN p) ((bQ w p).take i++(bQ w p).drop (i+1)))):=by
   rw[Fw hk,Fx hk,←sQ hk]
   conv=>lhs; rw[hs]
   generalize (bQ w p).take i=a;generalize (bQ w p).drop (i+1)=b;generalize (w.take (fN p)).flatten=c;generalize (w.drop (fN p+1)).flatten=d;have e:c++(a++p::b++d)=(c++a)++p::(b++d):=by simp
   have e2:c++(a++b++d)=(c++a)++(b++d):=by simp
   rw[e,e2];exact List.perm_middle
 have ne:(p::bf (w.set (fN p) ((bQ w p).take i++(bQ w p).drop (i+1)))).Pairwise fun a b=>a.pid≠b.pid:=(pm.pairwise_iff (fun {a b} q e=>q e.symm)).1 g.ne;obtain⟨n1,n2⟩:=List.pairwise_cons.1 ne
 have sub:((bQ w p).take i++(bQ w p).drop (i+1)).Sublist (bQ w p):=by
   have h:=List.Sublist.append (List.Sublist.refl ((bQ w p).take i)) (List.drop_sublist_drop_left (bQ w p) (Nat.le_succ i))
   rwa [List.take_append_drop] at h
 refine⟨K4.2 ⟨by rw[List.length_set]; exact g.len, ?_,fun q hq=>g.ok q ((pm.mem_iff).2 (List.mem_cons_of_mem _ hq)),n2,fun j l hl q hq=> ?_,fun l hl=> ?_⟩,fun q=> ?_⟩
 · have:=pm.length_eq;have:=g.dj;rw[List.length_cons] at *; omega
 · rw[List.getElem?_set] at hl
   split at hl
   · rename_i ej;cases hl;subst ej;refine g.at_ (fN p) (bQ w p) (by rw[sQ hk]; exact List.getElem?_eq_getElem hk) q (sub.subset hq)
   · exact g.at_ j l hl q hq
 · rcases List.mem_or_eq_of_mem_set hl with q | rfl
   · exact g.fT l q
   · exact(g.fT _ (by rw[sQ hk]; exact List.getElem_mem hk)).sublist sub
 · rw [pm.mem_iff,List.mem_cons]
   constructor
   · intro hq;exact⟨.inr hq,fun e=>n1 q hq (by rw[e])⟩
   · rintro⟨rfl | hq,hn⟩
     · exact(hn rfl).elim
     · exact hq
theorem TE {w:List (List aC)} (h:bw w=true) {p:aC} (ok:fc p=true) (hne:∀q∈bf w,q.pid≠p.pid) (dj:(bf w).length≤9):bw (kJ w p)=true∧∀q,q∈bf (kJ w p)↔q=p∨q∈bf w:=by
 have g:=wG h;have h1:=A2 ok;have hh:=ua h h1;have hk:=hh.2
 have pm:(bf (eE w p)).Perm (p::bf w):=by
  rw[eE,Fw hk,Fx hk,←sQ hk];refine(List.Perm.append_left _ (List.Perm.append_right _ LM)).trans ?_;rw[List.cons_append];exact List.perm_middle
 have gi:bw (eE w p)=true:=by
  refine K4.2 ⟨by rw[eE,List.length_set]; exact g.len, ?_,fun q hq=> ?_, ?_,fun j l hl q hq=> ?_,fun l hl=> ?_⟩
  · have:=pm.length_eq;rw[List.length_cons] at this; omega
  · rcases List.mem_cons.1 (pm.mem_iff.1 hq) with rfl | hq
    · exact ok
    · exact g.ok q hq
  · refine(pm.pairwise_iff (fun {a b} q e=>q e.symm)).2 (List.pairwise_cons.2 ⟨fun q hq e=>hne q hq e.symm,g.ne⟩)
  · rw [eE,List.getElem?_set] at hl
    split at hl
    · rename_i ej;cases hl;subst ej;rcases rj.1 hq with rfl | hq
      · show q.tm.tmod 9=((q.tm.tmod 9).toNat:Int);have:=hh.1.1; omega
      · exact g.at_ (fN p) (bQ w p) (by rw[sQ hk]; exact List.getElem?_eq_getElem hk) q hq
    · exact g.at_ j l hl q hq
  · rcases List.mem_or_eq_of_mem_set hl with q | rfl
    · exact g.fT l q
    · refine Bc jQ (g.fT _ (by rw[sQ hk]; exact List.getElem_mem hk)) fun y hy q=>Fu q (fun e=> ?_);exact hne y (by rw[Fx hk,←sQ hk]; simp[hy]) e.symm
 have eb:gq w p=true:=by rw[gq,h,gi,decide_eq_true h1]; rfl
 rw[kJ,if_pos eb];exact⟨gi,fun q=>by rw[pm.mem_iff,List.mem_cons]⟩
theorem Bd {α:Type} {l:List α} {i:Nat} (hi:i<l.length):l=l.take i++l[i]::l.drop (i+1):=by
 rw[List.getElem_cons_drop hi,List.take_append_drop]
theorem yE {l:List ax} (hd:l.Pairwise fun a b=>a.id≠b.id) {i:Nat} (hi:i<l.length) {z:ax}:z∈l.take i++l.drop (i+1)↔z∈l∧z.id≠l[i].id:=by
 have pm:l.Perm (l[i]::(l.take i++l.drop (i+1))):=by
   conv=>lhs; rw[Bd hi]
   exact List.perm_middle
 obtain⟨n1,_⟩:=List.pairwise_cons.1 ((pm.pairwise_iff (fun {a b} q e=>q e.symm)).1 hd);rw[pm.mem_iff,List.mem_cons]
 constructor
 · intro hz;exact⟨.inr hz,fun e=>n1 z hz e.symm⟩
 · rintro⟨rfl | hz,hn⟩
   · exact(hn rfl).elim
   · exact hz
theorem yF {l:List ax} (hd:l.Pairwise fun a b=>a.id≠b.id) {i:Nat} (hi:i<l.length) {q z:ax}:z∈l.set i q↔z=q∨(z∈l∧z.id≠l[i].id):=by
 rw[←yE hd hi,List.set_eq_take_append_cons_drop,if_pos hi,List.mem_append,List.mem_append,List.mem_cons]
 constructor
 · rintro(h | h | h)
   · exact .inr (.inl h)
   · exact .inl h
   · exact .inr (.inr h)
 · rintro(h | h | h)
   · exact .inr (.inl h)
   · exact .inl h
   · exact .inr (.inr h)
theorem pO {α:Type} (f:α→Nat) {l:List α} {i:Nat} (hi:i<l.length):aV f (l.take i++l.drop (i+1))+f l[i]=aV f l:=by
 conv=>rhs; rw[Bd hi]
 rw[sv,sv];show _=_+(f l[i]+aV f (l.drop (i+1)));omega
theorem v7 {α:Type} (f:α→Nat) {l:List α} {i:Nat} (hi:i<l.length) (q:α):aV f (l.set i q)+f l[i]=aV f l+f q:=by
 rw[←pO f hi,List.set_eq_take_append_cons_drop,if_pos hi,sv,sv];show aV f (l.take i)+(f q+aV f (l.drop (i+1)))+_=_;omega
theorem LO {α:Type} {R:α→α→Prop} {l:List α} (h:l.Pairwise R) {i:Nat} (hi:i<l.length) {q:α} (h1:∀x,R x l[i]→R x q) (h2:∀x,R l[i] x→R q x):(l.set i q).Pairwise R:=by
 rw[List.set_eq_take_append_cons_drop,if_pos hi];rw[Bd hi,List.pairwise_append,List.pairwise_cons] at h;obtain⟨a1,⟨a2,a3⟩,a4⟩:=h;rw[List.pairwise_append,List.pairwise_cons];refine⟨a1,⟨fun b hb=>h2 b (a2 b hb),a3⟩,fun a ha b hb=> ?_⟩;rcases List.mem_cons.1 hb with rfl | hb
 · exact h1 a (a4 a ha _ List.mem_cons_self)
 · exact a4 a ha b (List.mem_cons_of_mem _ hb)
theorem dq.cut {R:bn} {now aA:Int} {l:List ax} (h:dq R now aA l) (i:Nat):dq R now aA (l.take i++l.drop (i+1)):=by
 have sub:(l.take i++l.drop (i+1)).Sublist l:=by
  have h:=List.Sublist.append (List.Sublist.refl (l.take i)) (List.drop_sublist_drop_left l (Nat.le_succ i))
  rwa [List.take_append_drop] at h
 exact⟨fun p hp=>h.ok p (sub.subset hp),h.fT.sublist sub,h.fair.sublist sub⟩
theorem dq.set {R:bn} {now aA:Int} {l:List ax} (h:dq R now aA l) {i:Nat} (hi:i<l.length) {q:ax} (ok:bF R q now=true) (e1:q.id=l[i].id) (e2:q.aA=l[i].aA) (e3:q.since=l[i].since):dq R now aA (l.set i q):=by
 refine⟨fun p hp=> ?_,LO h.fT hi (fun x hx=>by rw[e1]; exact hx) (fun x hx=>by rw[e1]; exact hx),LO h.fair hi (fun x hx=> ?_) (fun x hx=> ?_)⟩
 · rcases List.mem_or_eq_of_mem_set hp with hp | rfl
   · exact h.ok p hp
   · exact⟨ok,by rw[e2]; exact(h.ok _ (List.getElem_mem hi)).2⟩
 · simp only[gI,e2,e3] at hx ⊢; exact hx
 · simp only[gI,e2,e3] at hx ⊢; exact hx
theorem uh {R:bn} {now aA:Int} {l:List ax} (h:dq R now aA l) {k:Int} {row:List Entry} (hs:row.Pairwise fun a b=>bd a b=true) (hm:∀y,y∈row↔∃z∈l,z.ag=k∧z.st=1∧y=gM R z now):row=fK R l k now:=
 v5 oJ hs (pL h k) fun y=>by rw[hm,pM h]
theorem Be {R:bn} {now aA:Int} {l:List ax} (h:dq R now aA l) {k:Int} {w:List (List aC)} (hw:bw w=true) (hm:∀y,y∈bf w↔∃z∈l,z.ag=k∧z.st=2∧y=dG z):bB w=gH l k:=
 v5 jQ (TB hw) (ug h k) fun y=>by rw[Fv hw,hm,mr]
def fC (c:ba) (p:ax):ba:={c with seats:=bz c.seats p.aj 1 (-1) 0 0,spoke:=ik c.spoke (dG p)}
def bN (h:ai) (k:Int) (c:ba):ai:={h with cabins:=h.cabins.set k.toNat c}
def c_ (h:ai) (p:ax):ai:=bN h p.ag (fC (aB h p.ag) p)
def j_ (c:ba) (n:Int):ba:={c with seats:=bz c.seats n 0 0 0 (-1)}
def ka (h:ai) (p:ax):ai:=if p.al = -1 then h else bN h p.al (j_ (aB h p.al) p.aj)
def cW (h:ai) (p:ax):ai:=ka {h with ae:=fu h.ae p.id} p
def kb (c:ba) (e:Entry):ba:={c with row:=bP bd e c.row}
def v8 (h:ai) (p:ax):ai:=bN h p.ag (kb (aB h p.ag) (cD h.rules p h.now))
def od (h:ai) (p:ax):ai:=v8 {c_ h p with ae:=ff h.ae (dS h.rules p h.now)} (dS h.rules p h.now)
def dz (h:ai) (p:ax):ai:=if eT h.rules p h.now=true then od h p else cW (c_ h p) p
def fU (h:ai) (p:ax):ax:={p with st:=2,dH:=h.now+h.rules.bE}
def v_ (h:ai) (c:ba) (p:ax):ba:={c with seats:=bz c.seats p.aj (-1) 1 0 0,row:=iX c.row p.id,spoke:=kJ c.spoke (dG (fU h p))}
def kL (h:ai) (k:Int) (p:ax):ai:=bN {h with ae:=ff h.ae (fU h p)} k (v_ h (aB h k) p)
theorem iZ (h:ai) (k:Int) (c:ba):(bN h k c).cabins.length=h.cabins.length:=List.length_set
theorem Bf {α:Type} (l:List α) (k:Nat) (x:α):l.set ((k:Int)).toNat x=l.set k x:=by rw[Int.toNat_natCast]
structure ln (h:ai) (p:ax) (f:Nat):Prop where
 eq:p.al=(f:Int)
 lt:f<h.cabins.length
theorem ln.of {h h':ai} {p:ax} (hl:h'.cabins.length=h.cabins.length) (hf:p.al = -1∨∃f,ln h p f):p.al = -1∨∃f,ln h' p f:=
 hf.elim .inl fun⟨f,q⟩=> .inr ⟨f,q.eq,by rw[hl]; exact q.lt⟩
theorem jt {h:ai} {k:Nat} {c:ba} (hk:h.cabins[k]? = some c):aB h (k:Int)=c:=by
 show(h.cabins[((k:Int)).toNat]?).getD default=c;rw[Int.toNat_natCast,hk]; rfl
theorem TF {h:ai} {k:Nat} {c:ba} (hk:k<h.cabins.length):aB (bN h (k:Int) c) (k:Int)=c:=by
 show((h.cabins.set ((k:Int)).toNat c)[((k:Int)).toNat]?).getD default=c;rw[Int.toNat_natCast,List.getElem?_set]; simp[hk]
theorem Fy {h:ai} {k f:Nat} {c:ba} (hne:f≠k):aB (bN h (f:Int) c) (k:Int)=aB h (k:Int):=by
 show((h.cabins.set ((f:Int)).toNat c)[((k:Int)).toNat]?).getD default=(h.cabins[((k:Int)).toNat]?).getD default;rw[Int.toNat_natCast,Int.toNat_natCast,List.getElem?_set,if_neg hne]
theorem LP {R:bn} {p:ax} {now:Int} (h:eT R p now=true):bF R (dS R p now) now=true:=by
 simp only[eT,Bool.and_eq_true,decide_eq_true_eq] at h;obtain⟨h1,h2,h3⟩:=h;have ha:=A9 h1;have hg:=m_ h1;have hr:=eB hg.rules;have q1:=hr.rest;have q2:=hg.tV;have h4:=h1;simp only[bF,Bool.and_eq_true] at h4 ⊢;obtain⟨a1,a2,a3,a4,a5,a6,a7,a8,a9,pw,Bg,Fz⟩:=h4;refine⟨a1,a2,a3,a4,a5,a6,a7,a8,a9,pw, ?_, ?_⟩
 · show ak (p.asked+1) 0 (R.tries - 1)=true;simp only[ak,Bool.and_eq_true,decide_eq_true_eq];omega
 · show((1:Int) == 1 && ak (now+R.rest) 0 (now+R.rest) || _)=true;rw[Bool.or_eq_true];left;simp only[ak,Bool.and_eq_true,decide_eq_true_eq];exact⟨rfl,by omega,by omega⟩
theorem TG {h:ai} {p:ax} (h1:bF h.rules p h.now=true):bF h.rules (fU h p) h.now=true:=by
 have hg:=m_ h1;have hr:=eB hg.rules;have q1:=hr.bE;have q2:=hg.tV;have h4:=h1;simp only[bF,Bool.and_eq_true] at h4 ⊢;obtain⟨a1,a2,a3,a4,a5,a6,a7,a8,a9,pw,Bg,Fz⟩:=h4;refine⟨a1,a2,a3,a4,a5,a6,a7,a8,a9,pw,Bg, ?_⟩;show(_ || (2:Int) == 2 && ak (h.now+h.rules.bE) 1 (h.now+h.rules.bE))=true;rw[Bool.or_eq_true];right;simp only[ak,Bool.and_eq_true,decide_eq_true_eq];exact⟨rfl,by omega,by omega⟩
theorem Bh {l:List ax} (hd:l.Pairwise fun a b=>a.id≠b.id) {p:ax} (hp:p∈l):∃i,∃h:i<l.length,br l p.id=(i:Int)∧l[i]=p:=by
 rcases iC (fun q:ax=>q.id == p.id) l with⟨_,e⟩ | ⟨i,hi,e,e1,_⟩
 · have:=e p hp;simp at this
 · refine⟨i,hi,e, ?_⟩;obtain⟨j,hj,rfl⟩:=List.getElem_of_mem hp;have hw:=List.pairwise_iff_getElem.1 hd;have e1:l[i].id=l[j].id:=by simpa using e1
   rcases Nat.lt_trichotomy i j with q | rfl | q
   · exact(hw i j hi hj q e1).elim
   · rfl
   · exact(hw j i hj hi q e1.symm).elim
theorem TH {h:ai} (hs:ph h.cabins) {k:Int} {c:ba} (hc:iS c):ph (bN h k c).cabins:=by
 refine⟨by rw[iZ]; exact hs.1,fun x hx=> ?_⟩;rcases List.mem_or_eq_of_mem_set hx with q | q
 · exact hs.2 x q
 · exact q▸hc
structure b_ (h:ai) (i k:Nat) (p:ax) (c:ba):Prop where
 hg:HG h
 hi:h.ae[i]? = some p
 hk:h.cabins[k]? = some c
 ag:p.ag=(k:Int)
 ok:bF h.rules p h.now=true
 at_:br h.ae p.id=(i:Int)
theorem EL.LQ {h:ai} {id:Int} {i k:Nat} (kn:EL h id i k) (hg:HG h):b_ h i k (h.ae[i]'kn.lt) (h.cabins[k]'kn.clt):=
 ⟨hg,List.getElem?_eq_getElem kn.lt,List.getElem?_eq_getElem kn.clt,kn.ag,kn.ok,by rw[kn.id]; exact kn.at_⟩
section
variable {h : ai} {i k : Nat} {p : ax} {c : ba}
theorem b_.lt (o:b_ h i k p c):∃hi:i<h.ae.length,h.ae[i]=p:=by
 have hi:=bC o.hi;have:=o.hi;rw[List.getElem?_eq_getElem hi] at this;exact⟨hi,by simpa using this⟩
theorem b_.mem (o:b_ h i k p c):p∈h.ae:=List.mem_of_getElem? o.hi
theorem b_.aj (o:b_ h i k p c):1≤p.aj∧p.aj≤6:=by
 have h1:=(m_ o.ok).aj;have h2:=(eB o.hg.rules).size;omega
theorem b_.one (o:b_ h i k p c) {z:ax} (hz:z∈h.ae) (hn:z≠p):z.id≠p.id:=(vY o.hg.ae hz o.mem hn).1
theorem b_.iJ (o:b_ h i k p c):aB h p.ag=c:=by rw[o.ag]; exact jt o.hk
theorem b_.lY (o:b_ h i k p c):0≤p.ag∧p.ag<(h.cabins.length:Int):=by
 have:=bC o.hk;have:=o.ag;omega
theorem b_.al (o:b_ h i k p c):p.al = -1∨∃f,ln h p f:=by
 have h1:=(iH o.ok).al;have h2:=o.hg.fL
 by_cases q:p.al = -1
 · exact .inl q
 · exact .inr ⟨p.al.toNat,by omega,by omega⟩
end
structure mv (R:bn) (now:Int) (l:List ax) (j:Nat) (c:ba):Prop where
 total:c.seats.total=R.seats.getD j 0
 room:((aV (bK (j:Int)) l:Nat):Int)≤R.room
 gn:aX c.seats=true
 row:c.row=fK R l (j:Int) now
 jZ:bw c.spoke=true
 pins:bB c.spoke=gH l (j:Int)
 held:c.seats.held=((aV (cz (j:Int)) l:Nat):Int)
 tied:c.seats.tied=((aV (cC (j:Int)) l:Nat):Int)
theorem HG.fV {h:ai} (hg:HG h) {j:Nat} {c:ba} (hj:h.cabins[j]? = some c):mv h.rules h.now h.ae j c:=by
 have r:=qN hg hj;exact⟨r.total,r.room,r.gn,r.row,r.jZ,r.pins,r.held,r.tied⟩
theorem mv.at_ {h:ai} {aA:Int} (hr:ca h.rules=true) (hp:dq h.rules h.now aA h.ae) {j:Nat} {c:ba} (g:mv h.rules h.now h.ae j c):iU h j c=true:=by
 have h1:=(eB hr).room;have h2:=g.room
 have h3:(fK h.rules h.ae (j:Int) h.now).length≤10:=by
  rw[fK,mb];exact EJ (by omega)
 have h4:dJ c.row=true:=by rw[g.row]; exact xT h3 (TA hp _)
 simp only[iU,gb,gX,Bool.and_eq_true,decide_eq_true_eq,beq_iff_eq];exact⟨g.total,g.room,⟨g.gn,h4,g.jZ⟩,g.row,g.pins,g.held,g.tied⟩
theorem HG.next {h E:ai} (hg:HG h) (e1:E.rules=h.rules) (e2:E.now=h.now) (e3:E.aA=h.aA) (e4:E.ae.length≤40) (e5:E.cabins.length=h.cabins.length) (e6:E.todo=h.todo) (e7:E.aq=h.aq)
  (hp:dq h.rules h.now h.aA E.ae) (hc:∀(j:Nat) c,E.cabins[j]? = some c→mv h.rules h.now E.ae j c):HG E:=by
 refine⟨by rw[e1]; exact hg.rules,by rw[e2]; exact hg.now,by rw[e3]; exact hg.aA,e4,by rw[e5,e1]; exact hg.fL,by rw[e1,e2,e3]; exact hp,by rw[e5,e6,e7]; exact hg.aq,by rw[e7,e1]; exact hg.bm,fun j c hj=> ?_⟩;have cS:dq E.rules E.now E.aA E.ae:=by rw[e1,e2,e3]; exact hp
 exact mv.at_ (by rw[e1]; exact hg.rules) cS (by rw[e1,e2]; exact hc j c hj)
theorem mv.other {R:bn} {now aA:Int} {l l':List ax} {j:Nat} {c c':ba} (g:mv R now l j c) (hp:dq R now aA l) (cS:dq R now aA l') (er:c'.row=c.row) (es:c'.spoke=c.spoke) (et:c'.seats.total=c.seats.total) (el:aX c'.seats=true)
   (hm:∀z,z.ag=(j:Int)→(z∈l'↔z∈l)) (z1:aV (bK (j:Int)) l'≤aV (bK (j:Int)) l) (z2:c'.seats.held=((aV (cz (j:Int)) l':Nat):Int)) (z3:c'.seats.tied=((aV (cC (j:Int)) l':Nat):Int)):mv R now l' j c':=by
 refine⟨et.trans g.total,by have:=g.room; omega,el, ?_,by rw[es]; exact g.jZ, ?_,z2,z3⟩
 · rw[er];refine uh cS (by rw[g.row]; exact pL hp _) fun y=> ?_;rw[g.row,pM hp];exact⟨fun⟨z,a,b,d⟩=>⟨z,(hm z b).2 a,b,d⟩,fun⟨z,a,b,d⟩=>⟨z,(hm z b).1 a,b,d⟩⟩
 · rw[es,g.pins];refine v5 jQ (ug hp _) (ug cS _) fun y=> ?_;rw[mr,mr];exact⟨fun⟨z,a,b,d⟩=>⟨z,(hm z b).2 a,b,d⟩,fun⟨z,a,b,d⟩=>⟨z,(hm z b).1 a,b,d⟩⟩
theorem nq {k:Int} {p:ax} (h:p.st≠2∨p.ag≠k):cz k p=0:=by
 rw[cz,if_neg];simp only[m9,Bool.and_eq_true,beq_iff_eq]
 rintro⟨a,b,_⟩
 rcases h with h | h
 · exact h a
 · exact h b
theorem wa {k:Int} {p:ax} (h1:p.st=2) (h2:p.ag=k) (h3:1≤p.aj∧p.aj≤6):cz k p=p.aj.toNat:=by
 rw[cz,if_pos];simp only[m9,Bool.and_eq_true,beq_iff_eq,ak,decide_eq_true_eq];exact⟨h1,h2,h3⟩
theorem wb {k:Int} {p:ax} (h:p.al≠k):cC k p=0:=by
 rw[cC,if_neg];simp only[lN,Bool.and_eq_true,beq_iff_eq];exact fun q=>h q.1
theorem yG {k:Int} {p:ax} (h2:p.al=k) (h3:1≤p.aj∧p.aj≤6):cC k p=p.aj.toNat:=by
 rw[cC,if_pos];simp only[lN,Bool.and_eq_true,beq_iff_eq,ak,decide_eq_true_eq];exact⟨h2,h3⟩
structure TJ (x:bA):Prop where
 total:1≤x.total∧x.total≤60
 free:0≤x.free∧x.free≤x.total
 held:0≤x.held∧x.held≤x.total
 bp:0≤x.bp∧x.bp≤x.total
 sum:x.free+x.held+x.bp=x.total
 tied:0≤x.tied∧x.tied≤x.bp
theorem lZ {x:bA}:aX x=true↔TJ x:=by
 simp only[aX,Bool.and_eq_true,ak,decide_eq_true_eq];exact⟨fun⟨a,b,c,d,e,f⟩=>⟨a,b,c,d,e,f⟩,fun⟨a,b,c,d,e,f⟩=>⟨a,b,c,d,e,f⟩⟩
theorem TK {x:bA} (h:aX x=true) {n:Int} (hn:0≤n∧n≤60) (hh:n≤x.held):bz x n 1 (-1) 0 0=⟨x.total,x.free+n,x.held - n,x.bp,x.tied⟩∧aX (bz x n 1 (-1) 0 0)=true:=by
 obtain⟨a,b,c,d,e,f⟩:=lZ.1 h;have h2:aX ⟨x.total,x.free+n,x.held - n,x.bp,x.tied⟩=true:=lZ.2 ⟨a,by constructor <;> simp only <;> omega,by constructor <;> simp only <;> omega,d,by simp only; omega,f⟩
 have e1:bG x n 1 (-1) 0 0=true:=by
  rw[bG,AS,h,h2]; simp[ak,hn.1,hn.2]
 rw[bz,if_pos e1,AS];exact⟨rfl,h2⟩
theorem TL {x:bA} (h:aX x=true) {n:Int} (hn:0≤n∧n≤60) (hh:n≤x.free):bz x n (-1) 1 0 0=⟨x.total,x.free - n,x.held+n,x.bp,x.tied⟩∧aX (bz x n (-1) 1 0 0)=true:=by
 obtain⟨a,b,c,d,e,f⟩:=lZ.1 h;have h2:aX ⟨x.total,x.free - n,x.held+n,x.bp,x.tied⟩=true:=lZ.2 ⟨a,by constructor <;> simp only <;> omega,by constructor <;> simp only <;> omega,d,by simp only; omega,f⟩
 have e1:bG x n (-1) 1 0 0=true:=by
  rw[bG,AR,h,h2]; simp[ak,hn.1,hn.2]
 rw[bz,if_pos e1,AR];exact⟨rfl,h2⟩
theorem Bi {x:bA} (h:aX x=true) {n:Int} (hn:0≤n∧n≤60) (hh:n≤x.tied):bz x n 0 0 0 (-1)=⟨x.total,x.free,x.held,x.bp,x.tied - n⟩∧aX (bz x n 0 0 0 (-1))=true:=by
 obtain⟨a,b,c,d,e,f⟩:=lZ.1 h;have h2:aX ⟨x.total,x.free,x.held,x.bp,x.tied - n⟩=true:=lZ.2 ⟨a,b,c,d,e,by constructor <;> simp only <;> omega⟩
 have e1:bG x n 0 0 0 (-1)=true:=by
  rw[bG,AW,h,h2]; simp[ak,hn.1,hn.2]
 rw[bz,if_pos e1,AW];exact⟨rfl,h2⟩
section
variable {h : ai} {i k : Nat} {p : ax} {c : ba}
theorem b_.aI (o:b_ h i k p c) (h2:p.st=2):dG p∈bf c.spoke:=by
 have g:=o.hg.fV o.hk;rw[←Fv g.jZ,g.pins,mr];exact⟨p,o.mem,o.ag,h2,rfl⟩
theorem b_.held (o:b_ h i k p c) (h2:p.st=2):p.aj≤c.seats.held:=by
 obtain⟨hi,e⟩:=o.lt;have g:=o.hg.fV o.hk;have:=pO (cz (k:Int)) hi;rw[e,wa h2 o.ag o.aj] at this;have h3:=g.held;have h4:=o.aj;omega
theorem b_.drop (o:b_ h i k p c) (h2:p.st=2):(fC c p).seats=⟨c.seats.total,c.seats.free+p.aj,c.seats.held - p.aj,c.seats.bp,c.seats.tied⟩∧aX (fC c p).seats=true∧bw (fC c p).spoke=true∧∀q,q∈bf (fC c p).spoke↔q∈bf c.spoke∧q≠dG p:=by
 have g:=o.hg.fV o.hk;have h4:=o.aj;have a:=TK g.gn (n:=p.aj) (by omega) (o.held h2);have b:=TD g.jZ (o.aI h2);exact⟨a.1,a.2,b.1,b.2⟩
theorem b_.pins (o:b_ h i k p c) {y:aC}:y∈bf c.spoke↔∃z∈h.ae,z.ag=(k:Int)∧z.st=2∧y=dG z:=by
 have g:=o.hg.fV o.hk;rw[←Fv g.jZ,g.pins,mr]
theorem b_.row (o:b_ h i k p c) {y:Entry}:y∈c.row↔∃z∈h.ae,z.ag=(k:Int)∧z.st=1∧y=gM h.rules z h.now:=by
 have g:=o.hg.fV o.hk;rw[g.row,pM o.hg.ae]
theorem yH (o:b_ h i k p c):od h p = {h with ae:=h.ae.set i (dS h.rules p h.now),cabins:=h.cabins.set k (kb (fC c p) (cD h.rules (dS h.rules p h.now) h.now))}:=by
 have hk:=bC o.hk;have e1:ff h.ae (dS h.rules p h.now)=h.ae.set i (dS h.rules p h.now):=KW o.at_;have e2:c_ h p=bN h (k:Int) (fC c p):=by rw[c_,o.iJ,o.ag]
 rw[od,e1,e2];show bN {bN h (k:Int) (fC c p) with ae:=_} p.ag (kb (aB (bN h (k:Int) (fC c p)) p.ag) _)=_;rw[o.ag,TF hk];show({h with ae:=_,cabins:=(h.cabins.set ((k:Int)).toNat _).set ((k:Int)).toNat _}:ai)=_;rw[List.set_set,Int.toNat_natCast];rfl
theorem b_.od (o:b_ h i k p c) (h2:p.st=2) (hf:eT h.rules p h.now=true):HG (od h p):=by
 obtain⟨hi,ei⟩:=o.lt;have hk:=bC o.hk;have ok:=LP hf;have g:=o.hg.fV o.hk;have hd:=lX o.hg.ae;have dr:=o.drop h2;have sz:=o.aj;generalize hq:dS h.rules p h.now=q at ok;have q1:q.id=p.id:=by rw[←hq]; rfl
 have q2:q.aA=p.aA:=by rw[←hq]; rfl
 have q3:q.since=p.since:=by rw[←hq]; rfl
 have q4:q.ag=(k:Int):=by rw[←hq]; exact o.ag
 have q5:q.st=1:=by rw[←hq]; rfl
 have q6:q.al=p.al:=by rw[←hq]; rfl
 have q7:q.aj=p.aj:=by rw[←hq]; rfl
 have cS:dq h.rules h.now h.aA (h.ae.set i q):=o.hg.ae.set hi ok (by rw[ei,q1]) (by rw[ei,q2]) (by rw[ei,q3]);have hm:∀z,z∈h.ae.set i q↔z=q∨(z∈h.ae∧z.id≠p.id):=fun z=>by rw[yF hd hi,ei]
 have ee:cD h.rules q h.now=gM h.rules q h.now:=ud ok q5;rw[yH o,hq,ee];refine o.hg.next rfl rfl rfl ?_ ?_ rfl rfl cS fun j c1 hj=> ?_
 · show(h.ae.set i q).length≤40;rw[List.length_set]; exact o.hg.dj
 · show(h.cabins.set k _).length=_;rw[List.length_set]
 show mv h.rules h.now (h.ae.set i q) j c1;have hj:(h.cabins.set k (kb (fC c p) (gM h.rules q h.now)))[j]? = some c1:=hj;rw[List.getElem?_set] at hj;have s1:=v7 (bK (j:Int)) hi q;have s2:=v7 (cz (j:Int)) hi q;have s3:=v7 (cC (j:Int)) hi q;have TM:bK (j:Int) q=bK (j:Int) h.ae[i]:=by rw[ei,bK,bK,q4,o.ag]
 have TN:cC (j:Int) q=cC (j:Int) h.ae[i]:=by rw[ei,cC,cC,lN,lN,q6,q7]
 by_cases ej:k=j
 · subst ej;rw[if_pos rfl,if_pos hk] at hj;cases hj;rw[ei,wa h2 o.ag sz,nq (.inl (by rw[q5]; decide))] at s2;have hh:=o.held h2;refine⟨?_, ?_,dr.2.1, ?_,dr.2.2.1, ?_, ?_, ?_⟩
   · show(fC c p).seats.total=_;rw[dr.1]; exact g.total
   · have:=g.room; omega
   · refine uh cS (Bc oJ (by show(c.row).Pairwise _; rw[g.row]; exact pL o.hg.ae _) fun y hy hl=>A_ hl fun e=> ?_) fun y=> ?_
     · obtain⟨z,hz,hc,hs,rfl⟩:=o.row.1 hy;have hn:z≠p:=fun e=>by rw[e,h2] at hs; cases hs
       have:=(vY o.hg.ae hz o.mem hn).2;exact this (by rw[←q2]; exact e)
     · show y∈bP bd (gM h.rules q h.now) c.row↔_;rw[rj,o.row]
       constructor
       · rintro(rfl | ⟨z,hz,hc,hs,rfl⟩)
         · exact⟨q,(hm q).2 (.inl rfl),q4,q5,rfl⟩
         · have hn:z≠p:=fun e=>by rw[e,h2] at hs; cases hs
           exact⟨z,(hm z).2 (.inr ⟨hz,o.one hz hn⟩),hc,hs,rfl⟩
       · rintro⟨z,hz,hc,hs,rfl⟩
         rcases(hm z).1 hz with rfl | ⟨hz,_⟩
         · exact .inl rfl
         · exact .inr ⟨z,hz,hc,hs,rfl⟩
   · refine Be cS dr.2.2.1 fun y=> ?_;rw[show(kb (fC c p) (gM h.rules q h.now)).spoke=(fC c p).spoke from rfl,dr.2.2.2,o.pins]
     constructor
     · rintro⟨⟨z,hz,hc,hs,rfl⟩,hn⟩
       have hn:z≠p:=fun e=>hn (by rw[e]);exact⟨z,(hm z).2 (.inr ⟨hz,o.one hz hn⟩),hc,hs,rfl⟩
     · rintro⟨z,hz,hc,hs,rfl⟩
       rcases(hm z).1 hz with rfl | ⟨hz,hn⟩
       · rw[q5] at hs; cases hs
       · exact⟨⟨z,hz,hc,hs,rfl⟩,fun e=>hn (congrArg aC.pid e)⟩
   · show(fC c p).seats.held=_;rw[dr.1];show c.seats.held - p.aj=_;have:=g.held;omega
   · show(fC c p).seats.tied=_;rw[dr.1];show c.seats.tied=_;have:=g.tied;omega
 · rw [if_neg ej] at hj;have gj:=o.hg.fV hj;have hne:((k:Int))≠(j:Int):=by omega
   rw[ei,nq (.inr (by rw[o.ag]; exact hne)),nq (.inr (by rw[q4]; exact hne))] at s2;refine gj.other o.hg.ae cS rfl rfl rfl gj.gn (fun z hz=> ?_) (by omega) (by have:=gj.held; omega) (by have:=gj.tied; omega);rw[hm]
   constructor
   · rintro(rfl | h)
     · exact(hne (q4.symm.trans hz)).elim
     · exact h.1
   · intro h;exact .inr ⟨h,o.one h fun e=>hne (by rw[←o.ag,←e]; exact hz)⟩
theorem TO (o:b_ h i k p c) {j:Nat} {c1:ba} (hj:(cW (c_ h p) p).cabins[j]? = some c1) :
   ∃ c0,h.cabins[j]? = some c0∧((j=k∧c0=c∧c1=fC c p)∨(j≠k∧p.al=(j:Int)∧c1=j_ c0 p.aj)∨(j≠k∧p.al≠(j:Int)∧c1=c0)):=by
 have hk:=bC o.hk;have e2:c_ h p=bN h (k:Int) (fC c p):=by rw[c_,o.iJ,o.ag]
 have pn:=iH o.ok;have hne:p.al≠(k:Int):=by rw[←o.ag]; exact pn.ne
 have base:∀{c1},(h.cabins.set k (fC c p))[j]? = some c1→∃c0,h.cabins[j]? = some c0∧((j=k∧c0=c∧c1=fC c p)∨(j≠k∧c1=c0)):=fun {c1} hj=>by
   rw[List.getElem?_set] at hj
   by_cases ej:k=j
   · subst ej;rw[if_pos rfl,if_pos hk] at hj;cases hj;exact⟨c,o.hk, .inl ⟨rfl,rfl,rfl⟩⟩
   · rw[if_neg ej] at hj;exact⟨c1,hj, .inr ⟨fun e=>ej e.symm,rfl⟩⟩
 rw[cW,ka,e2] at hj
 by_cases hf:p.al = -1
 · rw[if_pos hf] at hj;have hj:(h.cabins.set ((k:Int)).toNat (fC c p))[j]? = some c1:=hj;rw[Int.toNat_natCast] at hj;obtain⟨c0,h1,h2⟩:=base hj;refine⟨c0,h1, ?_⟩;rcases h2 with h2 | ⟨h2,h3⟩
   · exact .inl h2
   · exact .inr (.inr ⟨h2,by omega,h3⟩)
 · rw [if_neg hf] at hj;have fr:=pn.al;obtain⟨f,ef⟩:∃f:Nat,p.al=(f:Int):=⟨p.al.toNat,by omega⟩;rw[ef] at hj hne;have hne:k≠f:=fun e=>hne (by rw[e]);have hj:((h.cabins.set ((k:Int)).toNat (fC c p)).set ((f:Int)).toNat (j_ (aB (bN h (k:Int) (fC c p)) (f:Int)) p.aj))[j]? = some c1:=hj;rw[Int.toNat_natCast,Int.toNat_natCast,Fy hne,List.getElem?_set] at hj
   by_cases ej:f=j
   · subst ej;rw[if_pos rfl] at hj
     split at hj
     · rename_i hl;rw[List.length_set] at hl;cases hj;refine⟨h.cabins[f],List.getElem?_eq_getElem hl, .inr (.inl ⟨fun e=>hne e.symm,ef, ?_⟩)⟩;rw[jt (List.getElem?_eq_getElem hl)]
     · cases hj
   · rw[if_neg ej] at hj;obtain⟨c0,h1,h2⟩:=base hj;refine⟨c0,h1, ?_⟩;rcases h2 with h2 | ⟨h2,h3⟩
     · exact .inl h2
     · exact .inr (.inr ⟨h2,by omega,h3⟩)
theorem wc (h:ai) (p:ax):(ka h p).cabins.length=h.cabins.length:=by
 unfold ka; split
 · rfl
 · exact iZ _ _ _
theorem ju (h:ai) (p:ax):(ka h p).rules=h.rules∧(ka h p).now=h.now∧(ka h p).aA=h.aA∧(ka h p).ae=h.ae∧(ka h p).todo=h.todo∧(ka h p).aq=h.aq:=by
 unfold ka; split
 · exact⟨rfl,rfl,rfl,rfl,rfl,rfl⟩
 · exact⟨rfl,rfl,rfl,rfl,rfl,rfl⟩
theorem b_.gone (o:b_ h i k p c) (h2:p.st=2):HG (cW (c_ h p) p):=by
 obtain⟨hi,ei⟩:=o.lt;have hk:=bC o.hk;have g:=o.hg.fV o.hk;have hd:=lX o.hg.ae;have dr:=o.drop h2;have sz:=o.aj;have pn:=iH o.ok
 have ep:(cW (c_ h p) p).ae=h.ae.take i++h.ae.drop (i+1):=by
   refine(ju _ _).2.2.2.1.trans ?_;exact AZ o.at_
 have cS:dq h.rules h.now h.aA (h.ae.take i++h.ae.drop (i+1)):=o.hg.ae.cut i;have hm:∀z,z∈h.ae.take i++h.ae.drop (i+1)↔z∈h.ae∧z.id≠p.id:=fun z=>by rw[yE hd hi,ei]
 refine o.hg.next (ju _ _).1 (ju _ _).2.1 (ju _ _).2.2.1 ?_ ?_ (ju _ _).2.2.2.2.1 (ju _ _).2.2.2.2.2 (by rw[ep]; exact cS) fun j c1 hj=> ?_
 · rw[ep,List.length_append,List.length_take,List.length_drop];have:=o.hg.dj; omega
 · exact(wc _ _).trans (iZ _ _ _)
 rw[ep];obtain⟨c0,dZ,h5⟩:=TO o hj;have gj:=o.hg.fV dZ;have s1:=pO (bK (j:Int)) hi;have s2:=pO (cz (j:Int)) hi;have s3:=pO (cC (j:Int)) hi;rcases h5 with⟨rfl,rfl,rfl⟩ | ⟨hO,hf,rfl⟩ | ⟨hO,hf,rfl⟩
 · rw [ei,wa h2 o.ag sz] at s2;rw[ei,wb (by rw[←o.ag]; exact pn.ne)] at s3;have hh:=o.held h2;refine⟨?_, ?_,dr.2.1, ?_,dr.2.2.1, ?_, ?_, ?_⟩
   · rw[dr.1]; exact g.total
   · have:=g.room; omega
   · show c0.row=_;refine uh cS (by rw[g.row]; exact pL o.hg.ae _) fun y=> ?_;rw[o.row]
     constructor
     · rintro⟨z,hz,hc,hs,rfl⟩
       have hn:z≠p:=fun e=>by rw[e,h2] at hs; cases hs
       exact⟨z,(hm z).2 ⟨hz,o.one hz hn⟩,hc,hs,rfl⟩
     · rintro⟨z,hz,hc,hs,rfl⟩
       exact⟨z,((hm z).1 hz).1,hc,hs,rfl⟩
   · refine Be cS dr.2.2.1 fun y=> ?_;rw[dr.2.2.2,o.pins]
     constructor
     · rintro⟨⟨z,hz,hc,hs,rfl⟩,hn⟩
       have hn:z≠p:=fun e=>hn (by rw[e]);exact⟨z,(hm z).2 ⟨hz,o.one hz hn⟩,hc,hs,rfl⟩
     · rintro⟨z,hz,hc,hs,rfl⟩
       have:=(hm z).1 hz;exact⟨⟨z,this.1,hc,hs,rfl⟩,fun e=>this.2 (congrArg aC.pid e)⟩
   · rw[dr.1];show c0.seats.held - p.aj=_;have:=g.held;omega
   · rw[dr.1];show c0.seats.tied=_;have:=g.tied;omega
 · have hne:(k:Int)≠(j:Int):=by omega
   rw[ei,nq (.inr (by rw[o.ag]; exact hne))] at s2;rw[ei,yG hf sz] at s3;have t1:=gj.tied;have t2:=Bi gj.gn (n:=p.aj) (by omega) (by omega);refine gj.other o.hg.ae cS rfl rfl (by show(bz c0.seats p.aj 0 0 0 (-1)).total=_; rw[t2.1]) t2.2 (fun z hz=> ?_) (by omega) ?_ ?_
   · rw[hm];exact⟨fun h=>h.1,fun h=>⟨h,o.one h fun e=>hne (by rw[←o.ag,←e]; exact hz)⟩⟩
   · show(bz c0.seats p.aj 0 0 0 (-1)).held=_;rw[t2.1];have:=gj.held;show c0.seats.held=_;omega
   · show(bz c0.seats p.aj 0 0 0 (-1)).tied=_;rw[t2.1];show c0.seats.tied - p.aj=_;omega
 · have hne:(k:Int)≠(j:Int):=by omega
   rw[ei,nq (.inr (by rw[o.ag]; exact hne))] at s2;rw[ei,wb hf] at s3;refine gj.other o.hg.ae cS rfl rfl rfl gj.gn (fun z hz=> ?_) (by omega) (by have:=gj.held; omega) (by have:=gj.tied; omega);rw[hm];exact⟨fun h=>h.1,fun h=>⟨h,o.one h fun e=>hne (by rw[←o.ag,←e]; exact hz)⟩⟩
theorem b_.FA (o:b_ h i k p c) (h2:p.st=2):HG (dz h p):=by
 unfold dz; split
 · rename_i hf; exact o.od h2 hf
 · exact o.gone h2
theorem b_.stay (o:b_ h i k p c) {z:ax} (hz:z∈h.ae) (hn:z.id≠p.id):z∈(dz h p).ae:=by
 obtain⟨hi,ei⟩:=o.lt;have hd:=lX o.hg.ae;unfold dz; split
 · rw[yH o];exact(yF hd hi).2 (.inr ⟨hz,by rw[ei]; exact hn⟩)
 · rw[show(cW (c_ h p) p).ae=h.ae.take i++h.ae.drop (i+1) from(ju _ _).2.2.2.1.trans (AZ o.at_)];exact(yE hd hi).2 ⟨hz,by rw[ei]; exact hn⟩
theorem b_.iv (o:b_ h i k p c):(dz h p).rules=h.rules∧(dz h p).now=h.now∧(dz h p).cabins.length=h.cabins.length∧(dz h p).todo=h.todo∧(dz h p).aq=h.aq:=by
 unfold dz; split
 · rw[yH o];exact⟨rfl,rfl,List.length_set,rfl,rfl⟩
 · exact⟨(ju _ _).1,(ju _ _).2.1,(wc _ _).trans (iZ _ _ _),(ju _ _).2.2.2.2.1,(ju _ _).2.2.2.2.2⟩
theorem b_.FB (o:b_ h i k p c) (h2:p.st=2) (hf:eT h.rules p h.now=true):sN c.row (cD h.rules (dS h.rules p h.now) h.now)=bP bd (cD h.rules (dS h.rules p h.now) h.now) c.row:=by
 have r:=qN o.hg o.hk;have ok:=LP hf;have e:=ud ok (rfl:(dS h.rules p h.now).st=1);have hm:dG p∈gH h.ae (k:Int):=mr.2 ⟨p,o.mem,o.ag,h2,rfl⟩
 have hl:1≤(ga (k:Int) h.ae).length:=by
  rw[gH,wU] at hm;exact List.length_pos_of_mem hm
 have h3:=r.b0;have h4:=r.room;have h5:=(eB o.hg.rules).room
 have key:∀y∈c.row,y.aZ≠p.id∧y.aA≠p.aA:=fun y hy=>by
  obtain⟨z,hz,hc,hs,rfl⟩:=o.row.1 hy;have hn:z≠p:=fun e=>by rw[e,h2] at hs; cases hs
  exact vY o.hg.ae hz o.mem hn
 refine Lv r.pre (by omega) (Fc ok rfl) (fun y hy=> ?_) (fun y hy=> ?_)
 · rw[e]; exact(key y hy).1
 · rw[e]; exact(key y hy).2
end
end Go.Proofs.YtpklefhdkkegiaaGreat

