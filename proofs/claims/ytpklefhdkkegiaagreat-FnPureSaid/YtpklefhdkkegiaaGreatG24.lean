/- Parts of a proof. No conditions. -/

import Derived.Test.YtpklefhdkkegiaaGreatG23
import Derived.Test.YtpklefhdkkegiaaGreatG22
import Derived.Test.YtpklefhdkkegiaaGreatG20
import Derived.Test.YtpklefhdkkegiaaGreatG19
set_option linter.unusedSimpArgs false
set_option linter.unusedVariables false
namespace Go.Proofs.YtpklefhdkkegiaaGreat
open Go
set_option maxRecDepth 100000
def eB (p:ax):ay:=⟨p.dP,p.id⟩
theorem Ia {α:Type} {lt:α→α→Bool} (h:jA lt) (z:α):lt z z=false:=by
 cases q:lt z z with
 | false=>rfl
 | true=>have:=h.as _ _ q; rw[q] at this; cases this
theorem yb {α:Type} {lt:α→α→Bool} (h:jA lt):∀{a b:List α},(a.Pairwise fun x y=>lt x y=true)→(b.Pairwise fun x y=>lt x y=true)→(∀x,x∈a↔x∈b)→a=b
 | [],[],_,_,_=>rfl
 | [],y::b,_,_,he=>by have:=(he y).2 List.mem_cons_self; cases this
 | x::a,[],_,_,he=>by have:=(he x).1 List.mem_cons_self; cases this
 | x ::a,y::b,ha,hb,he=>by
   obtain⟨a1,a2⟩:=List.pairwise_cons.1 ha;obtain⟨b1,b2⟩:=List.pairwise_cons.1 hb
   have e:x=y:=by
     rcases List.mem_cons.1 ((he x).1 List.mem_cons_self) with q | q
     · exact q
     rcases List.mem_cons.1 ((he y).2 List.mem_cons_self) with r | r
     · exact r.symm
     have:=h.as _ _ (b1 x q);rw[a1 y r] at this; cases this
   subst e
   congr 1
   refine yb h a2 b2 fun z=>⟨fun hz=> ?_,fun hz=> ?_⟩
   · rcases List.mem_cons.1 ((he z).1 (List.mem_cons_of_mem _ hz)) with rfl | q
     · have:=a1 z hz; rw[Ia h] at this; cases this
     · exact q
   · rcases List.mem_cons.1 ((he z).2 (List.mem_cons_of_mem _ hz)) with rfl | q
     · have:=b1 z hz; rw[Ia h] at this; cases this
     · exact q
theorem Ib {α:Type} {lt:α→α→Bool} {x:α}:∀{s:List α},(fc lt x s).Perm (x::s)
 | []=>List.Perm.refl _
 | a ::s=>by
   rw[fc]; split
   · exact List.Perm.refl _
   · exact((Ib (s:=s)).cons a).trans (List.Perm.swap x a s)
theorem Ic {α:Type} {lt:α→α→Bool} {x:α}:∀{s:List α},(bE lt x s).Perm (x::s)
 | []=>List.Perm.refl _
 | a ::s=>by
   rw[bE]; split
   · exact((Ic (s:=s)).cons a).trans (List.Perm.swap x a s)
   · exact List.Perm.refl _
theorem Ca {α:Type} {lt:α→α→Bool} (l:List α):(cW lt l).Perm l:=by
 obtain⟨n,hn⟩:∃n,l.length=n:=⟨_,rfl⟩
 induction n generalizing l with
 | zero=>
   have:l = []:=List.length_eq_zero_iff.1 hn;subst this; exact List.Perm.refl _
 | succ n ih=>
   rcases List.eq_nil_or_concat l with rfl | ⟨l',x,rfl⟩
   · exact List.Perm.refl _
   · rw[List.concat_eq_append,qJ];exact Ib.trans (((ih l' (by simpa using hn)).cons x).trans (List.perm_append_singleton x l').symm)
theorem Cb {α:Type} {lt:α→α→Bool} (h:jA lt) {l:List α} {R:α→α→Prop} (sym:∀a b,R a b→R b a) (aP:∀a b,lt b a=false→R a b→lt a b=true) (hl:l.Pairwise R):(cW lt l).Pairwise fun a b=>lt a b=true:=by
 have h1:=wB h l;have h2:(cW lt l).Pairwise R:=((Ca l).pairwise_iff (fun {a b} =>sym a b)).2 hl;exact(h1.and h2).imp fun {a b} q=>aP a b q.1 q.2
theorem Cc {α:Type} {lt:α→α→Bool} (h:jA lt) {e:α}:∀{l:List α},(l.Pairwise fun a b=>lt a b=true)→(∀y∈l,lt y e=false→lt e y=true)→(bE lt e l).Pairwise fun a b=>lt a b=true
 | [],_,_=>List.pairwise_singleton _ _
 | a ::s,hl,hn=>by
   obtain⟨l1,l2⟩:=List.pairwise_cons.1 hl;rw[bE]
   split
   · rename_i aR;refine List.pairwise_cons.2 ⟨fun b hb=> ?_,Cc h l2 fun y hy=>hn y (List.mem_cons_of_mem _ hy)⟩;rcases qK.1 hb with rfl | hb
     · exact aR
     · exact l1 b hb
   · rename_i aR;have aR:lt e a=true:=hn a List.mem_cons_self (by simpa using aR);refine List.pairwise_cons.2 ⟨fun b hb=> ?_,hl⟩;rcases List.mem_cons.1 hb with rfl | hb
     · exact aR
     · exact h.tr _ _ _ aR (l1 b hb)
theorem oG {R:br} {now az:Int} {l:List ax} (h:c_ R now az l):l.Pairwise fun a b=>a.id≠b.id:=h.fg.imp fun {a b:ax} q=>Int.ne_of_lt q
theorem Pt {R:br} {now az:Int} {l:List ax} (h:c_ R now az l):l.Pairwise fun a b=>a.az≠b.az:=h.fair.imp fun {a b} q e=>by simp[fw,e] at q
theorem Ie {R:br} {now az:Int} {l:List ax} (h:c_ R now az l) (k:Int):(eF R k now l).Pairwise fun a b=>a.az≠b.az∧a.bm≠b.bm:=by
 rw[eF,List.pairwise_map,List.pairwise_filter];refine((Pt h).and (oG h)).imp fun {a b} q ha hb=> ?_;simp only[Bool.and_eq_true] at ha hb;rw[dj,if_pos ha.1,dj,if_pos hb.1]; exact q
theorem vL {R:br} {now az:Int} {l:List ax} (h:c_ R now az l) (k:Int):(eN R l k now).Pairwise fun a b=>bd a b=true:=
 Cb nI (R:=fun a b=>a.az≠b.az∧a.bm≠b.bm) (fun a b q=>⟨fun e=>q.1 e.symm,fun e=>q.2 e.symm⟩) (fun a b q1 q2=>BU q1 (fun e=>q2.1 e.symm)) (Ie h k)
theorem vM {R:br} {now az:Int} {l:List ax} (h:c_ R now az l) {k:Int} {y:Entry}:y∈eN R l k now↔∃z∈l,z.ah=k∧z.st=1∧y=jR R z now:=by
 rw[eN,tY,eF,List.mem_map]
 constructor
 · rintro⟨z,hz,rfl⟩
   obtain⟨z1,z2⟩:=List.mem_filter.1 hz;simp only[Bool.and_eq_true,beq_iff_eq] at z2;have z3:=z2.1;simp only[eo,Bool.and_eq_true,beq_iff_eq] at z3;exact⟨z,z1,z2.2,z3.2,by rw[dj,if_pos z2.1]⟩
 · rintro⟨z,hz,hc,hs,rfl⟩
   have e:eo R z now=true:=by rw[eo,(h.ok z hz).1,hs]; rfl
   exact⟨z,List.mem_filter.2 ⟨hz,by rw[e,hc]; simp⟩,by rw[dj,if_pos e]⟩
theorem Pu {R:br} {now az:Int} {l:List ax} (h:c_ R now az l) (k:Int):fI (eN R l k now):=by
 refine⟨fun e he=> ?_,vL h k, ?_⟩
 · obtain⟨z,hz,hc,hs,rfl⟩:=(vM h).1 he;have ok:=(h.ok z hz).1;have:=BV ok hs
   rwa [vJ ok hs] at this
 · have:=((Ca (lt:=bd) (eF R k now l)).pairwise_iff (R:=fun a b=>a.az≠b.az∧a.bm≠b.bm) (fun {a b} q=>⟨fun e=>q.1 e.symm,fun e=>q.2 e.symm⟩)).2 (Ie h k);exact this.imp fun {a b} q=>q.2
theorem rC {l:List ax} {k:Int} {y:ay}:y∈fJ l k↔∃z∈l,z.ah=k∧z.st=2∧y=eB z:=by
 rw[fJ,tY,eX,List.mem_map]
 constructor
 · rintro⟨z,hz,rfl⟩
   obtain⟨z1,z2⟩:=List.mem_filter.1 hz;simp only[Bool.and_eq_true,beq_iff_eq] at z2;exact⟨z,z1,z2.2,z2.1,rfl⟩
 · rintro⟨z,hz,hc,hs,rfl⟩
   exact⟨z,List.mem_filter.2 ⟨hz,by rw[hs,hc]; simp⟩,rfl⟩
theorem Cd {a b:ay} (h:bf b a=false) (ht:a.pid≠b.pid):bf a b=true:=by
 simp only[bf,Bool.or_eq_false_iff,Bool.and_eq_false_iff,decide_eq_false_iff_not,beq_eq_false_iff_ne] at h;simp only[bf,Bool.or_eq_true,Bool.and_eq_true,decide_eq_true_eq,beq_iff_eq];omega
theorem Ce {R:br} {now az:Int} {l:List ax} (h:c_ R now az l) (k:Int):(fJ l k).Pairwise fun a b=>bf a b=true:=by
 refine Cb jl (R:=fun a b=>a.pid≠b.pid) (fun a b q e=>q e.symm) (fun a b q1 q2=>Cd q1 q2) ?_;rw[eX,List.pairwise_map,List.pairwise_filter];exact(oG h).imp fun {a b} q _ _=>q
theorem Cf {w:List (List ay)} (h:bu w=true) {q:ay}:q∈cB w↔q∈a_ w:=by rw[cB,if_pos h,tY]
theorem Pv {w:List (List ay)} (h:bu w=true):(cB w).Pairwise fun a b=>bf a b=true:=by
 rw[cB,if_pos h];exact Cb jl (R:=fun a b=>a.pid≠b.pid) (fun a b q e=>q e.symm) (fun a b q1 q2=>Cd q1 q2) (wG h).ne
theorem Cg {w:List (List ay)} {k:Nat} (hk:k<w.length) (x:List ay):a_ (w.set k x)=(w.take k).flatten++(x++(w.drop (k+1)).flatten):=by
 rw[a_,List.set_eq_take_append_cons_drop,if_pos hk,List.flatten_append,List.flatten_cons]
theorem Ch {w:List (List ay)} {k:Nat} (hk:k<w.length):a_ w=(w.take k).flatten++(w[k]++(w.drop (k+1)).flatten):=by
 have:=Cg hk w[k]
 rwa [List.set_getElem_self hk] at this
theorem Pw {w:List (List ay)} (h:bu w=true) {p:ay} (hp:p∈a_ w):∃hk:eZ p<w.length,p∈w[eZ p]:=by
 obtain⟨l,hl,nE⟩:=List.mem_flatten.1 hp;obtain⟨k,hk,rfl⟩:=List.getElem_of_mem hl;have e:=(wG h).at_ k _ (List.getElem?_eq_getElem hk) p nE;have e2:eZ p=k:=by rw[eZ,e]; rfl
 subst e2;exact⟨hk,nE⟩
theorem qp {w:List (List ay)} {p:ay} (hk:eZ p<w.length):bG w p=w[eZ p]:=by
 show w.getD (eZ p) []=_;rw[List.getD_eq_getElem?_getD,List.getElem?_eq_getElem hk]; rfl
theorem Px {w:List (List ay)} (h:bu w=true) {p:ay} (hp:p∈a_ w):bu (iK w p)=true∧∀q,q∈a_ (iK w p)↔q∈a_ w∧q≠p:=by
 obtain⟨hk,hm⟩:=Pw h hp;have g:=wG h;have h1:1≤p.tm:=xV (g.ok p hp);rcases iC (fun q:ay=>decide (q=p)) (bG w p) with⟨_,e⟩ | ⟨i,hi,e,e1,_⟩
 · have:=e p (by rw[qp hk]; exact hm);simp at this
 have e:jW (bG w p) p=(i:Int):=e;have eb:i_ w p=true:=by rw[xW h h1]; exact decide_eq_true (by omega)
 have e1:(bG w p)[i]=p:=of_decide_eq_true e1;rw[←Hu e eb]
 have hs:bG w p=(bG w p).take i++p::(bG w p).drop (i+1):=by
   have:=List.getElem_cons_drop hi;rw[e1] at this;rw[this,List.take_append_drop]
 have pm:(a_ w).Perm (p::a_ (w.set (eZ p) ((bG w p).take i++(bG w p).drop (i+1)))):=by
   rw[Cg hk,Ch hk,←qp hk]
   conv=>lhs; rw[hs]
   generalize (bG w p).take i=a;generalize (bG w p).drop (i+1)=b;generalize (w.take (eZ p)).flatten=c;generalize (w.drop (eZ p+1)).flatten=d;have e:c++(a++p::b++d)=(c++a)++p::(b++d):=by simp
   have e2:c++(a++b++d)=(c++a)++(b++d):=by simp
   rw[e,e2];exact List.perm_middle
 have ne:(p::a_ (w.set (eZ p) ((bG w p).take i++(bG w p).drop (i+1)))).Pairwise fun a b=>a.pid≠b.pid:=(pm.pairwise_iff (fun {a b} q e=>q e.symm)).1 g.ne;obtain⟨n1,n2⟩:=List.pairwise_cons.1 ne
 have sub:((bG w p).take i++(bG w p).drop (i+1)).Sublist (bG w p):=by
   have h:=List.Sublist.append (List.Sublist.refl ((bG w p).take i)) (List.drop_sublist_drop_left (bG w p) (Nat.le_succ i))
   rwa [List.take_append_drop] at h
 refine⟨Hq.2 ⟨by rw[List.length_set]; exact g.len, ?_,fun q hq=>g.ok q ((pm.mem_iff).2 (List.mem_cons_of_mem _ hq)),n2,fun j l hl q hq=> ?_,fun l hl=> ?_⟩,fun q=> ?_⟩
 · have:=pm.length_eq;have:=g.dy;rw[List.length_cons] at *; omega
 · rw[List.getElem?_set] at hl
   split at hl
   · rename_i ej;cases hl;subst ej;refine g.at_ (eZ p) (bG w p) (by rw[qp hk]; exact List.getElem?_eq_getElem hk) q (sub.subset hq)
   · exact g.at_ j l hl q hq
 · rcases List.mem_or_eq_of_mem_set hl with q | rfl
   · exact g.fg l q
   · exact(g.fg _ (by rw[qp hk]; exact List.getElem_mem hk)).sublist sub
 · rw [pm.mem_iff,List.mem_cons]
   constructor
   · intro hq;exact⟨.inr hq,fun e=>n1 q hq (by rw[e])⟩
   · rintro⟨rfl | hq,hn⟩
     · exact(hn rfl).elim
     · exact hq
theorem Py {w:List (List ay)} (h:bu w=true) {p:ay} (ok:dX p=true) (hne:∀q∈a_ w,q.pid≠p.pid) (dy:(a_ w).length≤9):bu (jt w p)=true∧∀q,q∈a_ (jt w p)↔q=p∨q∈a_ w:=by
 have g:=wG h;have h1:=xV ok;have hh:=s7 h h1;have hk:=hh.2
 have pm:(a_ (dD w p)).Perm (p::a_ w):=by
  rw[dD,Cg hk,Ch hk,←qp hk];refine(List.Perm.append_left _ (List.Perm.append_right _ Ic)).trans ?_;rw[List.cons_append];exact List.perm_middle
 have gi:bu (dD w p)=true:=by
  refine Hq.2 ⟨by rw[dD,List.length_set]; exact g.len, ?_,fun q hq=> ?_, ?_,fun j l hl q hq=> ?_,fun l hl=> ?_⟩
  · have:=pm.length_eq;rw[List.length_cons] at this; omega
  · rcases List.mem_cons.1 (pm.mem_iff.1 hq) with rfl | hq
    · exact ok
    · exact g.ok q hq
  · refine(pm.pairwise_iff (fun {a b} q e=>q e.symm)).2 (List.pairwise_cons.2 ⟨fun q hq e=>hne q hq e.symm,g.ne⟩)
  · rw [dD,List.getElem?_set] at hl
    split at hl
    · rename_i ej;cases hl;subst ej;rcases qK.1 hq with rfl | hq
      · show q.tm.tmod 9=((q.tm.tmod 9).toNat:Int);have:=hh.1.1; omega
      · exact g.at_ (eZ p) (bG w p) (by rw[qp hk]; exact List.getElem?_eq_getElem hk) q hq
    · exact g.at_ j l hl q hq
  · rcases List.mem_or_eq_of_mem_set hl with q | rfl
    · exact g.fg l q
    · refine Cc jl (g.fg _ (by rw[qp hk]; exact List.getElem_mem hk)) fun y hy q=>Cd q (fun e=> ?_);exact hne y (by rw[Ch hk,←qp hk]; simp[hy]) e.symm
 have eb:fy w p=true:=by rw[fy,h,gi,decide_eq_true h1]; rfl
 rw[jt,if_pos eb];exact⟨gi,fun q=>by rw[pm.mem_iff,List.mem_cons]⟩
theorem yd {α:Type} {l:List α} {i:Nat} (hi:i<l.length):l=l.take i++l[i]::l.drop (i+1):=by
 rw[List.getElem_cons_drop hi,List.take_append_drop]
theorem Ci {l:List ax} (hd:l.Pairwise fun a b=>a.id≠b.id) {i:Nat} (hi:i<l.length) {z:ax}:z∈l.take i++l.drop (i+1)↔z∈l∧z.id≠l[i].id:=by
 have pm:l.Perm (l[i]::(l.take i++l.drop (i+1))):=by
   conv=>lhs; rw[yd hi]
   exact List.perm_middle
 obtain⟨n1,_⟩:=List.pairwise_cons.1 ((pm.pairwise_iff (fun {a b} q e=>q e.symm)).1 hd);rw[pm.mem_iff,List.mem_cons]
 constructor
 · intro hz;exact⟨.inr hz,fun e=>n1 z hz e.symm⟩
 · rintro⟨rfl | hz,hn⟩
   · exact(hn rfl).elim
   · exact hz
theorem Cj {l:List ax} (hd:l.Pairwise fun a b=>a.id≠b.id) {i:Nat} (hi:i<l.length) {q z:ax}:z∈l.set i q↔z=q∨(z∈l∧z.id≠l[i].id):=by
 rw[←Ci hd hi,List.set_eq_take_append_cons_drop,if_pos hi,List.mem_append,List.mem_append,List.mem_cons]
 constructor
 · rintro(h | h | h)
   · exact .inr (.inl h)
   · exact .inl h
   · exact .inr (.inr h)
 · rintro(h | h | h)
   · exact .inr (.inl h)
   · exact .inl h
   · exact .inr (.inr h)
theorem vN {α:Type} (f:α→Nat) {l:List α} {i:Nat} (hi:i<l.length):aV f (l.take i++l.drop (i+1))+f l[i]=aV f l:=by
 conv=>rhs; rw[yd hi]
 rw[p8,p8];show _=_+(f l[i]+aV f (l.drop (i+1)));omega
theorem te {α:Type} (f:α→Nat) {l:List α} {i:Nat} (hi:i<l.length) (q:α):aV f (l.set i q)+f l[i]=aV f l+f q:=by
 rw[←vN f hi,List.set_eq_take_append_cons_drop,if_pos hi,p8,p8];show aV f (l.take i)+(f q+aV f (l.drop (i+1)))+_=_;omega
theorem Ig {α:Type} {R:α→α→Prop} {l:List α} (h:l.Pairwise R) {i:Nat} (hi:i<l.length) {q:α} (h1:∀x,R x l[i]→R x q) (h2:∀x,R l[i] x→R q x):(l.set i q).Pairwise R:=by
 rw[List.set_eq_take_append_cons_drop,if_pos hi];rw[yd hi,List.pairwise_append,List.pairwise_cons] at h;obtain⟨a1,⟨a2,a3⟩,a4⟩:=h;rw[List.pairwise_append,List.pairwise_cons];refine⟨a1,⟨fun b hb=>h2 b (a2 b hb),a3⟩,fun a ha b hb=> ?_⟩;rcases List.mem_cons.1 hb with rfl | hb
 · exact h1 a (a4 a ha _ List.mem_cons_self)
 · exact a4 a ha b (List.mem_cons_of_mem _ hb)
theorem c_.cut {R:br} {now az:Int} {l:List ax} (h:c_ R now az l) (i:Nat):c_ R now az (l.take i++l.drop (i+1)):=by
 have sub:(l.take i++l.drop (i+1)).Sublist l:=by
  have h:=List.Sublist.append (List.Sublist.refl (l.take i)) (List.drop_sublist_drop_left l (Nat.le_succ i))
  rwa [List.take_append_drop] at h
 exact⟨fun p hp=>h.ok p (sub.subset hp),h.fg.sublist sub,h.fair.sublist sub⟩
theorem c_.set {R:br} {now az:Int} {l:List ax} (h:c_ R now az l) {i:Nat} (hi:i<l.length) {q:ax} (ok:bz R q now=true) (e1:q.id=l[i].id) (e2:q.az=l[i].az) (e3:q.since=l[i].since):c_ R now az (l.set i q):=by
 refine⟨fun p hp=> ?_,Ig h.fg hi (fun x hx=>by rw[e1]; exact hx) (fun x hx=>by rw[e1]; exact hx),Ig h.fair hi (fun x hx=> ?_) (fun x hx=> ?_)⟩
 · rcases List.mem_or_eq_of_mem_set hp with hp | rfl
   · exact h.ok p hp
   · exact⟨ok,by rw[e2]; exact(h.ok _ (List.getElem_mem hi)).2⟩
 · simp only[fw,e2,e3] at hx ⊢; exact hx
 · simp only[fw,e2,e3] at hx ⊢; exact hx
theorem ye {R:br} {now az:Int} {l:List ax} (h:c_ R now az l) {k:Int} {row:List Entry} (hs:row.Pairwise fun a b=>bd a b=true) (hm:∀y,y∈row↔∃z∈l,z.ah=k∧z.st=1∧y=jR R z now):row=eN R l k now:=
 yb nI hs (vL h k) fun y=>by rw[hm,vM h]
theorem Ck {R:br} {now az:Int} {l:List ax} (h:c_ R now az l) {k:Int} {w:List (List ay)} (hw:bu w=true) (hm:∀y,y∈a_ w↔∃z∈l,z.ah=k∧z.st=2∧y=eB z):cB w=fJ l k:=
 yb jl (Pv hw) (Ce h k) fun y=>by rw[Cf hw,hm,rC]
def fZ (c:bh) (p:ax):bh:={c with ai:=bW c.ai p.au 1 (-1) 0 0,spoke:=iK c.spoke (eB p)}
def bU (h:al) (k:Int) (c:bh):al:={h with cabins:=h.cabins.set k.toNat c}
def dE (h:al) (p:ax):al:=bU h p.ah (fZ (aE h p.ah) p)
def kH (c:bh) (n:Int):bh:={c with ai:=bW c.ai n 0 0 0 (-1)}
def lC (h:al) (p:ax):al:=if p.aq = -1 then h else bU h p.aq (kH (aE h p.aq) p.au)
def hC (h:al) (p:ax):al:=lC {h with ae:=fX h.ae p.id} p
def vO (c:bh) (e:Entry):bh:={c with row:=bE bd e c.row}
def Cl (h:al) (p:ax):al:=bU h p.ah (vO (aE h p.ah) (dj h.rules p h.now))
def nj (h:al) (p:ax):al:=Cl {dE h p with ae:=gM h.ae (fA h.rules p h.now)} (fA h.rules p h.now)
def fM (h:al) (p:ax):al:=if il h.rules p h.now=true then nj h p else hC (dE h p) p
def hG (h:al) (p:ax):ax:={p with st:=2,dP:=h.now+h.rules.cC}
def tf (h:al) (c:bh) (p:ax):bh:={c with ai:=bW c.ai p.au (-1) 1 0 0,row:=iZ c.row p.id,spoke:=jt c.spoke (eB (hG h p))}
def oH (h:al) (k:Int) (p:ax):al:=bU {h with ae:=gM h.ae (hG h p)} k (tf h (aE h k) p)
theorem qq (h:al) (k:Int) (c:bh):(bU h k c).cabins.length=h.cabins.length:=List.length_set
theorem Ih {α:Type} (l:List α) (k:Nat) (x:α):l.set ((k:Int)).toNat x=l.set k x:=by rw[Int.toNat_natCast]
structure rD (h:al) (p:ax) (f:Nat):Prop where
 eq:p.aq=(f:Int)
 lt:f<h.cabins.length
theorem rD.of {h h':al} {p:ax} (hl:h'.cabins.length=h.cabins.length) (hf:p.aq = -1∨∃f,rD h p f):p.aq = -1∨∃f,rD h' p f:=
 hf.elim .inl fun⟨f,q⟩=> .inr ⟨f,q.eq,by rw[hl]; exact q.lt⟩
theorem nk {h:al} {k:Nat} {c:bh} (hk:h.cabins[k]? = some c):aE h (k:Int)=c:=by
 show(h.cabins[((k:Int)).toNat]?).getD default=c;rw[Int.toNat_natCast,hk]; rfl
theorem PA {h:al} {k:Nat} {c:bh} (hk:k<h.cabins.length):aE (bU h (k:Int) c) (k:Int)=c:=by
 show((h.cabins.set ((k:Int)).toNat c)[((k:Int)).toNat]?).getD default=c;rw[Int.toNat_natCast,List.getElem?_set]; simp[hk]
theorem PB {h:al} {k f:Nat} {c:bh} (hne:f≠k):aE (bU h (f:Int) c) (k:Int)=aE h (k:Int):=by
 show((h.cabins.set ((f:Int)).toNat c)[((k:Int)).toNat]?).getD default=(h.cabins[((k:Int)).toNat]?).getD default;rw[Int.toNat_natCast,Int.toNat_natCast,List.getElem?_set,if_neg hne]
theorem Ii {R:br} {p:ax} {now:Int} (h:il R p now=true):bz R (fA R p now) now=true:=by
 simp only[il,Bool.and_eq_true,decide_eq_true_eq] at h;obtain⟨h1,h2,h3⟩:=h;have ha:=HQ h1;have hg:=p6 h1;have hr:=fv hg.rules;have q1:=hr.rest;have q2:=hg.sM;have h4:=h1;simp only[bz,Bool.and_eq_true] at h4 ⊢;obtain⟨a1,a2,a3,a4,a5,a6,a7,a8,a9,p7,Ij,PC⟩:=h4;refine⟨a1,a2,a3,a4,a5,a6,a7,a8,a9,p7, ?_, ?_⟩
 · show aj (p.asked+1) 0 (R.tries - 1)=true;simp only[aj,Bool.and_eq_true,decide_eq_true_eq];omega
 · show((1:Int) == 1 && aj (now+R.rest) 0 (now+R.rest) || _)=true;rw[Bool.or_eq_true];left;simp only[aj,Bool.and_eq_true,decide_eq_true_eq];exact⟨rfl,by omega,by omega⟩
theorem PD {h:al} {p:ax} (h1:bz h.rules p h.now=true):bz h.rules (hG h p) h.now=true:=by
 have hg:=p6 h1;have hr:=fv hg.rules;have q1:=hr.cC;have q2:=hg.sM;have h4:=h1;simp only[bz,Bool.and_eq_true] at h4 ⊢;obtain⟨a1,a2,a3,a4,a5,a6,a7,a8,a9,p7,Ij,PC⟩:=h4;refine⟨a1,a2,a3,a4,a5,a6,a7,a8,a9,p7,Ij, ?_⟩;show(_ || (2:Int) == 2 && aj (h.now+h.rules.cC) 1 (h.now+h.rules.cC))=true;rw[Bool.or_eq_true];right;simp only[aj,Bool.and_eq_true,decide_eq_true_eq];exact⟨rfl,by omega,by omega⟩
theorem Cm {l:List ax} (hd:l.Pairwise fun a b=>a.id≠b.id) {p:ax} (hp:p∈l):∃i,∃h:i<l.length,bq l p.id=(i:Int)∧l[i]=p:=by
 rcases iC (fun q:ax=>q.id == p.id) l with⟨_,e⟩ | ⟨i,hi,e,e1,_⟩
 · have:=e p hp;simp at this
 · refine⟨i,hi,e, ?_⟩;obtain⟨j,hj,rfl⟩:=List.getElem_of_mem hp;have hw:=List.pairwise_iff_getElem.1 hd;have e1:l[i].id=l[j].id:=by simpa using e1
   rcases Nat.lt_trichotomy i j with q | rfl | q
   · exact(hw i j hi hj q e1).elim
   · rfl
   · exact(hw j i hj hi q e1.symm).elim
theorem PE {h:al} (hs:ri h.cabins) {k:Int} {c:bh} (hc:ln c):ri (bU h k c).cabins:=by
 refine⟨by rw[qq]; exact hs.1,fun x hx=> ?_⟩;rcases List.mem_or_eq_of_mem_set hx with q | q
 · exact hs.2 x q
 · exact q▸hc
structure cE (h:al) (i k:Nat) (p:ax) (c:bh):Prop where
 hg:HG h
 hi:h.ae[i]? = some p
 hk:h.cabins[k]? = some c
 ah:p.ah=(k:Int)
 ok:bz h.rules p h.now=true
 at_:bq h.ae p.id=(i:Int)
theorem BC.Ik {h:al} {id:Int} {i k:Nat} (kn:BC h id i k) (hg:HG h):cE h i k (h.ae[i]'kn.lt) (h.cabins[k]'kn.clt):=
 ⟨hg,List.getElem?_eq_getElem kn.lt,List.getElem?_eq_getElem kn.clt,kn.ah,kn.ok,by rw[kn.id]; exact kn.at_⟩
section
variable {h : al} {i k : Nat} {p : ax} {c : bh}
theorem cE.lt (o:cE h i k p c):∃hi:i<h.ae.length,h.ae[i]=p:=by
 have hi:=bD o.hi;have:=o.hi;rw[List.getElem?_eq_getElem hi] at this;exact⟨hi,by simpa using this⟩
theorem cE.mem (o:cE h i k p c):p∈h.ae:=List.mem_of_getElem? o.hi
theorem cE.au (o:cE h i k p c):1≤p.au∧p.au≤6:=by
 have h1:=(p6 o.ok).au;have h2:=(fv o.hg.rules).size;omega
theorem cE.one (o:cE h i k p c) {z:ax} (hz:z∈h.ae) (hn:z≠p):z.id≠p.id:=(BW o.hg.ae hz o.mem hn).1
theorem cE.mi (o:cE h i k p c):aE h p.ah=c:=by rw[o.ah]; exact nk o.hk
theorem cE.tg (o:cE h i k p c):0≤p.ah∧p.ah<(h.cabins.length:Int):=by
 have:=bD o.hk;have:=o.ah;omega
theorem cE.aq (o:cE h i k p c):p.aq = -1∨∃f,rD h p f:=by
 have h1:=(qn o.ok).aq;have h2:=o.hg.iX
 by_cases q:p.aq = -1
 · exact .inl q
 · exact .inr ⟨p.aq.toNat,by omega,by omega⟩
end
structure lD (R:br) (now:Int) (l:List ax) (j:Nat) (c:bh):Prop where
 total:c.ai.total=R.ai.getD j 0
 room:((aV (bL (j:Int)) l:Nat):Int)≤R.room
 kD:aZ c.ai=true
 row:c.row=eN R l (j:Int) now
 kG:bu c.spoke=true
 pins:cB c.spoke=fJ l (j:Int)
 held:c.ai.held=((aV (cg (j:Int)) l:Nat):Int)
 tied:c.ai.tied=((aV (cu (j:Int)) l:Nat):Int)
theorem HG.jx {h:al} (hg:HG h) {j:Nat} {c:bh} (hj:h.cabins[j]? = some c):lD h.rules h.now h.ae j c:=by
 have r:=rA hg hj;exact⟨r.total,r.room,r.kD,r.row,r.kG,r.pins,r.held,r.tied⟩
theorem lD.at_ {h:al} {az:Int} (hr:ca h.rules=true) (hp:c_ h.rules h.now az h.ae) {j:Nat} {c:bh} (g:lD h.rules h.now h.ae j c):g_ h j c=true:=by
 have h1:=(fv hr).room;have h2:=g.room
 have h3:(eN h.rules h.ae (j:Int) h.now).length≤10:=by
  rw[eN,kh];exact BA (by omega)
 have h4:dg c.row=true:=by rw[g.row]; exact vi h3 (Pu hp _)
 simp only[g_,fh,jT,Bool.and_eq_true,decide_eq_true_eq,beq_iff_eq];exact⟨g.total,g.room,⟨g.kD,h4,g.kG⟩,g.row,g.pins,g.held,g.tied⟩
theorem HG.next {h E:al} (hg:HG h) (e1:E.rules=h.rules) (e2:E.now=h.now) (e3:E.az=h.az) (e4:E.ae.length≤40) (e5:E.cabins.length=h.cabins.length) (e6:E.todo=h.todo) (e7:E.aA=h.aA)
  (hp:c_ h.rules h.now h.az E.ae) (hc:∀(j:Nat) c,E.cabins[j]? = some c→lD h.rules h.now E.ae j c):HG E:=by
 refine⟨by rw[e1]; exact hg.rules,by rw[e2]; exact hg.now,by rw[e3]; exact hg.az,e4,by rw[e5,e1]; exact hg.iX,by rw[e1,e2,e3]; exact hp,by rw[e5,e6,e7]; exact hg.aA,by rw[e7,e1]; exact hg.bO,fun j c hj=> ?_⟩;have dn:c_ E.rules E.now E.az E.ae:=by rw[e1,e2,e3]; exact hp
 exact lD.at_ (by rw[e1]; exact hg.rules) dn (by rw[e1,e2]; exact hc j c hj)
theorem lD.other {R:br} {now az:Int} {l l':List ax} {j:Nat} {c c':bh} (g:lD R now l j c) (hp:c_ R now az l) (dn:c_ R now az l') (er:c'.row=c.row) (es:c'.spoke=c.spoke) (et:c'.ai.total=c.ai.total) (el:aZ c'.ai=true)
   (hm:∀z,z.ah=(j:Int)→(z∈l'↔z∈l)) (z1:aV (bL (j:Int)) l'≤aV (bL (j:Int)) l) (z2:c'.ai.held=((aV (cg (j:Int)) l':Nat):Int)) (z3:c'.ai.tied=((aV (cu (j:Int)) l':Nat):Int)):lD R now l' j c':=by
 refine⟨et.trans g.total,by have:=g.room; omega,el, ?_,by rw[es]; exact g.kG, ?_,z2,z3⟩
 · rw[er];refine ye dn (by rw[g.row]; exact vL hp _) fun y=> ?_;rw[g.row,vM hp];exact⟨fun⟨z,a,b,d⟩=>⟨z,(hm z b).2 a,b,d⟩,fun⟨z,a,b,d⟩=>⟨z,(hm z b).1 a,b,d⟩⟩
 · rw[es,g.pins];refine yb jl (Ce hp _) (Ce dn _) fun y=> ?_;rw[rC,rC];exact⟨fun⟨z,a,b,d⟩=>⟨z,(hm z b).2 a,b,d⟩,fun⟨z,a,b,d⟩=>⟨z,(hm z b).1 a,b,d⟩⟩
theorem qt {k:Int} {p:ax} (h:p.st≠2∨p.ah≠k):cg k p=0:=by
 rw[cg,if_neg];simp only[lv,Bool.and_eq_true,beq_iff_eq]
 rintro⟨a,b,_⟩
 rcases h with h | h
 · exact h a
 · exact h b
theorem yf {k:Int} {p:ax} (h1:p.st=2) (h2:p.ah=k) (h3:1≤p.au∧p.au≤6):cg k p=p.au.toNat:=by
 rw[cg,if_pos];simp only[lv,Bool.and_eq_true,beq_iff_eq,aj,decide_eq_true_eq];exact⟨h1,h2,h3⟩
theorem Il {k:Int} {p:ax} (h:p.aq≠k):cu k p=0:=by
 rw[cu,if_neg];simp only[jP,Bool.and_eq_true,beq_iff_eq];exact fun q=>h q.1
theorem PF {k:Int} {p:ax} (h2:p.aq=k) (h3:1≤p.au∧p.au≤6):cu k p=p.au.toNat:=by
 rw[cu,if_pos];simp only[jP,Bool.and_eq_true,beq_iff_eq,aj,decide_eq_true_eq];exact⟨h2,h3⟩
structure PG (x:bA):Prop where
 total:1≤x.total∧x.total≤60
 free:0≤x.free∧x.free≤x.total
 held:0≤x.held∧x.held≤x.total
 bg:0≤x.bg∧x.bg≤x.total
 sum:x.free+x.held+x.bg=x.total
 tied:0≤x.tied∧x.tied≤x.bg
theorem qu {x:bA}:aZ x=true↔PG x:=by
 simp only[aZ,Bool.and_eq_true,aj,decide_eq_true_eq];exact⟨fun⟨a,b,c,d,e,f⟩=>⟨a,b,c,d,e,f⟩,fun⟨a,b,c,d,e,f⟩=>⟨a,b,c,d,e,f⟩⟩
theorem PH {x:bA} (h:aZ x=true) {n:Int} (hn:0≤n∧n≤60) (hh:n≤x.held):bW x n 1 (-1) 0 0=⟨x.total,x.free+n,x.held - n,x.bg,x.tied⟩∧aZ (bW x n 1 (-1) 0 0)=true:=by
 obtain⟨a,b,c,d,e,f⟩:=qu.1 h;have h2:aZ ⟨x.total,x.free+n,x.held - n,x.bg,x.tied⟩=true:=qu.2 ⟨a,by constructor <;> simp only <;> omega,by constructor <;> simp only <;> omega,d,by simp only; omega,f⟩
 have e1:bS x n 1 (-1) 0 0=true:=by
  rw[bS,xQ,h,h2]; simp[aj,hn.1,hn.2]
 rw[bW,if_pos e1,xQ];exact⟨rfl,h2⟩
theorem PI {x:bA} (h:aZ x=true) {n:Int} (hn:0≤n∧n≤60) (hh:n≤x.free):bW x n (-1) 1 0 0=⟨x.total,x.free - n,x.held+n,x.bg,x.tied⟩∧aZ (bW x n (-1) 1 0 0)=true:=by
 obtain⟨a,b,c,d,e,f⟩:=qu.1 h;have h2:aZ ⟨x.total,x.free - n,x.held+n,x.bg,x.tied⟩=true:=qu.2 ⟨a,by constructor <;> simp only <;> omega,by constructor <;> simp only <;> omega,d,by simp only; omega,f⟩
 have e1:bS x n (-1) 1 0 0=true:=by
  rw[bS,xP,h,h2]; simp[aj,hn.1,hn.2]
 rw[bW,if_pos e1,xP];exact⟨rfl,h2⟩
theorem PJ {x:bA} (h:aZ x=true) {n:Int} (hn:0≤n∧n≤60) (hh:n≤x.tied):bW x n 0 0 0 (-1)=⟨x.total,x.free,x.held,x.bg,x.tied - n⟩∧aZ (bW x n 0 0 0 (-1))=true:=by
 obtain⟨a,b,c,d,e,f⟩:=qu.1 h;have h2:aZ ⟨x.total,x.free,x.held,x.bg,x.tied - n⟩=true:=qu.2 ⟨a,b,c,d,e,by constructor <;> simp only <;> omega⟩
 have e1:bS x n 0 0 0 (-1)=true:=by
  rw[bS,xS,h,h2]; simp[aj,hn.1,hn.2]
 rw[bW,if_pos e1,xS];exact⟨rfl,h2⟩
section
variable {h : al} {i k : Nat} {p : ax} {c : bh}
theorem cE.aI (o:cE h i k p c) (h2:p.st=2):eB p∈a_ c.spoke:=by
 have g:=o.hg.jx o.hk;rw[←Cf g.kG,g.pins,rC];exact⟨p,o.mem,o.ah,h2,rfl⟩
theorem cE.held (o:cE h i k p c) (h2:p.st=2):p.au≤c.ai.held:=by
 obtain⟨hi,e⟩:=o.lt;have g:=o.hg.jx o.hk;have:=vN (cg (k:Int)) hi;rw[e,yf h2 o.ah o.au] at this;have h3:=g.held;have h4:=o.au;omega
theorem cE.drop (o:cE h i k p c) (h2:p.st=2):(fZ c p).ai=⟨c.ai.total,c.ai.free+p.au,c.ai.held - p.au,c.ai.bg,c.ai.tied⟩∧aZ (fZ c p).ai=true∧bu (fZ c p).spoke=true∧∀q,q∈a_ (fZ c p).spoke↔q∈a_ c.spoke∧q≠eB p:=by
 have g:=o.hg.jx o.hk;have h4:=o.au;have a:=PH g.kD (n:=p.au) (by omega) (o.held h2);have b:=Px g.kG (o.aI h2);exact⟨a.1,a.2,b.1,b.2⟩
theorem cE.pins (o:cE h i k p c) {y:ay}:y∈a_ c.spoke↔∃z∈h.ae,z.ah=(k:Int)∧z.st=2∧y=eB z:=by
 have g:=o.hg.jx o.hk;rw[←Cf g.kG,g.pins,rC]
theorem cE.row (o:cE h i k p c) {y:Entry}:y∈c.row↔∃z∈h.ae,z.ah=(k:Int)∧z.st=1∧y=jR h.rules z h.now:=by
 have g:=o.hg.jx o.hk;rw[g.row,vM o.hg.ae]
theorem Cn (o:cE h i k p c):nj h p = {h with ae:=h.ae.set i (fA h.rules p h.now),cabins:=h.cabins.set k (vO (fZ c p) (dj h.rules (fA h.rules p h.now) h.now))}:=by
 have hk:=bD o.hk;have e1:gM h.ae (fA h.rules p h.now)=h.ae.set i (fA h.rules p h.now):=Hl o.at_;have e2:dE h p=bU h (k:Int) (fZ c p):=by rw[dE,o.mi,o.ah]
 rw[nj,e1,e2];show bU {bU h (k:Int) (fZ c p) with ae:=_} p.ah (vO (aE (bU h (k:Int) (fZ c p)) p.ah) _)=_;rw[o.ah,PA hk];show({h with ae:=_,cabins:=(h.cabins.set ((k:Int)).toNat _).set ((k:Int)).toNat _}:al)=_;rw[List.set_set,Int.toNat_natCast];rfl
theorem cE.nj (o:cE h i k p c) (h2:p.st=2) (hf:il h.rules p h.now=true):HG (nj h p):=by
 obtain⟨hi,ei⟩:=o.lt;have hk:=bD o.hk;have ok:=Ii hf;have g:=o.hg.jx o.hk;have hd:=oG o.hg.ae;have dr:=o.drop h2;have sz:=o.au;generalize hq:fA h.rules p h.now=q at ok;have q1:q.id=p.id:=by rw[←hq]; rfl
 have q2:q.az=p.az:=by rw[←hq]; rfl
 have q3:q.since=p.since:=by rw[←hq]; rfl
 have q4:q.ah=(k:Int):=by rw[←hq]; exact o.ah
 have q5:q.st=1:=by rw[←hq]; rfl
 have q6:q.aq=p.aq:=by rw[←hq]; rfl
 have q7:q.au=p.au:=by rw[←hq]; rfl
 have dn:c_ h.rules h.now h.az (h.ae.set i q):=o.hg.ae.set hi ok (by rw[ei,q1]) (by rw[ei,q2]) (by rw[ei,q3]);have hm:∀z,z∈h.ae.set i q↔z=q∨(z∈h.ae∧z.id≠p.id):=fun z=>by rw[Cj hd hi,ei]
 have ee:dj h.rules q h.now=jR h.rules q h.now:=vJ ok q5;rw[Cn o,hq,ee];refine o.hg.next rfl rfl rfl ?_ ?_ rfl rfl dn fun j c1 hj=> ?_
 · show(h.ae.set i q).length≤40;rw[List.length_set]; exact o.hg.dy
 · show(h.cabins.set k _).length=_;rw[List.length_set]
 show lD h.rules h.now (h.ae.set i q) j c1;have hj:(h.cabins.set k (vO (fZ c p) (jR h.rules q h.now)))[j]? = some c1:=hj;rw[List.getElem?_set] at hj;have s1:=te (bL (j:Int)) hi q;have s2:=te (cg (j:Int)) hi q;have s3:=te (cu (j:Int)) hi q;have PK:bL (j:Int) q=bL (j:Int) h.ae[i]:=by rw[ei,bL,bL,q4,o.ah]
 have PL:cu (j:Int) q=cu (j:Int) h.ae[i]:=by rw[ei,cu,cu,jP,jP,q6,q7]
 by_cases ej:k=j
 · subst ej;rw[if_pos rfl,if_pos hk] at hj;cases hj;rw[ei,yf h2 o.ah sz,qt (.inl (by rw[q5]; decide))] at s2;have hh:=o.held h2;refine⟨?_, ?_,dr.2.1, ?_,dr.2.2.1, ?_, ?_, ?_⟩
   · show(fZ c p).ai.total=_;rw[dr.1]; exact g.total
   · have:=g.room; omega
   · refine ye dn (Cc nI (by show(c.row).Pairwise _; rw[g.row]; exact vL o.hg.ae _) fun y hy hl=>BU hl fun e=> ?_) fun y=> ?_
     · obtain⟨z,hz,hc,hs,rfl⟩:=o.row.1 hy;have hn:z≠p:=fun e=>by rw[e,h2] at hs; cases hs
       have:=(BW o.hg.ae hz o.mem hn).2;exact this (by rw[←q2]; exact e)
     · show y∈bE bd (jR h.rules q h.now) c.row↔_;rw[qK,o.row]
       constructor
       · rintro(rfl | ⟨z,hz,hc,hs,rfl⟩)
         · exact⟨q,(hm q).2 (.inl rfl),q4,q5,rfl⟩
         · have hn:z≠p:=fun e=>by rw[e,h2] at hs; cases hs
           exact⟨z,(hm z).2 (.inr ⟨hz,o.one hz hn⟩),hc,hs,rfl⟩
       · rintro⟨z,hz,hc,hs,rfl⟩
         rcases(hm z).1 hz with rfl | ⟨hz,_⟩
         · exact .inl rfl
         · exact .inr ⟨z,hz,hc,hs,rfl⟩
   · refine Ck dn dr.2.2.1 fun y=> ?_;rw[show(vO (fZ c p) (jR h.rules q h.now)).spoke=(fZ c p).spoke from rfl,dr.2.2.2,o.pins]
     constructor
     · rintro⟨⟨z,hz,hc,hs,rfl⟩,hn⟩
       have hn:z≠p:=fun e=>hn (by rw[e]);exact⟨z,(hm z).2 (.inr ⟨hz,o.one hz hn⟩),hc,hs,rfl⟩
     · rintro⟨z,hz,hc,hs,rfl⟩
       rcases(hm z).1 hz with rfl | ⟨hz,hn⟩
       · rw[q5] at hs; cases hs
       · exact⟨⟨z,hz,hc,hs,rfl⟩,fun e=>hn (congrArg ay.pid e)⟩
   · show(fZ c p).ai.held=_;rw[dr.1];show c.ai.held - p.au=_;have:=g.held;omega
   · show(fZ c p).ai.tied=_;rw[dr.1];show c.ai.tied=_;have:=g.tied;omega
 · rw [if_neg ej] at hj;have gj:=o.hg.jx hj;have hne:((k:Int))≠(j:Int):=by omega
   rw[ei,qt (.inr (by rw[o.ah]; exact hne)),qt (.inr (by rw[q4]; exact hne))] at s2;refine gj.other o.hg.ae dn rfl rfl rfl gj.kD (fun z hz=> ?_) (by omega) (by have:=gj.held; omega) (by have:=gj.tied; omega);rw[hm]
   constructor
   · rintro(rfl | h)
     · exact(hne (q4.symm.trans hz)).elim
     · exact h.1
   · intro h;exact .inr ⟨h,o.one h fun e=>hne (by rw[←o.ah,←e]; exact hz)⟩
theorem PM (o:cE h i k p c) {j:Nat} {c1:bh} (hj:(hC (dE h p) p).cabins[j]? = some c1) :
   ∃ c0,h.cabins[j]? = some c0∧((j=k∧c0=c∧c1=fZ c p)∨(j≠k∧p.aq=(j:Int)∧c1=kH c0 p.au)∨(j≠k∧p.aq≠(j:Int)∧c1=c0)):=by
 have hk:=bD o.hk;have e2:dE h p=bU h (k:Int) (fZ c p):=by rw[dE,o.mi,o.ah]
 have pn:=qn o.ok;have hne:p.aq≠(k:Int):=by rw[←o.ah]; exact pn.ne
 have base:∀{c1},(h.cabins.set k (fZ c p))[j]? = some c1→∃c0,h.cabins[j]? = some c0∧((j=k∧c0=c∧c1=fZ c p)∨(j≠k∧c1=c0)):=fun {c1} hj=>by
   rw[List.getElem?_set] at hj
   by_cases ej:k=j
   · subst ej;rw[if_pos rfl,if_pos hk] at hj;cases hj;exact⟨c,o.hk, .inl ⟨rfl,rfl,rfl⟩⟩
   · rw[if_neg ej] at hj;exact⟨c1,hj, .inr ⟨fun e=>ej e.symm,rfl⟩⟩
 rw[hC,lC,e2] at hj
 by_cases hf:p.aq = -1
 · rw[if_pos hf] at hj;have hj:(h.cabins.set ((k:Int)).toNat (fZ c p))[j]? = some c1:=hj;rw[Int.toNat_natCast] at hj;obtain⟨c0,h1,h2⟩:=base hj;refine⟨c0,h1, ?_⟩;rcases h2 with h2 | ⟨h2,h3⟩
   · exact .inl h2
   · exact .inr (.inr ⟨h2,by omega,h3⟩)
 · rw [if_neg hf] at hj;have fr:=pn.aq;obtain⟨f,ef⟩:∃f:Nat,p.aq=(f:Int):=⟨p.aq.toNat,by omega⟩;rw[ef] at hj hne;have hne:k≠f:=fun e=>hne (by rw[e]);have hj:((h.cabins.set ((k:Int)).toNat (fZ c p)).set ((f:Int)).toNat (kH (aE (bU h (k:Int) (fZ c p)) (f:Int)) p.au))[j]? = some c1:=hj;rw[Int.toNat_natCast,Int.toNat_natCast,PB hne,List.getElem?_set] at hj
   by_cases ej:f=j
   · subst ej;rw[if_pos rfl] at hj
     split at hj
     · rename_i hl;rw[List.length_set] at hl;cases hj;refine⟨h.cabins[f],List.getElem?_eq_getElem hl, .inr (.inl ⟨fun e=>hne e.symm,ef, ?_⟩)⟩;rw[nk (List.getElem?_eq_getElem hl)]
     · cases hj
   · rw[if_neg ej] at hj;obtain⟨c0,h1,h2⟩:=base hj;refine⟨c0,h1, ?_⟩;rcases h2 with h2 | ⟨h2,h3⟩
     · exact .inl h2
     · exact .inr (.inr ⟨h2,by omega,h3⟩)
theorem Im (h:al) (p:ax):(lC h p).cabins.length=h.cabins.length:=by
 unfold lC; split
 · rfl
 · exact qq _ _ _
theorem lE (h:al) (p:ax):(lC h p).rules=h.rules∧(lC h p).now=h.now∧(lC h p).az=h.az∧(lC h p).ae=h.ae∧(lC h p).todo=h.todo∧(lC h p).aA=h.aA:=by
 unfold lC; split
 · exact⟨rfl,rfl,rfl,rfl,rfl,rfl⟩
 · exact⟨rfl,rfl,rfl,rfl,rfl,rfl⟩
theorem cE.gone (o:cE h i k p c) (h2:p.st=2):HG (hC (dE h p) p):=by
 obtain⟨hi,ei⟩:=o.lt;have hk:=bD o.hk;have g:=o.hg.jx o.hk;have hd:=oG o.hg.ae;have dr:=o.drop h2;have sz:=o.au;have pn:=qn o.ok
 have ep:(hC (dE h p) p).ae=h.ae.take i++h.ae.drop (i+1):=by
   refine(lE _ _).2.2.2.1.trans ?_;exact Hm o.at_
 have dn:c_ h.rules h.now h.az (h.ae.take i++h.ae.drop (i+1)):=o.hg.ae.cut i;have hm:∀z,z∈h.ae.take i++h.ae.drop (i+1)↔z∈h.ae∧z.id≠p.id:=fun z=>by rw[Ci hd hi,ei]
 refine o.hg.next (lE _ _).1 (lE _ _).2.1 (lE _ _).2.2.1 ?_ ?_ (lE _ _).2.2.2.2.1 (lE _ _).2.2.2.2.2 (by rw[ep]; exact dn) fun j c1 hj=> ?_
 · rw[ep,List.length_append,List.length_take,List.length_drop];have:=o.hg.dy; omega
 · exact(Im _ _).trans (qq _ _ _)
 rw[ep];obtain⟨c0,gv,h5⟩:=PM o hj;have gj:=o.hg.jx gv;have s1:=vN (bL (j:Int)) hi;have s2:=vN (cg (j:Int)) hi;have s3:=vN (cu (j:Int)) hi;rcases h5 with⟨rfl,rfl,rfl⟩ | ⟨lN,hf,rfl⟩ | ⟨lN,hf,rfl⟩
 · rw [ei,yf h2 o.ah sz] at s2;rw[ei,Il (by rw[←o.ah]; exact pn.ne)] at s3;have hh:=o.held h2;refine⟨?_, ?_,dr.2.1, ?_,dr.2.2.1, ?_, ?_, ?_⟩
   · rw[dr.1]; exact g.total
   · have:=g.room; omega
   · show c0.row=_;refine ye dn (by rw[g.row]; exact vL o.hg.ae _) fun y=> ?_;rw[o.row]
     constructor
     · rintro⟨z,hz,hc,hs,rfl⟩
       have hn:z≠p:=fun e=>by rw[e,h2] at hs; cases hs
       exact⟨z,(hm z).2 ⟨hz,o.one hz hn⟩,hc,hs,rfl⟩
     · rintro⟨z,hz,hc,hs,rfl⟩
       exact⟨z,((hm z).1 hz).1,hc,hs,rfl⟩
   · refine Ck dn dr.2.2.1 fun y=> ?_;rw[dr.2.2.2,o.pins]
     constructor
     · rintro⟨⟨z,hz,hc,hs,rfl⟩,hn⟩
       have hn:z≠p:=fun e=>hn (by rw[e]);exact⟨z,(hm z).2 ⟨hz,o.one hz hn⟩,hc,hs,rfl⟩
     · rintro⟨z,hz,hc,hs,rfl⟩
       have:=(hm z).1 hz;exact⟨⟨z,this.1,hc,hs,rfl⟩,fun e=>this.2 (congrArg ay.pid e)⟩
   · rw[dr.1];show c0.ai.held - p.au=_;have:=g.held;omega
   · rw[dr.1];show c0.ai.tied=_;have:=g.tied;omega
 · have hne:(k:Int)≠(j:Int):=by omega
   rw[ei,qt (.inr (by rw[o.ah]; exact hne))] at s2;rw[ei,PF hf sz] at s3;have t1:=gj.tied;have t2:=PJ gj.kD (n:=p.au) (by omega) (by omega);refine gj.other o.hg.ae dn rfl rfl (by show(bW c0.ai p.au 0 0 0 (-1)).total=_; rw[t2.1]) t2.2 (fun z hz=> ?_) (by omega) ?_ ?_
   · rw[hm];exact⟨fun h=>h.1,fun h=>⟨h,o.one h fun e=>hne (by rw[←o.ah,←e]; exact hz)⟩⟩
   · show(bW c0.ai p.au 0 0 0 (-1)).held=_;rw[t2.1];have:=gj.held;show c0.ai.held=_;omega
   · show(bW c0.ai p.au 0 0 0 (-1)).tied=_;rw[t2.1];show c0.ai.tied - p.au=_;omega
 · have hne:(k:Int)≠(j:Int):=by omega
   rw[ei,qt (.inr (by rw[o.ah]; exact hne))] at s2;rw[ei,Il hf] at s3;refine gj.other o.hg.ae dn rfl rfl rfl gj.kD (fun z hz=> ?_) (by omega) (by have:=gj.held; omega) (by have:=gj.tied; omega);rw[hm];exact⟨fun h=>h.1,fun h=>⟨h,o.one h fun e=>hne (by rw[←o.ah,←e]; exact hz)⟩⟩
theorem cE.Io (o:cE h i k p c) (h2:p.st=2):HG (fM h p):=by
 unfold fM; split
 · rename_i hf; exact o.nj h2 hf
 · exact o.gone h2
theorem cE.stay (o:cE h i k p c) {z:ax} (hz:z∈h.ae) (hn:z.id≠p.id):z∈(fM h p).ae:=by
 obtain⟨hi,ei⟩:=o.lt;have hd:=oG o.hg.ae;unfold fM; split
 · rw[Cn o];exact(Cj hd hi).2 (.inr ⟨hz,by rw[ei]; exact hn⟩)
 · rw[show(hC (dE h p) p).ae=h.ae.take i++h.ae.drop (i+1) from(lE _ _).2.2.2.1.trans (Hm o.at_)];exact(Ci hd hi).2 ⟨hz,by rw[ei]; exact hn⟩
theorem cE.mJ (o:cE h i k p c):(fM h p).rules=h.rules∧(fM h p).now=h.now∧(fM h p).cabins.length=h.cabins.length∧(fM h p).todo=h.todo∧(fM h p).aA=h.aA:=by
 unfold fM; split
 · rw[Cn o];exact⟨rfl,rfl,List.length_set,rfl,rfl⟩
 · exact⟨(lE _ _).1,(lE _ _).2.1,(Im _ _).trans (qq _ _ _),(lE _ _).2.2.2.2.1,(lE _ _).2.2.2.2.2⟩
theorem cE.Co (o:cE h i k p c) (h2:p.st=2) (hf:il h.rules p h.now=true):qm c.row (dj h.rules (fA h.rules p h.now) h.now)=bE bd (dj h.rules (fA h.rules p h.now) h.now) c.row:=by
 have r:=rA o.hg o.hk;have ok:=Ii hf;have e:=vJ ok (rfl:(fA h.rules p h.now).st=1);have hm:eB p∈fJ h.ae (k:Int):=rC.2 ⟨p,o.mem,o.ah,h2,rfl⟩
 have hl:1≤(eX (k:Int) h.ae).length:=by
  rw[fJ,tY] at hm;exact List.length_pos_of_mem hm
 have h3:=r.bB;have h4:=r.room;have h5:=(fv o.hg.rules).room
 have key:∀y∈c.row,y.bm≠p.id∧y.az≠p.az:=fun y hy=>by
  obtain⟨z,hz,hc,hs,rfl⟩:=o.row.1 hy;have hn:z≠p:=fun e=>by rw[e,h2] at hs; cases hs
  exact BW o.hg.ae hz o.mem hn
 refine HU r.pre (by omega) (BV ok rfl) (fun y hy=> ?_) (fun y hy=> ?_)
 · rw[e]; exact(key y hy).1
 · rw[e]; exact(key y hy).2
end
end Go.Proofs.YtpklefhdkkegiaaGreat

