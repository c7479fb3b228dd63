/- Parts of a proof. No conditions. -/

import Derived.Test.YtpklefhdkkegiaaGreatG19
import Derived.Test.YtpklefhdkkegiaaGreatG18
import Derived.Test.YtpklefhdkkegiaaGreatG09
import Derived.Test.YtpklefhdkkegiaaGreatG14
import Derived.Test.YtpklefhdkkegiaaGreatG16
set_option linter.unusedSimpArgs false
set_option linter.unusedVariables false
namespace Go.Proofs.YtpklefhdkkegiaaGreat
open Go
set_option maxRecDepth 100000
def iL (l:List Entry) (e:Entry):Bool:=dg l && dg (bE bd e l)
def qm (l:List Entry) (e:Entry):List Entry:=if iL l e=true then bE bd e l else l
set_option maxHeartbeats 1000000 in
theorem HO (l:List Entry) (e:Entry) (hl:l.length≤aS) (x:List Entry) (hx:x=qm l e) (b:Bool) (hb:b=iL l e):Spec Tryz.prog 161 [lA .aH l,eA .aH e] (aM (.ba [(false,[.own .aH fun _=>x]),(false,[.bool fun _=>b])])):=by
 have hn:l.length≤1048576:=hl;have fin:∀i,i≤l.length→(∀(j:Nat) y,j<i→l[j]? = some y→bd y e=true)→(∀y,l[i]? = some y→bd y e=false)→l.take i++e::l.drop i=bE bd e l:=fun i _ h1 h2=>(zb h1 h2).symm;refine aN aD Tryz.func161 rfl rfl (fr:=true) (fun _=>by kernel_rfl) fun P hP hA=> ?_;cbv;refine ag.by hP (vq l hl) ?_;cbv;refine aW.by (X:=Nat) (fun i=>[(0,lA .aH l),(3,pN 0),(6,oN 1),(7,nT fun _=>i)]) (fun _=>[(0, .box ((bH .aH fun _=>e).map .lf)),(1,aK .aH fun _=>l)]) (fun i=>i≤l.length∧∀(j:Nat) y,j<i→l[j]? = some y→bd y e=true) (fun i _=>l.length - i) 0 ⟨Nat.zero_le _,fun j y hj=>by omega⟩ ?_ ?_
 · cbv
   repeat' first | exact trivial | refine⟨rfl, ?_⟩ | fail
 · intro i ⟨hi,hp⟩;have rest:∀(hf:∀y,l[i]? = some y→bd y e=false),l.take i++e::l.drop i=bE bd e l:=fin i hi hp;cbv;refine Br.dec (fun h2=> ?_) (fun h2=> ?_) <;> cbv
   · have h2 :i<l.length:=by simpa using h2
     refine⟨l[i],by simp,get_cast l h2, ?_⟩;cbv;refine ag.by hP (F5 l[i] e) ?_;cbv;refine Br.split (fun h3=> ?_) (fun h3=> ?_) <;> cbv
     · refine Ar.exact (by(try simp only[nc] at *); omega) (by(try simp only[nc] at *); omega) ?_;cbv;refine aO.by (i+1) ?_ ?_ ?_
       · show l.length - (i+1)<l.length - i;omega
       · exact⟨h2,gy h2 hp h3⟩
       · cbv
         repeat' first | exact trivial | refine⟨rfl, ?_⟩ | fail
     · have h3:bd l[i] e=false:=h3
       have ee:=rest fun y hy=>by
         rw[List.getElem?_eq_getElem h2] at hy; cases hy; exact h3
       repeat' first
         | (refine ag.by hP (vq l hl) ?_; cbv)
         | (refine aJ.by hP (He l e i hi hl) ?_; cbv)
         | (refine ag.by hP (vj l (dg l) rfl) ?_; cbv)
         | refine And.intro ?_ ?_
         | fail
       all_goals
         refine Br.split (fun h4=> ?_) (fun h4=> ?_) <;> cbv
         · have h4:(!dg l)=true:=h4;have h4:dg l=false:=by simpa using h4
           have eb:iL l e=false:=by rw[iL,h4]; rfl
           obtain rfl:l=x:=(hx.trans (if_neg (by rw[eb]; simp))).symm;obtain rfl:b=false:=hb.trans eb
           repeat' first | exact trivial | refine⟨rfl, ?_⟩ | fail
         have h4:(!dg l)=false:=h4;have h4:dg l=true:=by simpa using h4
         refine ag.by hP (vj (l.take i++e::l.drop i) (dg (bE bd e l)) (by rw[ee])) ?_;cbv;refine Br.split (fun h5=> ?_) (fun h5=> ?_) <;> cbv
         · have h5:(!dg (bE bd e l))=true:=h5;have h5:dg (bE bd e l)=false:=by simpa using h5
           have eb:iL l e=false:=by rw[iL,h4,h5]; rfl
           obtain rfl:l=x:=(hx.trans (if_neg (by rw[eb]; simp))).symm;obtain rfl:b=false:=hb.trans eb
           repeat' first | exact trivial | refine⟨rfl, ?_⟩ | fail
         have h5:(!dg (bE bd e l))=false:=h5;have h5:dg (bE bd e l)=true:=by simpa using h5
         have eb:iL l e=true:=by rw[iL,h4,h5]; rfl
         obtain rfl:b=true:=hb.trans eb;have ex:l.take i++e::l.drop i=x:=ee.trans (hx.trans (if_pos eb)).symm
         repeat' first | exact trivial | refine⟨rfl, ?_⟩ | refine⟨ex, ?_⟩ | fail
   · have h2:l.length≤i:=by simp at h2; omega
     have ee:=rest fun y hy=>by
       rw[List.getElem?_eq_none h2] at hy; cases hy
     repeat' first
       | (refine ag.by hP (vq l hl) ?_; cbv)
       | (refine aJ.by hP (He l e i hi hl) ?_; cbv)
       | (refine ag.by hP (vj l (dg l) rfl) ?_; cbv)
       | refine And.intro ?_ ?_
       | fail
     all_goals
       refine Br.split (fun h4=> ?_) (fun h4=> ?_) <;> cbv
       · have h4:(!dg l)=true:=h4;have h4:dg l=false:=by simpa using h4
         have eb:iL l e=false:=by rw[iL,h4]; rfl
         obtain rfl:l=x:=(hx.trans (if_neg (by rw[eb]; simp))).symm;obtain rfl:b=false:=hb.trans eb
         repeat' first | exact trivial | refine⟨rfl, ?_⟩ | fail
       have h4:(!dg l)=false:=h4;have h4:dg l=true:=by simpa using h4
       refine ag.by hP (vj (l.take i++e::l.drop i) (dg (bE bd e l)) (by rw[ee])) ?_;cbv;refine Br.split (fun h5=> ?_) (fun h5=> ?_) <;> cbv
       · have h5:(!dg (bE bd e l))=true:=h5;have h5:dg (bE bd e l)=false:=by simpa using h5
         have eb:iL l e=false:=by rw[iL,h4,h5]; rfl
         obtain rfl:l=x:=(hx.trans (if_neg (by rw[eb]; simp))).symm;obtain rfl:b=false:=hb.trans eb
         repeat' first | exact trivial | refine⟨rfl, ?_⟩ | fail
       have h5:(!dg (bE bd e l))=false:=h5;have h5:dg (bE bd e l)=true:=by simpa using h5
       have eb:iL l e=true:=by rw[iL,h4,h5]; rfl
       obtain rfl:b=true:=hb.trans eb;have ex:l.take i++e::l.drop i=x:=ee.trans (hx.trans (if_pos eb)).symm
       repeat' first | exact trivial | refine⟨rfl, ?_⟩ | refine⟨ex, ?_⟩ | fail
def il (R:br) (p:ax) (now:Int):Bool:=bz R p now && (p.st == 2 && decide (p.asked+1<R.tries))
def fA (R:br) (p:ax) (now:Int):ax:={p with st:=1,dP:=now+R.rest,asked:=p.asked+1}
def HP (R:br) (p:ax) (now:Int):ax:=if il R p now=true then fA R p now else default
def Ph (x:Unit→ax):List Sh:=[.int .i64 fun _=>(x ()).id, .int .i64 fun _=>(x ()).ah, .int .i64 fun _=>(x ()).aq, .int .i64 fun _=>(x ()).au, .int .i64 fun _=>(x ()).aT,
 .int .i64 fun _=>(x ()).since, .int .i64 fun _=>(x ()).az, .int .i64 fun _=>(x ()).st, .int .i64 fun _=>(x ()).dP, .int .i64 fun _=>(x ()).asked]
theorem HQ {R:br} {p:ax} {now:Int} (h:bz R p now=true):0≤p.asked∧p.asked≤R.tries - 1:=by
 simp only[bz,Bool.and_eq_true] at h;obtain⟨_,_,_,_,_,_,_,_,_,_,h1,_⟩:=h;exact bF h1
set_option maxHeartbeats 1000000 in
theorem HS (R:br) (p:ax) (now:Int) (hs:R.ai.length≤aS) (x:ax) (hx:x=HP R p now) (b:Bool) (hb:b=il R p now) :
   Spec Tryz.prog 189 [fT R,eA .aB p,iA now] (aM (.ba [(true,Ph fun _=>x),(false,[.bool fun _=>b])])):=by
 have no:il R p now=false→x=default∧b=false:=fun e=>⟨hx.trans (if_neg (by rw[e]; simp)),hb.trans e⟩;refine aN aD Tryz.func189 rfl rfl (fr:=true) (fun _=>by kernel_rfl) fun P hP hA=> ?_;cbv;refine ag.by hP (xE R p now hs (bz R p now) rfl) ?_;cbv;refine Br.split (fun k0=> ?_) (fun k0=> ?_) <;> cbv
 · have k0:(!bz R p now)=true:=k0;have k0:bz R p now=false:=by simpa using k0
   have e:=no (by rw[il,k0]; rfl);obtain rfl:x=default:=e.1;obtain rfl:b=false:=e.2
   repeat' first | exact trivial | refine⟨rfl, ?_⟩ | fail
 have k0:(!bz R p now)=false:=k0;have k0:bz R p now=true:=by simpa using k0
 have ha:=HQ k0;have hp:=p6 k0;have hn:=hp.sM;have hr:=fv hp.rules;have ht:=hr.tries;have Ru:=hr.rest;refine Br.split (fun k1=> ?_) (fun k1=> ?_) <;> cbv
 · have k1:(p.st != 2)=true:=k1
   have e:=no (by
    have k1:(p.st == 2)=false:=by simpa using k1
    rw[il,k0,k1]; rfl)
   obtain rfl:x=default:=e.1;obtain rfl:b=false:=e.2
   repeat' first | exact trivial | refine⟨rfl, ?_⟩ | fail
 have k1:(p.st != 2)=false:=k1;have k1:(p.st == 2)=true:=by simpa using k1
 refine Ar.exact (by(try simp only[nc] at *); omega) (by(try simp only[nc] at *); omega) ?_;cbv;refine Br.split (fun k2=> ?_) (fun k2=> ?_) <;> cbv
 · have k2:p.asked+1≥R.tries:=by
    have k2:(p.asked+1 == R.tries)=true:=k2;have k2:p.asked+1=R.tries:=by simpa using k2
    omega
   have e:=no (by rw[il,k0,k1,decide_eq_false (by omega)]; rfl);obtain rfl:x=default:=e.1;obtain rfl:b=false:=e.2
   repeat' first | exact trivial | refine⟨rfl, ?_⟩ | fail
 have k2:p.asked+1<R.tries:=by
   have k2:(p.asked+1 == R.tries)=false:=k2;have k2:¬p.asked+1=R.tries:=by simpa using k2
   omega
 have e:il R p now=true:=by rw[il,k0,k1,decide_eq_true k2]; rfl
 obtain rfl:x=fA R p now:=hx.trans (if_pos e);obtain rfl:b=true:=hb.trans e;refine Ar.exact (by(try simp only[nc] at *); omega) (by(try simp only[nc] at *); omega) ?_;cbv;refine Ar.exact (by(try simp only[nc] at *); omega) (by(try simp only[nc] at *); omega) ?_;cbv
 repeat' first | exact trivial | refine⟨rfl, ?_⟩ | fail
theorem BU {a e:Entry} (h:bd a e=false) (ht:a.az≠e.az):bd e a=true:=by
 simp only[bd,Bool.or_eq_false_iff,Bool.and_eq_false_iff,decide_eq_false_iff_not,beq_eq_false_iff_ne] at h;simp only[bd,Bool.or_eq_true,Bool.and_eq_true,decide_eq_true_eq,beq_iff_eq];omega
theorem HT {e:Entry} (he:ff e=true):∀{l:List Entry},fI l→(∀y∈l,y.bm≠e.bm)→(∀y∈l,y.az≠e.az)→fI (bE bd e l)
 | [],_,_,_=>⟨fun x hx=>by rw[bE,List.mem_singleton] at hx; rw[hx]; exact he,List.pairwise_singleton _ _,List.pairwise_singleton _ _⟩
 | a :: s,h,hn,ht=>by
   obtain⟨l1,l2⟩:=List.pairwise_cons.1 h.lt;obtain⟨n1,n2⟩:=List.pairwise_cons.1 h.ne;have hs:fI s:=⟨fun x hx=>h.ok x (List.mem_cons_of_mem _ hx),l2,n2⟩;have ih:=HT he hs (fun y hy=>hn y (List.mem_cons_of_mem _ hy)) (fun y hy=>ht y (List.mem_cons_of_mem _ hy));rw[bE]
   split
   · rename_i aR;refine⟨fun x hx=> ?_,List.pairwise_cons.2 ⟨fun b hb=> ?_,ih.lt⟩,List.pairwise_cons.2 ⟨fun b hb=> ?_,ih.ne⟩⟩
     · rcases List.mem_cons.1 hx with rfl | hx
       · exact h.ok _ List.mem_cons_self
       · exact ih.ok x hx
     · rcases qK.1 hb with rfl | hb
       · exact aR
       · exact l1 b hb
     · rcases qK.1 hb with rfl | hb
       · exact hn a List.mem_cons_self
       · exact n1 b hb
   · rename_i aR;have aR:bd e a=true:=BU (by simpa using aR) (ht a List.mem_cons_self);refine⟨fun x hx=> ?_,List.pairwise_cons.2 ⟨fun b hb=> ?_,h.lt⟩,List.pairwise_cons.2 ⟨fun b hb=>fun q=>hn b hb q.symm,h.ne⟩⟩
     · rcases List.mem_cons.1 hx with rfl | hx
       · exact he
       · exact h.ok x hx
     · rcases List.mem_cons.1 hb with rfl | hb
       · exact aR
       · exact nI.tr _ _ _ aR (l1 b hb)
theorem HU {l:List Entry} {e:Entry} (h:fI l) (hl:l.length≤9) (he:ff e=true) (hn:∀y∈l,y.bm≠e.bm) (ht:∀y∈l,y.az≠e.az):qm l e=bE bd e l:=by
 have h1:dg l=true:=vi (by omega) h;have h2:dg (bE bd e l)=true:=vi (by rw[tX]; omega) (HT he h hn ht);rw[qm,iL,h1,h2]; rfl
structure Pj (R:br) (p:ax):Prop where
 id:1≤p.id∧p.id≤999
 ah:0≤p.ah∧p.ah≤(R.ai.length:Int) - 1
 aq: -1≤p.aq∧p.aq≤(R.ai.length:Int) - 1
 ne:¬p.aq=p.ah
 az:1≤p.az∧p.az≤1000000
 st:p.st=1∨p.st=2
theorem qn {R:br} {p:ax} {now:Int} (h:bz R p now=true):Pj R p:=by
 simp only[bz,Bool.and_eq_true,Bool.or_eq_true,beq_iff_eq,Bool.not_eq_true',beq_eq_false_iff_ne] at h;obtain⟨_,_,h1,h2,h3,h4,_,_,_,h5,_,h6⟩:=h;exact⟨bF h1,bF h2,bF h3,h4,bF h5,h6.elim (fun q=> .inl q.1) (fun q=> .inr q.1)⟩
theorem vJ {R:br} {p:ax} {now:Int} (h:bz R p now=true) (h1:p.st=1):dj R p now=jR R p now:=by
 rw[dj,if_pos (by rw[eo,h,h1]; rfl)]
theorem BV {R:br} {p:ax} {now:Int} (h:bz R p now=true) (h1:p.st=1):ff (dj R p now)=true:=by
 have g:=p6 h;have g2:=qn h;have gr:=fv g.rules;have ht:=bF g.aT;have q1:=g.since;have q2:=g.sM;have q3:=gr.period;have q4:=gr.cd;have q5:=gr.size;have q6:=g.au;have q7:=g2.id;have q8:=g2.az;have q9:=A7 (a:=now - p.since) (b:=R.period) (by omega) (by omega) (by omega);have e0:0≤lvl R p.aT (now - p.since):=F1 _ _ _;have e1:lvl R p.aT (now - p.since)≤4:=by unfold lvl; split <;> omega
 rw[vJ h h1,jR,lx,if_pos h];simp only[ff,aj,Bool.and_eq_true,decide_eq_true_eq];omega
theorem HV (R:br) (now:Int) (k:Int):∀l:List ax,(l.filter fun p=>eo R p now && p.ah == k).length+(l.filter fun p=>p.st == 2 && p.ah == k).length≤aV (bL k) l
 | []=>Nat.le_refl _
 | p :: l =>by
   have ih:=HV R now k l;have e:aV (bL k) (p::l)=bL k p+aV (bL k) l:=rfl;rw[e,List.filter_cons,List.filter_cons];cases hc:(p.ah == k) with
   | false=>simp[hc]; omega
   | true =>
     have e2:bL k p=1:=by rw[bL,if_pos hc]
     rw[e2];cases h1:eo R p now with
     | false=>
       cases h2:(p.st == 2) <;> simp <;> omega
     | true=>
       have h2:(p.st == 2)=false:=by
        have h3:(p.st == 1)=true:=by simp only[eo,Bool.and_eq_true] at h1; exact h1.2
        have h3:p.st=1:=by simpa using h3
        rw[h3]; rfl
       simp[h2]; omega
structure Pk (h:al) (k:Nat) (c:bh):Prop where
 pre:fI c.row
 bB:c.row.length+(eX (k:Int) h.ae).length≤aV (bL (k:Int)) h.ae
 room:((aV (bL (k:Int)) h.ae:Nat):Int)≤h.rules.room
 of:∀y∈c.row,∃z∈h.ae,z.ah=(k:Int)∧z.st=1∧y.bm=z.id∧y.az=z.az
 row:c.row=eN h.rules h.ae (k:Int) h.now
 pins:cB c.spoke=fJ h.ae (k:Int)
 kG:bu c.spoke=true
 kD:aZ c.ai=true
 held:c.ai.held=((aV (cg (k:Int)) h.ae:Nat):Int)
 tied:c.ai.tied=((aV (cu (k:Int)) h.ae:Nat):Int)
 total:c.ai.total=h.rules.ai.getD k 0
theorem rA {h:al} (hg:HG h) {k:Nat} {c:bh} (hk:h.cabins[k]? = some c):Pk h k c:=by
 have h1:=hg.ah k c hk;simp only[g_,fh,jT,Bool.and_eq_true,decide_eq_true_eq,beq_iff_eq] at h1;obtain⟨h0,h2,⟨q1,q2,q3⟩,h3,h4,h5,h6⟩:=h1
 have hq:fI c.row:=by
   simp only[dg,Bool.and_eq_true,decide_eq_true_eq] at q2;exact q2.2
 refine⟨hq, ?_,h2,fun y hy=> ?_,h3,h4,q3,q1,h5,h6,h0⟩
 · have:=HV h.rules h.now (k:Int) h.ae;rw[h3,eN,kh,eF,List.length_map,eX,List.length_map];exact this
 · rw[h3,eN,tY] at hy;obtain⟨z,hz,rfl⟩:=List.mem_map.1 hy;obtain⟨z1,z2⟩:=List.mem_filter.1 hz;simp only[Bool.and_eq_true,beq_iff_eq] at z2;obtain⟨z2,z3⟩:=z2;have z4:=z2;simp only[eo,Bool.and_eq_true,beq_iff_eq] at z4;exact⟨z,z1,z3,z4.2,by rw[dj,if_pos z2]; rfl,by rw[dj,if_pos z2]; rfl⟩
theorem BW {R:br} {now az:Int} {l:List ax} (h:c_ R now az l) {p q:ax} (hp:p∈l) (hq:q∈l) (hne:p≠q):p.id≠q.id∧p.az≠q.az:=by
 obtain⟨i,hi,rfl⟩:=List.getElem_of_mem hp;obtain⟨j,hj,rfl⟩:=List.getElem_of_mem hq;have hs:=List.pairwise_iff_getElem.1 h.fg;have hf:=List.pairwise_iff_getElem.1 h.fair;have ft:∀{a b:ax},fw a b=true→a.az≠b.az:=fun {a b} h e=>by simp[fw,e] at h
 rcases Nat.lt_trichotomy i j with nx | rfl | nx
 · have h1:=hs i j hi hj nx;have h2:=ft (hf i j hi hj nx);exact⟨by omega,h2⟩
 · exact(hne rfl).elim
 · have h1:=hs j i hj hi nx;have h2:=ft (hf j i hj hi nx);exact⟨by omega,fun e=>h2 e.symm⟩
theorem BX:∀(n:Nat) {l:List Int},(∀x∈l,0≤x∧x<(n:Int))→(l.Pairwise fun a b=>a≠b)→l.length≤n
 | 0,[],_,_=>Nat.le_refl _
 | 0,x::l,h,_=>by have:=h x List.mem_cons_self; omega
 | n + 1,l,h,hp=>by
   by_cases q:(n:Int)∈l
   · have pm:=List.perm_cons_erase q;obtain⟨n1,n2⟩:=List.pairwise_cons.1 ((pm.pairwise_iff (fun {a b} q e=>q e.symm)).1 hp)
     have ih:=BX n (l:=l.erase (n:Int)) (fun x hx=>by
      have h1:=h x (pm.mem_iff.2 (List.mem_cons_of_mem _ hx));have h2:=n1 x hx;omega) n2
     have:=pm.length_eq;rw[List.length_cons] at this; omega
   · have ih:=BX n (l:=l) (fun x hx=>by
      have h1:=h x hx;have h2:x≠(n:Int):=fun e=>q (e▸hx);omega) hp
     omega
theorem qo {h:al} (hg:HG h):h.todo.length≤4:=by
 have h1:=BX h.cabins.length (l:=h.todo) (fun x hx=>by have:=bF (hg.aA.todo x hx); omega) hg.aA.once;have h2:=(fv hg.rules).len;have h3:=hg.iX;omega
end Go.Proofs.YtpklefhdkkegiaaGreat

