/- Parts of a proof. No conditions. -/

import Derived.Test.YtpklefhdkkegiaaGreatG19
import Derived.Test.YtpklefhdkkegiaaGreatG18
import Derived.Test.YtpklefhdkkegiaaGreatG09
import Derived.Test.YtpklefhdkkegiaaGreatG14
import Derived.Test.YtpklefhdkkegiaaGreatG16
set_option linter.unusedSimpArgs false
set_option linter.unusedVariables false
namespace Go.Proofs.YtpklefhdkkegiaaGreat
open Go
set_option maxRecDepth 100000
def jY (l:List Entry) (e:Entry):Bool:=dJ l && dJ (bP bd e l)
def sN (l:List Entry) (e:Entry):List Entry:=if jY l e=true then bP bd e l else l
set_option maxHeartbeats 1000000 in
theorem Lq (l:List Entry) (e:Entry) (hl:l.length≤aN) (x:List Entry) (hx:x=sN l e) (b:Bool) (hb:b=jY l e):Spec Tryz.prog 161 [lA .aJ l,eA .aJ e] (aG (.aS [(false,[.own .aJ fun _=>x]),(false,[.bool fun _=>b])])):=by
 have hn:l.length≤1048576:=hl;have fin:∀i,i≤l.length→(∀(j:Nat) y,j<i→l[j]? = some y→bd y e=true)→(∀y,l[i]? = some y→bd y e=false)→l.take i++e::l.drop i=bP bd e l:=fun i _ h1 h2=>(Cr h1 h2).symm;refine aF au Tryz.func161 rfl rfl (fr:=true) (fun _=>by kernel_rfl) fun P hP hA=> ?_;cbv;refine af.by hP (ye l hl) ?_;cbv;refine aR.by (X:=Nat) (fun i=>[(0,lA .aJ l),(3,pN 0),(6,oN 1),(7,nT fun _=>i)]) (fun _=>[(0, .box ((bY .aJ fun _=>e).map .lf)),(1,aH .aJ fun _=>l)]) (fun i=>i≤l.length∧∀(j:Nat) y,j<i→l[j]? = some y→bd y e=true) (fun i _=>l.length - i) 0 ⟨Nat.zero_le _,fun j y hj=>by omega⟩ ?_ ?_
 · cbv
   repeat' first | exact trivial | refine⟨rfl, ?_⟩ | fail
 · intro i ⟨hi,hp⟩;have rest:∀(hf:∀y,l[i]? = some y→bd y e=false),l.take i++e::l.drop i=bP bd e l:=fin i hi hp;cbv;refine Br.dec (fun h2=> ?_) (fun h2=> ?_) <;> cbv
   · have h2 :i<l.length:=by simpa using h2
     refine⟨l[i],by simp,get_cast l h2, ?_⟩;cbv;refine af.by hP (JL l[i] e) ?_;cbv;refine Br.split (fun h3=> ?_) (fun h3=> ?_) <;> cbv
     · refine Ar.exact (by(try simp only[nc] at *); omega) (by(try simp only[nc] at *); omega) ?_;cbv;refine aL.by (i+1) ?_ ?_ ?_
       · show l.length - (i+1)<l.length - i;omega
       · exact⟨h2,gN h2 hp h3⟩
       · cbv
         repeat' first | exact trivial | refine⟨rfl, ?_⟩ | fail
     · have h3:bd l[i] e=false:=h3
       have ee:=rest fun y hy=>by
         rw[List.getElem?_eq_getElem h2] at hy; cases hy; exact h3
       repeat' first
         | (refine af.by hP (ye l hl) ?_; cbv)
         | (refine aD.by hP (KO l e i hi hl) ?_; cbv)
         | (refine af.by hP (xU l (dJ l) rfl) ?_; cbv)
         | refine And.intro ?_ ?_
         | fail
       all_goals
         refine Br.split (fun h4=> ?_) (fun h4=> ?_) <;> cbv
         · have h4:(!dJ l)=true:=h4;have h4:dJ l=false:=by simpa using h4
           have eb:jY l e=false:=by rw[jY,h4]; rfl
           obtain rfl:l=x:=(hx.trans (if_neg (by rw[eb]; simp))).symm;obtain rfl:b=false:=hb.trans eb
           repeat' first | exact trivial | refine⟨rfl, ?_⟩ | fail
         have h4:(!dJ l)=false:=h4;have h4:dJ l=true:=by simpa using h4
         refine af.by hP (xU (l.take i++e::l.drop i) (dJ (bP bd e l)) (by rw[ee])) ?_;cbv;refine Br.split (fun h5=> ?_) (fun h5=> ?_) <;> cbv
         · have h5:(!dJ (bP bd e l))=true:=h5;have h5:dJ (bP bd e l)=false:=by simpa using h5
           have eb:jY l e=false:=by rw[jY,h4,h5]; rfl
           obtain rfl:l=x:=(hx.trans (if_neg (by rw[eb]; simp))).symm;obtain rfl:b=false:=hb.trans eb
           repeat' first | exact trivial | refine⟨rfl, ?_⟩ | fail
         have h5:(!dJ (bP bd e l))=false:=h5;have h5:dJ (bP bd e l)=true:=by simpa using h5
         have eb:jY l e=true:=by rw[jY,h4,h5]; rfl
         obtain rfl:b=true:=hb.trans eb;have ex:l.take i++e::l.drop i=x:=ee.trans (hx.trans (if_pos eb)).symm
         repeat' first | exact trivial | refine⟨rfl, ?_⟩ | refine⟨ex, ?_⟩ | fail
   · have h2:l.length≤i:=by simp at h2; omega
     have ee:=rest fun y hy=>by
       rw[List.getElem?_eq_none h2] at hy; cases hy
     repeat' first
       | (refine af.by hP (ye l hl) ?_; cbv)
       | (refine aD.by hP (KO l e i hi hl) ?_; cbv)
       | (refine af.by hP (xU l (dJ l) rfl) ?_; cbv)
       | refine And.intro ?_ ?_
       | fail
     all_goals
       refine Br.split (fun h4=> ?_) (fun h4=> ?_) <;> cbv
       · have h4:(!dJ l)=true:=h4;have h4:dJ l=false:=by simpa using h4
         have eb:jY l e=false:=by rw[jY,h4]; rfl
         obtain rfl:l=x:=(hx.trans (if_neg (by rw[eb]; simp))).symm;obtain rfl:b=false:=hb.trans eb
         repeat' first | exact trivial | refine⟨rfl, ?_⟩ | fail
       have h4:(!dJ l)=false:=h4;have h4:dJ l=true:=by simpa using h4
       refine af.by hP (xU (l.take i++e::l.drop i) (dJ (bP bd e l)) (by rw[ee])) ?_;cbv;refine Br.split (fun h5=> ?_) (fun h5=> ?_) <;> cbv
       · have h5:(!dJ (bP bd e l))=true:=h5;have h5:dJ (bP bd e l)=false:=by simpa using h5
         have eb:jY l e=false:=by rw[jY,h4,h5]; rfl
         obtain rfl:l=x:=(hx.trans (if_neg (by rw[eb]; simp))).symm;obtain rfl:b=false:=hb.trans eb
         repeat' first | exact trivial | refine⟨rfl, ?_⟩ | fail
       have h5:(!dJ (bP bd e l))=false:=h5;have h5:dJ (bP bd e l)=true:=by simpa using h5
       have eb:jY l e=true:=by rw[jY,h4,h5]; rfl
       obtain rfl:b=true:=hb.trans eb;have ex:l.take i++e::l.drop i=x:=ee.trans (hx.trans (if_pos eb)).symm
       repeat' first | exact trivial | refine⟨rfl, ?_⟩ | refine⟨ex, ?_⟩ | fail
def eT (R:bn) (p:ax) (now:Int):Bool:=bF R p now && (p.st == 2 && decide (p.asked+1<R.tries))
def dS (R:bn) (p:ax) (now:Int):ax:={p with st:=1,dH:=now+R.rest,asked:=p.asked+1}
def A8 (R:bn) (p:ax) (now:Int):ax:=if eT R p now=true then dS R p now else default
def Lr (x:Unit→ax):List Sh:=[.int .i64 fun _=>(x ()).id, .int .i64 fun _=>(x ()).ag, .int .i64 fun _=>(x ()).al, .int .i64 fun _=>(x ()).aj, .int .i64 fun _=>(x ()).aO,
 .int .i64 fun _=>(x ()).since, .int .i64 fun _=>(x ()).aA, .int .i64 fun _=>(x ()).st, .int .i64 fun _=>(x ()).dH, .int .i64 fun _=>(x ()).asked]
theorem A9 {R:bn} {p:ax} {now:Int} (h:bF R p now=true):0≤p.asked∧p.asked≤R.tries - 1:=by
 simp only[bF,Bool.and_eq_true] at h;obtain⟨_,_,_,_,_,_,_,_,_,_,h1,_⟩:=h;exact bD h1
set_option maxHeartbeats 1000000 in
theorem Ls (R:bn) (p:ax) (now:Int) (hs:R.seats.length≤aN) (x:ax) (hx:x=A8 R p now) (b:Bool) (hb:b=eT R p now) :
   Spec Tryz.prog 204 [fG R,eA .aE p,iA now] (aG (.aS [(true,Lr fun _=>x),(false,[.bool fun _=>b])])):=by
 have no:eT R p now=false→x=default∧b=false:=fun e=>⟨hx.trans (if_neg (by rw[e]; simp)),hb.trans e⟩;refine aF au Tryz.func204 rfl rfl (fr:=true) (fun _=>by kernel_rfl) fun P hP hA=> ?_;cbv;refine af.by hP (D6 R p now hs (bF R p now) rfl) ?_;cbv;refine Br.split (fun k0=> ?_) (fun k0=> ?_) <;> cbv
 · have k0:(!bF R p now)=true:=k0;have k0:bF R p now=false:=by simpa using k0
   have e:=no (by rw[eT,k0]; rfl);obtain rfl:x=default:=e.1;obtain rfl:b=false:=e.2
   repeat' first | exact trivial | refine⟨rfl, ?_⟩ | fail
 have k0:(!bF R p now)=false:=k0;have k0:bF R p now=true:=by simpa using k0
 have ha:=A9 k0;have hp:=m_ k0;have hn:=hp.tV;have hr:=eB hp.rules;have ht:=hr.tries;have Tp:=hr.rest;refine Br.split (fun k1=> ?_) (fun k1=> ?_) <;> cbv
 · have k1:(p.st != 2)=true:=k1
   have e:=no (by
    have k1:(p.st == 2)=false:=by simpa using k1
    rw[eT,k0,k1]; rfl)
   obtain rfl:x=default:=e.1;obtain rfl:b=false:=e.2
   repeat' first | exact trivial | refine⟨rfl, ?_⟩ | fail
 have k1:(p.st != 2)=false:=k1;have k1:(p.st == 2)=true:=by simpa using k1
 refine Ar.exact (by(try simp only[nc] at *); omega) (by(try simp only[nc] at *); omega) ?_;cbv;refine Br.dec (fun k2=> ?_) (fun k2=> ?_) <;> cbv
 · have k2:p.asked+1≥R.tries:=by have k2:p.asked+1≥R.tries:=k2; omega
   have e:=no (by rw[eT,k0,k1,decide_eq_false (by omega)]; rfl);obtain rfl:x=default:=e.1;obtain rfl:b=false:=e.2
   repeat' first | exact trivial | refine⟨rfl, ?_⟩ | fail
 have k2:p.asked+1<R.tries:=by have k2:¬p.asked+1≥R.tries:=k2; omega
 have e:eT R p now=true:=by rw[eT,k0,k1,decide_eq_true k2]; rfl
 obtain rfl:x=dS R p now:=hx.trans (if_pos e);obtain rfl:b=true:=hb.trans e;refine Ar.exact (by(try simp only[nc] at *); omega) (by(try simp only[nc] at *); omega) ?_;cbv;refine Ar.exact (by(try simp only[nc] at *); omega) (by(try simp only[nc] at *); omega) ?_;cbv
 repeat' first | exact trivial | refine⟨rfl, ?_⟩ | fail
set_option maxHeartbeats 1000000 in
theorem Lt (R:bn) (p:ax) (now:Int) (hs:R.seats.length≤aN) (x:ax) (hx:x=A8 R p now) (b:Bool) (hb:b=eT R p now) :
   Spec Tryz.prog 189 [fG R,eA .aE p,iA now] (aG (.aS [(true,Lr fun _=>x),(false,[.bool fun _=>b])])):=by
 have no:eT R p now=false→x=default∧b=false:=fun e=>⟨hx.trans (if_neg (by rw[e]; simp)),hb.trans e⟩;refine aF au Tryz.func189 rfl rfl (fr:=true) (fun _=>by kernel_rfl) fun P hP hA=> ?_;cbv;refine af.by hP (Az R p now hs (bF R p now) rfl) ?_;cbv;refine Br.split (fun k0=> ?_) (fun k0=> ?_) <;> cbv
 · have k0:(!bF R p now)=true:=k0;have k0:bF R p now=false:=by simpa using k0
   have e:=no (by rw[eT,k0]; rfl);obtain rfl:x=default:=e.1;obtain rfl:b=false:=e.2
   repeat' first | exact trivial | refine⟨rfl, ?_⟩ | fail
 have k0:(!bF R p now)=false:=k0;have k0:bF R p now=true:=by simpa using k0
 have ha:=A9 k0;have hp:=m_ k0;have hn:=hp.tV;have hr:=eB hp.rules;have ht:=hr.tries;have Tp:=hr.rest;refine Br.split (fun k1=> ?_) (fun k1=> ?_) <;> cbv
 · have k1:(p.st != 2)=true:=k1
   have e:=no (by
    have k1:(p.st == 2)=false:=by simpa using k1
    rw[eT,k0,k1]; rfl)
   obtain rfl:x=default:=e.1;obtain rfl:b=false:=e.2
   repeat' first | exact trivial | refine⟨rfl, ?_⟩ | fail
 have k1:(p.st != 2)=false:=k1;have k1:(p.st == 2)=true:=by simpa using k1
 refine Ar.exact (by(try simp only[nc] at *); omega) (by(try simp only[nc] at *); omega) ?_;cbv;refine Br.split (fun k2=> ?_) (fun k2=> ?_) <;> cbv
 · have k2:p.asked+1≥R.tries:=by
    have k2:(p.asked+1 == R.tries)=true:=k2;have k2:p.asked+1=R.tries:=by simpa using k2
    omega
   have e:=no (by rw[eT,k0,k1,decide_eq_false (by omega)]; rfl);obtain rfl:x=default:=e.1;obtain rfl:b=false:=e.2
   repeat' first | exact trivial | refine⟨rfl, ?_⟩ | fail
 have k2:p.asked+1<R.tries:=by
   have k2:(p.asked+1 == R.tries)=false:=k2;have k2:¬p.asked+1=R.tries:=by simpa using k2
   omega
 have e:eT R p now=true:=by rw[eT,k0,k1,decide_eq_true k2]; rfl
 obtain rfl:x=dS R p now:=hx.trans (if_pos e);obtain rfl:b=true:=hb.trans e;refine Ar.exact (by(try simp only[nc] at *); omega) (by(try simp only[nc] at *); omega) ?_;cbv;refine Ar.exact (by(try simp only[nc] at *); omega) (by(try simp only[nc] at *); omega) ?_;cbv
 repeat' first | exact trivial | refine⟨rfl, ?_⟩ | fail
theorem A_ {a e:Entry} (h:bd a e=false) (ht:a.aA≠e.aA):bd e a=true:=by
 simp only[bd,Bool.or_eq_false_iff,Bool.and_eq_false_iff,decide_eq_false_iff_not,beq_eq_false_iff_ne] at h;simp only[bd,Bool.or_eq_true,Bool.and_eq_true,decide_eq_true_eq,beq_iff_eq];omega
theorem Lu {e:Entry} (he:gm e=true):∀{l:List Entry},gO l→(∀y∈l,y.aZ≠e.aZ)→(∀y∈l,y.aA≠e.aA)→gO (bP bd e l)
 | [],_,_,_=>⟨fun x hx=>by rw[bP,List.mem_singleton] at hx; rw[hx]; exact he,List.pairwise_singleton _ _,List.pairwise_singleton _ _⟩
 | a :: s,h,hn,ht=>by
   obtain⟨l1,l2⟩:=List.pairwise_cons.1 h.lt;obtain⟨n1,n2⟩:=List.pairwise_cons.1 h.ne;have hs:gO s:=⟨fun x hx=>h.ok x (List.mem_cons_of_mem _ hx),l2,n2⟩;have ih:=Lu he hs (fun y hy=>hn y (List.mem_cons_of_mem _ hy)) (fun y hy=>ht y (List.mem_cons_of_mem _ hy));rw[bP]
   split
   · rename_i aQ;refine⟨fun x hx=> ?_,List.pairwise_cons.2 ⟨fun b hb=> ?_,ih.lt⟩,List.pairwise_cons.2 ⟨fun b hb=> ?_,ih.ne⟩⟩
     · rcases List.mem_cons.1 hx with rfl | hx
       · exact h.ok _ List.mem_cons_self
       · exact ih.ok x hx
     · rcases rj.1 hb with rfl | hb
       · exact aQ
       · exact l1 b hb
     · rcases rj.1 hb with rfl | hb
       · exact hn a List.mem_cons_self
       · exact n1 b hb
   · rename_i aQ;have aQ:bd e a=true:=A_ (by simpa using aQ) (ht a List.mem_cons_self);refine⟨fun x hx=> ?_,List.pairwise_cons.2 ⟨fun b hb=> ?_,h.lt⟩,List.pairwise_cons.2 ⟨fun b hb=>fun q=>hn b hb q.symm,h.ne⟩⟩
     · rcases List.mem_cons.1 hx with rfl | hx
       · exact he
       · exact h.ok x hx
     · rcases List.mem_cons.1 hb with rfl | hb
       · exact aQ
       · exact oJ.tr _ _ _ aQ (l1 b hb)
theorem Lv {l:List Entry} {e:Entry} (h:gO l) (hl:l.length≤9) (he:gm e=true) (hn:∀y∈l,y.aZ≠e.aZ) (ht:∀y∈l,y.aA≠e.aA):sN l e=bP bd e l:=by
 have h1:dJ l=true:=xT (by omega) h;have h2:dJ (bP bd e l)=true:=xT (by rw[wT]; omega) (Lu he h hn ht);rw[sN,jY,h1,h2]; rfl
structure Tq (R:bn) (p:ax):Prop where
 id:1≤p.id∧p.id≤999
 ag:0≤p.ag∧p.ag≤(R.seats.length:Int) - 1
 al: -1≤p.al∧p.al≤(R.seats.length:Int) - 1
 ne:¬p.al=p.ag
 aA:1≤p.aA∧p.aA≤1000000
 st:p.st=1∨p.st=2
theorem iH {R:bn} {p:ax} {now:Int} (h:bF R p now=true):Tq R p:=by
 simp only[bF,Bool.and_eq_true,Bool.or_eq_true,beq_iff_eq,Bool.not_eq_true',beq_eq_false_iff_ne] at h;obtain⟨_,_,h1,h2,h3,h4,_,_,_,h5,_,h6⟩:=h;exact⟨bD h1,bD h2,bD h3,h4,bD h5,h6.elim (fun q=> .inl q.1) (fun q=> .inr q.1)⟩
theorem ud {R:bn} {p:ax} {now:Int} (h:bF R p now=true) (h1:p.st=1):cD R p now=gM R p now:=by
 rw[cD,if_pos (by rw[fq,h,h1]; rfl)]
theorem Fc {R:bn} {p:ax} {now:Int} (h:bF R p now=true) (h1:p.st=1):gm (cD R p now)=true:=by
 have g:=m_ h;have g2:=iH h;have gr:=eB g.rules;have ht:=bD g.aO;have q1:=g.since;have q2:=g.tV;have q3:=gr.period;have q4:=gr.bX;have q5:=gr.size;have q6:=g.aj;have q7:=g2.id;have q8:=g2.aA;have q9:=Ea (a:=now - p.since) (b:=R.period) (by omega) (by omega) (by omega);have e0:0≤lvl R p.aO (now - p.since):=JG _ _ _;have e1:lvl R p.aO (now - p.since)≤4:=by unfold lvl; split <;> omega
 rw[ud h h1,gM,lP,if_pos h];simp only[gm,ak,Bool.and_eq_true,decide_eq_true_eq];omega
theorem Lw (R:bn) (now:Int) (k:Int):∀l:List ax,(l.filter fun p=>fq R p now && p.ag == k).length+(l.filter fun p=>p.st == 2 && p.ag == k).length≤aV (bK k) l
 | []=>Nat.le_refl _
 | p :: l =>by
   have ih:=Lw R now k l;have e:aV (bK k) (p::l)=bK k p+aV (bK k) l:=rfl;rw[e,List.filter_cons,List.filter_cons];cases hc:(p.ag == k) with
   | false=>simp[hc]; omega
   | true =>
     have e2:bK k p=1:=by rw[bK,if_pos hc]
     rw[e2];cases h1:fq R p now with
     | false=>
       cases h2:(p.st == 2) <;> simp <;> omega
     | true=>
       have h2:(p.st == 2)=false:=by
        have h3:(p.st == 1)=true:=by simp only[fq,Bool.and_eq_true] at h1; exact h1.2
        have h3:p.st=1:=by simpa using h3
        rw[h3]; rfl
       simp[h2]; omega
structure Tr (h:ai) (k:Nat) (c:ba):Prop where
 pre:gO c.row
 b0:c.row.length+(ga (k:Int) h.ae).length≤aV (bK (k:Int)) h.ae
 room:((aV (bK (k:Int)) h.ae:Nat):Int)≤h.rules.room
 of:∀y∈c.row,∃z∈h.ae,z.ag=(k:Int)∧z.st=1∧y.aZ=z.id∧y.aA=z.aA
 row:c.row=fK h.rules h.ae (k:Int) h.now
 pins:bB c.spoke=gH h.ae (k:Int)
 jZ:bw c.spoke=true
 gn:aX c.seats=true
 held:c.seats.held=((aV (cz (k:Int)) h.ae:Nat):Int)
 tied:c.seats.tied=((aV (cC (k:Int)) h.ae:Nat):Int)
 total:c.seats.total=h.rules.seats.getD k 0
theorem qN {h:ai} (hg:HG h) {k:Nat} {c:ba} (hk:h.cabins[k]? = some c):Tr h k c:=by
 have h1:=hg.ag k c hk;simp only[iU,gb,gX,Bool.and_eq_true,decide_eq_true_eq,beq_iff_eq] at h1;obtain⟨h0,h2,⟨q1,q2,q3⟩,h3,h4,h5,h6⟩:=h1
 have hq:gO c.row:=by
   simp only[dJ,Bool.and_eq_true,decide_eq_true_eq] at q2;exact q2.2
 refine⟨hq, ?_,h2,fun y hy=> ?_,h3,h4,q3,q1,h5,h6,h0⟩
 · have:=Lw h.rules h.now (k:Int) h.ae;rw[h3,fK,mb,fJ,List.length_map,ga,List.length_map];exact this
 · rw[h3,fK,wU] at hy;obtain⟨z,hz,rfl⟩:=List.mem_map.1 hy;obtain⟨z1,z2⟩:=List.mem_filter.1 hz;simp only[Bool.and_eq_true,beq_iff_eq] at z2;obtain⟨z2,z3⟩:=z2;have z4:=z2;simp only[fq,Bool.and_eq_true,beq_iff_eq] at z4;exact⟨z,z1,z3,z4.2,by rw[cD,if_pos z2]; rfl,by rw[cD,if_pos z2]; rfl⟩
theorem vY {R:bn} {now aA:Int} {l:List ax} (h:dq R now aA l) {p q:ax} (hp:p∈l) (hq:q∈l) (hne:p≠q):p.id≠q.id∧p.aA≠q.aA:=by
 obtain⟨i,hi,rfl⟩:=List.getElem_of_mem hp;obtain⟨j,hj,rfl⟩:=List.getElem_of_mem hq;have hs:=List.pairwise_iff_getElem.1 h.fT;have hf:=List.pairwise_iff_getElem.1 h.fair;have ft:∀{a b:ax},gI a b=true→a.aA≠b.aA:=fun {a b} h e=>by simp[gI,e] at h
 rcases Nat.lt_trichotomy i j with pV | rfl | pV
 · have h1:=hs i j hi hj pV;have h2:=ft (hf i j hi hj pV);exact⟨by omega,h2⟩
 · exact(hne rfl).elim
 · have h1:=hs j i hj hi pV;have h2:=ft (hf j i hj hi pV);exact⟨by omega,fun e=>h2 e.symm⟩
theorem Fe:∀(n:Nat) {l:List Int},(∀x∈l,0≤x∧x<(n:Int))→(l.Pairwise fun a b=>a≠b)→l.length≤n
 | 0,[],_,_=>Nat.le_refl _
 | 0,x::l,h,_=>by have:=h x List.mem_cons_self; omega
 | n + 1,l,h,hp=>by
   by_cases q:(n:Int)∈l
   · have pm:=List.perm_cons_erase q;obtain⟨n1,n2⟩:=List.pairwise_cons.1 ((pm.pairwise_iff (fun {a b} q e=>q e.symm)).1 hp)
     have ih:=Fe n (l:=l.erase (n:Int)) (fun x hx=>by
      have h1:=h x (pm.mem_iff.2 (List.mem_cons_of_mem _ hx));have h2:=n1 x hx;omega) n2
     have:=pm.length_eq;rw[List.length_cons] at this; omega
   · have ih:=Fe n (l:=l) (fun x hx=>by
      have h1:=h x hx;have h2:x≠(n:Int):=fun e=>q (e▸hx);omega) hp
     omega
theorem qO {h:ai} (hg:HG h):h.todo.length≤4:=by
 have h1:=Fe h.cabins.length (l:=h.todo) (fun x hx=>by have:=bD (hg.aq.todo x hx); omega) hg.aq.once;have h2:=(eB hg.rules).len;have h3:=hg.fL;omega
end Go.Proofs.YtpklefhdkkegiaaGreat

