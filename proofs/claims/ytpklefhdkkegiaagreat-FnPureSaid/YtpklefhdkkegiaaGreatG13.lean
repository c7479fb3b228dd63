/- Parts of a proof. No conditions. -/

import Derived.Test.YtpklefhdkkegiaaGreatG12
set_option linter.unusedSimpArgs false
set_option linter.unusedVariables false
namespace Go.Proofs.YtpklefhdkkegiaaGreat
open Go
set_option maxRecDepth 100000
theorem GP {α:Type} (l:List α) (i:Nat):(l.take ((i:Int)).toNat).drop ((0:Int)).toNat=l.take i:=by simp
theorem xN (p q:ax):fw q p = !((p.az == q.az) || (decide (p.az<q.az) && decide (q.since<p.since)) || (decide (q.az<p.az) && decide (p.since<q.since))):=by
 rw[fw,Bool.eq_iff_iff];simp only[Bool.not_eq_true',Bool.or_eq_false_iff,Bool.and_eq_false_iff,decide_eq_false_iff_not,beq_eq_false_iff_ne];omega
set_option maxHeartbeats 4000000 in
theorem GQ (h : al) (hs:bJ h) (b:Bool) (hb:b=dH h):Spec Tryz.prog 16 [dV h] (aM (bR fun _=>b)):=by
 obtain⟨s1,s2,s3,s4,s5⟩:=hs;refine aN aD Tryz.func16 rfl rfl (fr:=true) (fun _=>by kernel_rfl) fun P hP hA=> ?_;have t4:h.todo.length≤1048576:=s4;have t5:h.aA.length≤1048576:=s5;have t3:h.cabins.length≤1048576:=s3.1;have no:¬HG h→b=false:=fun hn=>hb.trans (GO hn);cbv
 repeat (refine Pz.mk ?_; cbv)
 refine ag.by hP (A1 h.rules s1 (ca h.rules) rfl) ?_;cbv
 repeat (refine Pz.mk ?_; cbv)
 refine Br.split (fun k0=> ?_) (fun k0=> ?_) <;> (cbv; repeat (refine Pz.mk ?_; cbv))
 · refine⟨?_,trivial⟩;have k0:(!ca h.rules)=true:=k0;exact(no (fun hg=>by rw[hg.rules] at k0; cases k0)).symm
 have k0:(!ca h.rules)=false:=k0;have k0:ca h.rules=true:=by simpa using k0
 have hr:=fv k0;have hlen:=hr.len;have eT:=hr.room;refine ag.by hP (cI h.now 0 1000000) ?_;cbv
 repeat (refine Pz.mk ?_; cbv)
 refine Br.split (fun k1=> ?_) (fun k1=> ?_) <;> (cbv; repeat (refine Pz.mk ?_; cbv))
 · refine⟨?_,trivial⟩;have k1:(!aj h.now 0 1000000)=true:=k1;exact(no (fun hg=>by rw[hg.now] at k1; cases k1)).symm
 have k1:(!aj h.now 0 1000000)=false:=k1;have k1:aj h.now 0 1000000=true:=by simpa using k1
 refine ag.by hP (cI h.az 1 1000001) ?_;cbv
 repeat (refine Pz.mk ?_; cbv)
 refine Br.split (fun k2=> ?_) (fun k2=> ?_) <;> (cbv; repeat (refine Pz.mk ?_; cbv))
 · refine⟨?_,trivial⟩;have k2:(!aj h.az 1 1000001)=true:=k2;exact(no (fun hg=>by rw[hg.az] at k2; cases k2)).symm
 have k2:(!aj h.az 1 1000001)=false:=k2;have k2:aj h.az 1 1000001=true:=by simpa using k2
 refine Br.split (fun k4=> ?_) (fun k4=> ?_) <;> (cbv; repeat (refine Pz.mk ?_; cbv))
 · refine⟨?_,trivial⟩;have k4:((h.cabins.length:Int) != (h.rules.ai.length:Int))=true:=k4;exact(no (fun hg=>by rw[hg.iX] at k4; simp at k4)).symm
 have k4:((h.cabins.length:Int) != (h.rules.ai.length:Int))=false:=k4;have k4:h.cabins.length=h.rules.ai.length:=by simp at k4; omega
 refine Br.split (fun k6=> ?_) (fun k6=> ?_) <;> (cbv; repeat (refine Pz.mk ?_; cbv))
 · refine⟨?_,trivial⟩;have k6:((h.aA.length:Int) != h.rules.bO)=true:=k6;exact(no (fun hg=>by rw[hg.bO] at k6; simp at k6)).symm
 have k6:((h.aA.length:Int) != h.rules.bO)=false:=k6;have k6:((h.aA.length:Nat):Int)=h.rules.bO:=by simpa using k6
 refine Br.dec (fun k3=> ?_) (fun k3=> ?_) <;> (cbv; repeat (refine Pz.mk ?_; cbv))
 · refine⟨?_,trivial⟩;have k3:(40:Int)<(h.ae.length:Int):=k3;exact(no (fun hg=>by have:=hg.dy; omega)).symm
 have k3:¬(40:Int)<(h.ae.length:Int):=k3;have k3:h.ae.length≤40:=by omega
 refine aW.by (X:=Nat) (fun i=>[(1,pN 0),(3,nT fun _=>h.rules.ai.length),(55,lA .aB h.ae),(56,nT fun _=>h.ae.length),(57,nT fun _=>i)]) (fun _=>[(0, .box (kC h))]) (fun i=>i≤h.ae.length∧c_ h.rules h.now h.az (h.ae.take i)) (fun i _=>h.ae.length - i) 0 ⟨Nat.zero_le _,by rw[List.take_zero]; exact c_.nil _ _ _⟩ ?_ ?_
 · cbv
   repeat' first | exact trivial | refine⟨rfl, ?_⟩ | fail
 · intro i ⟨hi, hn⟩;cbv
   repeat (refine Pz.mk ?_; cbv)
   refine Br.dec (fun h2=> ?_) (fun h2=> ?_) <;> (cbv; repeat (refine Pz.mk ?_; cbv))
   · have h2 : i < h.ae.length:=by simpa using h2
     refine⟨h.ae[i],by simp,get_cast h.ae h2, ?_⟩;cbv
     repeat (refine Pz.mk ?_; cbv)
     refine ag.by hP (xE h.rules h.ae[i] h.now s1 (bz h.rules h.ae[i] h.now) rfl) ?_;cbv
     repeat (refine Pz.mk ?_; cbv)
     refine Br.split (fun q0=> ?_) (fun q0=> ?_) <;> (cbv; repeat (refine Pz.mk ?_; cbv))
     · refine⟨?_,trivial⟩;have q0:(!bz h.rules h.ae[i] h.now)=true:=q0;exact(no (fun hg=>by have:=(hg.ae.at_ h2).1; rw[this] at q0; cases q0)).symm
     have q0:(!bz h.rules h.ae[i] h.now)=false:=q0;have q0:bz h.rules h.ae[i] h.now=true:=by simpa using q0
     refine Br.dec (fun q1=> ?_) (fun q1=> ?_) <;> (cbv; repeat (refine Pz.mk ?_; cbv))
     · refine⟨?_,trivial⟩;have q1:h.az≤h.ae[i].az:=q1;exact(no (fun hg=>by have:=(hg.ae.at_ h2).2.1; omega)).symm
     have q1:¬h.az≤h.ae[i].az:=q1;have ob:0≤(0:Int)∧(0:Int)≤(i:Int)∧(i:Int)≤(h.ae.length:Int):=⟨by omega,by omega,by omega⟩;have tk:=GP h.ae i;have tl:((((h.ae.take ((i:Int)).toNat).drop ((0:Int)).toNat).length:Nat):Int)=(i:Int):=by rw[tk,List.length_take]; omega
     refine Br.dec (fun q2=> ?_) (fun q2=> ?_) <;> (cbv; repeat (refine Pz.mk ?_; cbv))
     · have q2 : 0<i:=by simpa using q2
       have h4:i - 1<h.ae.length:=by omega
       have oj:0≤(i:Int) - 1:=by omega
       have gj:h.ae[((i:Int) - 1).toNat]? = some h.ae[i - 1]:=by rw[show((i:Int) - 1).toNat=i - 1 by omega]; exact List.getElem?_eq_getElem h4
       refine Ar.exact (by(try simp only[nc] at *); omega) (by(try simp only[nc] at *); omega) ?_;cbv
       repeat (refine Pz.mk ?_; cbv)
       refine⟨h.ae[i - 1],oj,gj, ?_⟩;cbv
       repeat (refine Pz.mk ?_; cbv)
       refine Br.dec (fun q3=> ?_) (fun q3=> ?_) <;> (cbv; repeat (refine Pz.mk ?_; cbv))
       · refine⟨?_,trivial⟩;have q3:h.ae[i].id≤h.ae[i - 1].id:=q3;exact(no (fun hg=>by have:=(hg.ae.at_ h2).2.2.1 q2; omega)).symm
       have q3:¬h.ae[i].id≤h.ae[i - 1].id:=q3;have q3:0<i→(h.ae[i - 1]'(by omega)).id<h.ae[i].id:=fun _=>by omega
       refine⟨ob, ?_⟩;cbv
       repeat (refine Pz.mk ?_; cbv)
       refine aW.by (X:=Nat) (fun j=>[(1,pN 0),(3,nT fun _=>h.rules.ai.length),(5,pN 1),(55,lA .aB h.ae),(56,nT fun _=>h.ae.length),(57,nT fun _=>i),(95,lT .aB fun _=>h.ae.take i),(96,nT fun _=>i),(97,nT fun _=>j)]) (fun _=>[(0, .box (kC h)),(1, .box ((bH .aB fun _=>h.ae[i]).map .lf))]) (fun j=>j≤i∧∀(m:Nat) x,m<j→h.ae[m]? = some x→fw x h.ae[i]=true) (fun j _=>i - j) 0 ⟨Nat.zero_le _,fun m x hm=>by omega⟩ ?_ ?_
       · cbv
         repeat' first | exact trivial | refine⟨rfl, ?_⟩ | refine⟨tk, ?_⟩ | refine⟨tl, ?_⟩ | fail
       · intro j ⟨hj,hf⟩;cbv
         repeat (refine Pz.mk ?_; cbv)
         refine Br.dec (fun h5=> ?_) (fun h5=> ?_) <;> (cbv; repeat (refine Pz.mk ?_; cbv))
         rotate_left
         · have h5:i≤j:=by simp at h5; omega
           refine Ar.exact (by(try simp only[nc] at *); omega) (by(try simp only[nc] at *); omega) ?_;cbv
           repeat (refine Pz.mk ?_; cbv)
           refine aO.by (i+1) ?_ ?_ ?_
           · show h.ae.length - (i+1)<h.ae.length - i;omega
           · exact⟨h2,hn.snoc h2 q0 (by omega) q3 fun m x hm=>hf m x (by omega)⟩
           · cbv
             repeat' first | exact trivial | refine⟨rfl, ?_⟩ | fail
         have h5:j<i:=by simpa using h5
         have h6:j<h.ae.length:=by omega
         have bad:fw h.ae[j] h.ae[i]=false→b=false:=fun hx=>no fun hg=>by
           have:=(hg.ae.at_ h2).2.2.2 j _ h5 (List.getElem?_eq_getElem h6);rw[hx] at this; cases this
         have gt:(h.ae.take i)[((j:Int)).toNat]? = some h.ae[j]:=by rw[Int.toNat_natCast,List.getElem?_take,if_pos h5,List.getElem?_eq_getElem h6]
         refine⟨h.ae[j],by simp,gt, ?_⟩;cbv
         repeat (refine Pz.mk ?_; cbv)
         repeat' first
           | (refine Br.split (fun h=> ?_) (fun h=> ?_) <;> cbv)
           | fail
         all_goals first
           | (refine⟨?_,trivial⟩
              exact(bad (by clear bad no hn hf hA; simp[xN, *])).symm)
           | (refine Ar.exact (by(try simp only[nc] at *); omega) (by(try simp only[nc] at *); omega) ?_
              cbv;refine aO.by (j+1) ?_ ?_ ?_
              · show i - (j+1)<i - j;omega
              · exact⟨h5,gy h6 hf (by clear bad no hn hf hA; simp[xN, *])⟩
              · cbv
                repeat' first | exact trivial | refine⟨rfl, ?_⟩ | fail)
     · have q2 : ¬0<i:=by simpa using q2
       have q3:0<i→(h.ae[i - 1]'(by omega)).id<h.ae[i].id:=fun h0=>absurd h0 q2;refine⟨ob, ?_⟩;cbv
       repeat (refine Pz.mk ?_; cbv)
       refine aW.by (X:=Nat) (fun j=>[(1,pN 0),(3,nT fun _=>h.rules.ai.length),(5,pN 1),(55,lA .aB h.ae),(56,nT fun _=>h.ae.length),(57,nT fun _=>i),(95,lT .aB fun _=>h.ae.take i),(96,nT fun _=>i),(97,nT fun _=>j)]) (fun _=>[(0, .box (kC h)),(1, .box ((bH .aB fun _=>h.ae[i]).map .lf))]) (fun j=>j≤i∧∀(m:Nat) x,m<j→h.ae[m]? = some x→fw x h.ae[i]=true) (fun j _=>i - j) 0 ⟨Nat.zero_le _,fun m x hm=>by omega⟩ ?_ ?_
       · cbv
         repeat' first | exact trivial | refine⟨rfl, ?_⟩ | refine⟨tk, ?_⟩ | refine⟨tl, ?_⟩ | fail
       · intro j ⟨hj,hf⟩;cbv
         repeat (refine Pz.mk ?_; cbv)
         refine Br.dec (fun h5=> ?_) (fun h5=> ?_) <;> (cbv; repeat (refine Pz.mk ?_; cbv))
         rotate_left
         · have h5:i≤j:=by simp at h5; omega
           refine Ar.exact (by(try simp only[nc] at *); omega) (by(try simp only[nc] at *); omega) ?_;cbv
           repeat (refine Pz.mk ?_; cbv)
           refine aO.by (i+1) ?_ ?_ ?_
           · show h.ae.length - (i+1)<h.ae.length - i;omega
           · exact⟨h2,hn.snoc h2 q0 (by omega) q3 fun m x hm=>hf m x (by omega)⟩
           · cbv
             repeat' first | exact trivial | refine⟨rfl, ?_⟩ | fail
         have h5:j<i:=by simpa using h5
         have h6:j<h.ae.length:=by omega
         have bad:fw h.ae[j] h.ae[i]=false→b=false:=fun hx=>no fun hg=>by
           have:=(hg.ae.at_ h2).2.2.2 j _ h5 (List.getElem?_eq_getElem h6);rw[hx] at this; cases this
         have gt:(h.ae.take i)[((j:Int)).toNat]? = some h.ae[j]:=by rw[Int.toNat_natCast,List.getElem?_take,if_pos h5,List.getElem?_eq_getElem h6]
         refine⟨h.ae[j],by simp,gt, ?_⟩;cbv
         repeat (refine Pz.mk ?_; cbv)
         repeat' first
           | (refine Br.split (fun h=> ?_) (fun h=> ?_) <;> cbv)
           | fail
         all_goals first
           | (refine⟨?_,trivial⟩
              exact(bad (by clear bad no hn hf hA; simp[xN, *])).symm)
           | (refine Ar.exact (by(try simp only[nc] at *); omega) (by(try simp only[nc] at *); omega) ?_
              cbv;refine aO.by (j+1) ?_ ?_ ?_
              · show i - (j+1)<i - j;omega
              · exact⟨h5,gy h6 hf (by clear bad no hn hf hA; simp[xN, *])⟩
              · cbv
                repeat' first | exact trivial | refine⟨rfl, ?_⟩ | fail)
   have h2:h.ae.length≤i:=by simp at h2; omega
   rw[List.take_of_length_le h2] at hn;refine aW.by (X:=Nat) (fun i=>[(1,pN 0),(3,nT fun _=>h.rules.ai.length),(137,lA .ah h.cabins),(138,nT fun _=>h.cabins.length),(139,nT fun _=>i)]) (fun _=>[(0, .box (kC h))]) (fun i=>i≤h.cabins.length∧∀(k:Nat) c,k<i→h.cabins[k]? = some c→g_ h k c=true) (fun i _=>h.cabins.length - i) 0 ⟨Nat.zero_le _,fun k c hk=>by omega⟩ ?_ ?_
   · cbv
     repeat' first | exact trivial | refine⟨rfl, ?_⟩ | fail
   · intro i ⟨hi,hc⟩;cbv
     repeat (refine Pz.mk ?_; cbv)
     refine Br.dec (fun h5=> ?_) (fun h5=> ?_) <;> (cbv; repeat (refine Pz.mk ?_; cbv))
     · have h5:i<h.cabins.length:=by simpa using h5
       have GR:i<h.rules.ai.length:=by omega
       have vp:h.rules.ai.getD i 0=h.rules.ai[i]:=by rw[List.getD_eq_getElem?_getD,List.getElem?_eq_getElem GR]; rfl
       have bad:g_ h i h.cabins[i]=false→b=false:=fun hx=>no fun hg=>by
         have:=hg.ah i _ (List.getElem?_eq_getElem h5);rw[hx] at this; cases this
       refine⟨h.cabins[i],by simp,get_cast h.cabins h5, ?_⟩;cbv
       repeat (refine Pz.mk ?_; cbv)
       refine⟨h.rules.ai[i],by simp,get_cast h.rules.ai GR, ?_⟩;cbv
       repeat (refine Pz.mk ?_; cbv)
       refine Br.split (fun q0=> ?_) (fun q0=> ?_) <;> (cbv; repeat (refine Pz.mk ?_; cbv))
       · refine⟨?_,trivial⟩;have q0:(h.cabins[i].ai.total != h.rules.ai[i])=true:=q0
         exact(bad (by
           have e:(h.cabins[i].ai.total == h.rules.ai.getD i 0)=false:=by rw[vp]; simpa using q0
           rw[g_,e]; rfl)).symm
       have q0:(h.cabins[i].ai.total != h.rules.ai[i])=false:=q0;have q0:(h.cabins[i].ai.total == h.rules.ai.getD i 0)=true:=by rw[vp]; simpa using q0
       refine ag.by hP (A6 h.ae (i:Int) s2) ?_;cbv
       repeat (refine Pz.mk ?_; cbv)
       refine Br.dec (fun q2=> ?_) (fun q2=> ?_) <;> (cbv; repeat (refine Pz.mk ?_; cbv))
       · refine⟨?_,trivial⟩;have q2:h.rules.room<((aV (bL (i:Int)) h.ae:Nat):Int):=q2;exact(bad (by rw[g_,decide_eq_false (by omega:¬((aV (bL (i:Int)) h.ae:Nat):Int)≤h.rules.room)]; simp)).symm
       have q2:¬h.rules.room<((aV (bL (i:Int)) h.ae:Nat):Int):=q2;have q3:((aV (bL (i:Int)) h.ae:Nat):Int)≤h.rules.room:=by omega
       have dy:aV (bL (i:Int)) h.ae≤10:=by omega
       refine ag.by hP (Nt h.rules h.cabins[i] h.ae (i:Int) h.now s1 s2 (eY.ah s3 h5) (BA dy) (NB dy) (fh h.rules h.cabins[i] h.ae (i:Int) h.now) rfl) ?_;cbv
       repeat (refine Pz.mk ?_; cbv)
       refine Br.split (fun q1=> ?_) (fun q1=> ?_) <;> (cbv; repeat (refine Pz.mk ?_; cbv))
       · refine⟨?_,trivial⟩;have q1:(!fh h.rules h.cabins[i] h.ae (i:Int) h.now)=true:=q1;have q1:fh h.rules h.cabins[i] h.ae (i:Int) h.now=false:=by simpa using q1
         exact(bad (by rw[g_,q1]; simp)).symm
       have q1:(!fh h.rules h.cabins[i] h.ae (i:Int) h.now)=false:=q1;have q1:fh h.rules h.cabins[i] h.ae (i:Int) h.now=true:=by simpa using q1
       refine Ar.exact (by(try simp only[nc] at *); omega) (by(try simp only[nc] at *); omega) ?_;cbv
       repeat (refine Pz.mk ?_; cbv)
       refine aO.by (i+1) ?_ ?_ ?_
       · show h.cabins.length - (i+1)<h.cabins.length - i;omega
       · refine⟨h5,fun k c hk sR=> ?_⟩;rcases Nat.lt_or_ge k i with h3 | h3
         · exact hc k c h3 sR
         · obtain rfl:k=i:=by omega
           rw[List.getElem?_eq_getElem h5] at sR;cases sR;rw[g_,q0,q1,decide_eq_true q3]; rfl
       · cbv
         repeat' first | exact trivial | refine⟨rfl, ?_⟩ | fail
     have h5:h.cabins.length≤i:=by simp at h5; omega
     have BB:∀(k:Nat) c,h.cabins[k]? = some c→g_ h k c=true:=fun k c sR=>hc k c (Nat.lt_of_lt_of_le (bD sR) h5) sR;have lo: -9223372036854775808≤(h.rules.ai.length:Int) - 1:=by omega
     have m_:(h.rules.ai.length:Int) - 1≤9223372036854775807:=by omega
     refine aW.by (X:=Nat) (fun i=>[(1,pN 0),(3,nT fun _=>h.rules.ai.length),(178,lA .int h.todo),(179,nT fun _=>h.todo.length),(180,nT fun _=>i)]) (fun _=>[(0, .box (kC h))]) (fun i=>i≤h.todo.length∧vn h.rules.ai.length (h.todo.take i)) (fun i _=>h.todo.length - i) 0 ⟨Nat.zero_le _,by rw[List.take_zero]; exact⟨fun x hx=>(by cases hx),List.Pairwise.nil⟩⟩ ?_ ?_
     · cbv
       repeat' first | exact trivial | refine⟨rfl, ?_⟩ | fail
     · intro i ⟨NA,ht⟩;cbv
       repeat (refine Pz.mk ?_; cbv)
       refine Br.dec (fun h6=> ?_) (fun h6=> ?_) <;> (cbv; repeat (refine Pz.mk ?_; cbv))
       · have h6:i<h.todo.length:=by simpa using h6
         have os:0≤(0:Int)∧(0:Int)≤(i:Int)∧(i:Int)≤(h.todo.length:Int):=⟨by omega,by omega,by omega⟩;have tk:=GP h.todo i;refine⟨h.todo[i],by simp,get_cast h.todo h6, ?_⟩;cbv
         repeat (refine Pz.mk ?_; cbv)
         refine ag.by hP (m6 h.todo[i] (h.rules.ai.length:Int) (by omega) (by omega)) ?_;cbv
         repeat (refine Pz.mk ?_; cbv)
         refine Br.split (fun q0=> ?_) (fun q0=> ?_) <;> (cbv; repeat (refine Pz.mk ?_; cbv))
         · refine⟨?_,trivial⟩;have q0:(!aj h.todo[i] 0 ((h.rules.ai.length:Int) - 1))=true:=q0;exact(no (fun hg=>by have:=hg.aA.todo _ (List.getElem_mem h6); rw[hg.iX] at this; rw[this] at q0; cases q0)).symm
         have q0:(!aj h.todo[i] 0 ((h.rules.ai.length:Int) - 1))=false:=q0;have q0:aj h.todo[i] 0 ((h.rules.ai.length:Int) - 1)=true:=by simpa using q0
         refine⟨os, ?_⟩;cbv
         repeat (refine Pz.mk ?_; cbv)
         refine ag.by hP (Bw ((h.todo.take ((i:Int)).toNat).drop ((0:Int)).toNat) h.todo[i] (hasB (h.todo.take i) h.todo[i]) (by rw[tk])) ?_;cbv
         repeat (refine Pz.mk ?_; cbv)
         refine Br.split (fun q1=> ?_) (fun q1=> ?_) <;> (cbv; repeat (refine Pz.mk ?_; cbv))
         · refine⟨?_,trivial⟩;exact(no (fun hg=>by have:=GN h6 hg.aA.once; rw[this] at q1; cases q1)).symm
         refine Ar.exact (by(try simp only[nc] at *); omega) (by(try simp only[nc] at *); omega) ?_;cbv
         repeat (refine Pz.mk ?_; cbv)
         refine aO.by (i+1) ?_ ?_ ?_
         · show h.todo.length - (i+1)<h.todo.length - i;omega
         · exact⟨h6,ht.snoc h6 q0 q1⟩
         · cbv
           repeat' first | exact trivial | refine⟨rfl, ?_⟩ | fail
       have h6:h.todo.length≤i:=by simp at h6; omega
       rw[List.take_of_length_le h6] at ht;refine aW.by (X:=Nat) (fun j=>[(3,nT fun _=>h.rules.ai.length),(199,lA .int h.aA),(200,nT fun _=>h.aA.length),(201,nT fun _=>j)]) (fun _=>[]) (fun j=>j≤h.aA.length∧∀(m:Nat) x,m<j→h.aA[m]? = some x→aj x (-1) ((h.rules.ai.length:Int) - 1)=true) (fun j _=>h.aA.length - j) 0 ⟨Nat.zero_le _,fun m x hm=>by omega⟩ ?_ ?_
       · cbv
         repeat' first | exact trivial | refine⟨rfl, ?_⟩ | fail
       · intro j ⟨gF,hq⟩;cbv
         repeat (refine Pz.mk ?_; cbv)
         refine Br.dec (fun h7=> ?_) (fun h7=> ?_) <;> (cbv; repeat (refine Pz.mk ?_; cbv))
         · have h7:j<h.aA.length:=by simpa using h7
           refine⟨h.aA[j],by simp,get_cast h.aA h7, ?_⟩;cbv
           repeat (refine Pz.mk ?_; cbv)
           refine Ar.exact lo m_ ?_;cbv
           repeat (refine Pz.mk ?_; cbv)
           refine ag.by hP (cI h.aA[j] (-1) ((h.rules.ai.length:Int) - 1)) ?_;cbv
           repeat (refine Pz.mk ?_; cbv)
           refine Br.split (fun q0=> ?_) (fun q0=> ?_) <;> (cbv; repeat (refine Pz.mk ?_; cbv))
           · refine⟨?_,trivial⟩;have q0:(!aj h.aA[j] (-1) ((h.rules.ai.length:Int) - 1))=true:=q0;exact(no (fun hg=>by have:=hg.aA.aA _ (List.getElem_mem h7); rw[hg.iX] at this; rw[this] at q0; cases q0)).symm
           have q0:(!aj h.aA[j] (-1) ((h.rules.ai.length:Int) - 1))=false:=q0;have q0:aj h.aA[j] (-1) ((h.rules.ai.length:Int) - 1)=true:=by simpa using q0
           refine Ar.exact (by(try simp only[nc] at *); omega) (by(try simp only[nc] at *); omega) ?_;cbv
           repeat (refine Pz.mk ?_; cbv)
           refine aO.by (j+1) ?_ ?_ ?_
           · show h.aA.length - (j+1)<h.aA.length - j;omega
           · exact⟨h7,gy h7 hq q0⟩
           · cbv
             repeat' first | exact trivial | refine⟨rfl, ?_⟩ | fail
         · have h7:h.aA.length≤j:=by simp at h7; omega
           have hg:qa h.cabins.length h.todo h.aA:=by
             rw[k4]
             exact⟨ht.ok,ht.ne,fun x hx=>by
               obtain⟨m,hm⟩:=List.mem_iff_getElem?.1 hx;exact ma h7 hq m x hm⟩
           refine⟨?_,trivial⟩;show true=b;exact(hb.trans (iD.2 ⟨k0,k1,k2,k3,k4,hn,hg,k6,BB⟩)).symm
end Go.Proofs.YtpklefhdkkegiaaGreat

