/- Parts of a proof. No conditions. -/

import Derived.Test.YtpklefhdkkegiaaGreatG09
import Derived.Test.YtpklefhdkkegiaaGreatG11
set_option linter.unusedSimpArgs false
set_option linter.unusedVariables false
namespace Go.Proofs.YtpklefhdkkegiaaGreat
open Go
set_option maxRecDepth 100000
def Kk:V→List C
 | .agg cs=>cs
 | _=>[]
def iD (h:ai):List C:=Kk (cG h)
def hasB (l:List Int) (x:Int):Bool:=l.any fun y=>y == x
theorem Kl {l:List Int} {x:Int} {i:Nat} (hi:i<l.length) (h:(l[i] == x)=true):hasB l x=true:=List.any_eq_true.2 ⟨_,List.getElem_mem hi,h⟩
theorem EC {l:List Int} {x:Int} (h:∀(j:Nat) y,l[j]? = some y→(y == x)=false):hasB l x=false:=by
 rw[hasB,List.any_eq_false];intro y hy;obtain⟨j,hj⟩:=List.mem_iff_getElem?.1 hy;rw[h j y hj]; simp
theorem ED (a:List Int) (v:Int) (b:Bool) (hb:b=hasB a v):Spec Tryz.prog 113 [lA .int a,iA v] (aG (bR fun _=>b)):=by
 refine aF au Tryz.func113 rfl rfl (fr:=true) (fun _=>by kernel_rfl) fun P hP hA=> ?_;obtain⟨⟨ha,_⟩,_⟩:=hA;have ha:a.length≤9223372036854775807:=ha;cbv;refine aR.by (X:=Nat) (fun i=>[(0,lA .int a),(1,iA v),(5,nT fun _=>i)]) (fun _=>[]) (fun i=>i≤a.length∧∀(j:Nat) y,j<i→a[j]? = some y→(y == v)=false) (fun i _=>a.length - i) 0 ⟨Nat.zero_le _,fun j y hj=>by omega⟩ ?_ ?_
 · cbv
   repeat' first | exact trivial | refine⟨rfl, ?_⟩ | fail
 · intro i ⟨hi,hn⟩;cbv;refine Br.dec (fun h2=> ?_) (fun h2=> ?_) <;> cbv
   · have h2:i<a.length:=by simpa using h2
     refine⟨a[i],by simp,get_cast a h2, ?_⟩;cbv;refine Br.split (fun h3=> ?_) (fun h3=> ?_) <;> cbv
     · refine⟨?_,trivial⟩;exact(hb.trans (Kl h2 h3)).symm
     · refine Ar.exact (by(try simp only[nc] at *); omega) (by(try simp only[nc] at *); omega) ?_;cbv;refine aL.by (i+1) ?_ ?_ ?_
       · show a.length - (i+1)<a.length - i;omega
       · exact⟨h2,gN h2 hn h3⟩
       · cbv
         repeat' first | exact trivial | refine⟨rfl, ?_⟩ | fail
   · have h2:a.length≤i:=by simp at h2; omega
     refine⟨?_,trivial⟩;exact(hb.trans (EC (mn h2 hn))).symm
theorem Rt (l:List Int) (v:Int):decide (ie (fun y=>y == v) l≥0)=hasB l v:=by
 rcases iC (fun y:Int=>y == v) l with⟨h,h1⟩ | ⟨i,hi,h,h1,_⟩
 · rw[h,EC fun j y hy=>h1 y (List.mem_of_getElem? hy)]; rfl
 · rw[h,Kl hi h1]; exact decide_eq_true (by omega)
theorem Ru (a:List Int) (v:Int) (x:Int) (hx:x=ie (fun y=>y == v) a):Spec Tryz.prog 130 [lA .int a,iA v] (aG (iR fun _=>x)):=by
 refine aF au Tryz.func130 rfl rfl (fr:=true) (fun _=>by kernel_rfl) fun P hP hA=> ?_;obtain⟨⟨ha,_⟩,_⟩:=hA;have ha:a.length≤9223372036854775807:=ha;cbv;refine aR.by (X:=Nat) (fun i=>[(0,lA .int a),(1,iA v),(7,nT fun _=>a.length),(8,nT fun _=>i)]) (fun _=>[]) (fun i=>i≤a.length∧∀(j:Nat) y,j<i→a[j]? = some y→(y == v)=false) (fun i _=>a.length - i) 0 ⟨Nat.zero_le _,fun j y hj=>by omega⟩ ?_ ?_
 · cbv
   repeat' first | exact trivial | refine⟨rfl, ?_⟩ | fail
 · intro i ⟨hi,hn⟩;cbv;refine Br.dec (fun h2=> ?_) (fun h2=> ?_) <;> cbv
   · have h2:i<a.length:=by simpa using h2
     refine⟨a[i],by simp,get_cast a h2, ?_⟩;cbv;refine Br.split (fun h3=> ?_) (fun h3=> ?_) <;> cbv
     · refine⟨?_,trivial⟩;have h3:(v == a[i])=true:=h3;exact(hx.trans (nh (p:=fun y=>y == v) h2 (by rw[beq_iff_eq] at h3 ⊢; exact h3.symm) hn)).symm
     · have h3:(v == a[i])=false:=h3;refine Ar.exact (by(try simp only[nc] at *); omega) (by(try simp only[nc] at *); omega) ?_;cbv;refine aL.by (i+1) ?_ ?_ ?_
       · show a.length - (i+1)<a.length - i;omega
       · exact⟨h2,gN h2 hn (by rw[beq_eq_false_iff_ne] at h3 ⊢; exact fun h=>h3 h.symm)⟩
       · cbv
         repeat' first | exact trivial | refine⟨rfl, ?_⟩ | fail
   · have h2:a.length≤i:=by simp at h2; omega
     refine⟨?_,trivial⟩;exact(hx.trans (ni (mn h2 hn))).symm
theorem EE (a:List Int) (v:Int) (b:Bool) (hb:b=hasB a v):Spec Tryz.prog 59 [lA .int a,iA v] (aG (bR fun _=>b)):=by
 refine aF au Tryz.func59 rfl rfl (fr:=true) (fun _=>by kernel_rfl) fun P hP hA=> ?_;cbv;refine af.by hP (Ru a v (ie (fun y=>y == v) a) rfl) ?_;cbv;refine⟨?_,trivial⟩;exact(Rt a v).trans hb.symm
def gI (q p:ax):Bool:= !(q.aA == p.aA || (decide (q.aA<p.aA) && decide (q.since>p.since)) || (decide (q.aA>p.aA) && decide (q.since<p.since)))
structure dq (R:bn) (now aA:Int) (l:List ax):Prop where
 ok:∀p∈l,bF R p now=true∧p.aA<aA
 fT:l.Pairwise fun a b=>a.id<b.id
 fair:l.Pairwise fun a b=>gI a b=true
instance (R:bn) (now aA:Int) (l:List ax):Decidable (dq R now aA l):=
 decidable_of_iff ((∀p∈l,bF R p now=true∧p.aA<aA)∧(l.Pairwise fun a b=>a.id<b.id)∧l.Pairwise fun a b=>gI a b=true) ⟨fun⟨a,b,c⟩=>⟨a,b,c⟩,fun⟨a,b,c⟩=>⟨a,b,c⟩⟩
theorem dq.nil (R:bn) (now aA:Int):dq R now aA []:=⟨fun p hp=>(by cases hp),List.Pairwise.nil,List.Pairwise.nil⟩
theorem dq.snoc {R:bn} {now aA:Int} {l:List ax} {i:Nat} (hi:i<l.length) (h:dq R now aA (l.take i)) (ok:bF R l[i] now=true) (ht:l[i].aA<aA) (lt:0<i→(l[i - 1]'(by omega)).id<l[i].id)
   (fr:∀(j:Nat) x,j<i→l[j]? = some x→gI x l[i]=true):dq R now aA (l.take (i+1)):=by
 have e:l.take (i+1)=l.take i ++ [l[i]]:=by rw[List.take_add_one,List.getElem?_eq_getElem hi]; rfl
 have get:∀x∈l.take i,∃j,j<i∧l[j]? = some x:=fun x hx=>by
   obtain⟨j,hj⟩:=List.mem_iff_getElem?.1 hx;rw[List.getElem?_take] at hj
   split at hj
   · exact⟨j,by assumption,hj⟩
   · cases hj
 refine⟨fun x hx=> ?_, ?_, ?_⟩
 · rw[e,List.mem_append] at hx;rcases hx with hx | hx
   · exact h.ok x hx
   · cases List.mem_singleton.1 hx; exact⟨ok,ht⟩
 · rw [e,List.pairwise_append];refine⟨h.fT,List.pairwise_singleton _ _,fun a ha b hb=> ?_⟩;cases List.mem_singleton.1 hb;obtain⟨j,hj,hx⟩:=get a ha;have hl:=lt (by omega);rcases Nat.lt_or_ge j (i - 1) with h1 | h1
   · have h2:=(List.pairwise_iff_getElem.1 h.fT) j (i - 1) (by rw[List.length_take]; omega) (by rw[List.length_take]; omega) h1;simp only[List.getElem_take] at h2;rw[List.getElem?_eq_getElem (by omega)] at hx;cases hx;omega
   · obtain rfl:j=i - 1:=by omega
     rw[List.getElem?_eq_getElem (by omega)] at hx;cases hx; exact hl
 · rw[e,List.pairwise_append];refine⟨h.fair,List.pairwise_singleton _ _,fun a ha b hb=> ?_⟩;cases List.mem_singleton.1 hb;obtain⟨j,hj,hx⟩:=get a ha;exact fr j a hj hx
theorem dq.at_ {R:bn} {now aA:Int} {l:List ax} (h:dq R now aA l) {i:Nat} (hi:i<l.length):bF R l[i] now=true∧l[i].aA<aA∧(0<i→(l[i - 1]'(by omega)).id<l[i].id)∧∀(j:Nat) x,j<i→l[j]? = some x→gI x l[i]=true:=by
 refine⟨(h.ok _ (List.getElem_mem hi)).1,(h.ok _ (List.getElem_mem hi)).2,fun h0=> ?_,fun j x hj hx=> ?_⟩
 · exact(List.pairwise_iff_getElem.1 h.fT) (i - 1) i (by omega) hi (by omega)
 · have:=(List.pairwise_iff_getElem.1 h.fair) j i (by omega) hi hj;rw[List.getElem?_eq_getElem (by omega)] at hx;cases hx; exact this
def sA (h:ai):Bool:=decide (dq h.rules h.now h.aA h.ae)
set_option maxHeartbeats 1000000 in
theorem Rv (h : ai) (hs:h.rules.seats.length≤aN) (b:Bool) (hb:b=sA h):Spec Tryz.prog 50 [cG h] (aG (bR fun _=>b)):=by
 refine aF au Tryz.func50 rfl rfl (fr:=true) (fun _=>by kernel_rfl) fun P hP hA=> ?_
 have hl:h.ae.length≤9223372036854775807:=by
   obtain⟨⟨_,_,_,_,_,_,_,_,_,_,_,⟨h1,_⟩,_⟩,_⟩:=hA;exact h1
 have no:¬dq h.rules h.now h.aA h.ae→b=false:=fun hn=>hb.trans (decide_eq_false hn);cbv
 repeat (refine Pz.mk ?_; cbv)
 refine aR.by (X:=Nat) (fun i=>[(1,pN 0),(3,nT fun _=>i)]) (fun _=>[(0, .box (iD h))]) (fun i=>i≤h.ae.length∧dq h.rules h.now h.aA (h.ae.take i)) (fun i _=>h.ae.length - i) 0 ⟨Nat.zero_le _,by rw[List.take_zero]; exact dq.nil _ _ _⟩ ?_ ?_
 · cbv
   repeat (refine Pz.mk ?_; cbv)
   repeat' first | exact trivial | refine⟨rfl, ?_⟩ | fail
 · intro i ⟨hi, hn⟩;cbv
   repeat (refine Pz.mk ?_; cbv)
   refine Br.dec (fun h2=> ?_) (fun h2=> ?_) <;> (cbv; repeat (refine Pz.mk ?_; cbv))
   rotate_left
   · have h2:h.ae.length≤i:=by simp at h2; omega
     refine⟨?_,trivial⟩;rw[List.take_of_length_le h2] at hn;exact(hb.trans (decide_eq_true hn)).symm
   have h2:i<h.ae.length:=by simpa using h2
   refine⟨h.ae[i],by simp,get_cast h.ae h2, ?_⟩;cbv
   repeat (refine Pz.mk ?_; cbv)
   refine af.by hP (D6 h.rules h.ae[i] h.now hs (bF h.rules h.ae[i] h.now) rfl) ?_;cbv
   repeat (refine Pz.mk ?_; cbv)
   refine Br.split (fun k0=> ?_) (fun k0=> ?_) <;> (cbv; repeat (refine Pz.mk ?_; cbv))
   · refine⟨?_,trivial⟩;have k0:(!bF h.rules h.ae[i] h.now)=true:=k0;exact(no (fun hg=>by have:=(hg.at_ h2).1; rw[this] at k0; cases k0)).symm
   have k0:(!bF h.rules h.ae[i] h.now)=false:=k0;have k0:bF h.rules h.ae[i] h.now=true:=by simpa using k0
   refine Br.dec (fun k1=> ?_) (fun k1=> ?_) <;> (cbv; repeat (refine Pz.mk ?_; cbv))
   · refine⟨?_,trivial⟩;have k1:h.aA≤h.ae[i].aA:=k1;exact(no (fun hg=>by have:=(hg.at_ h2).2.1; omega)).symm
   have k1:¬h.aA≤h.ae[i].aA:=k1;refine Br.dec (fun k2=> ?_) (fun k2=> ?_) <;> (cbv; repeat (refine Pz.mk ?_; cbv))
   · have k2 : 0<i:=by simpa using k2
     have h4:i - 1<h.ae.length:=by omega
     have oj:0≤(i:Int) - 1:=by omega
     have gj:h.ae[((i:Int) - 1).toNat]? = some h.ae[i - 1]:=by rw[show((i:Int) - 1).toNat=i - 1 by omega]; exact List.getElem?_eq_getElem h4
     refine Ar.exact (by(try simp only[nc] at *); omega) (by(try simp only[nc] at *); omega) ?_;cbv
     repeat (refine Pz.mk ?_; cbv)
     refine⟨h.ae[i - 1],oj,gj, ?_⟩;cbv
     repeat (refine Pz.mk ?_; cbv)
     repeat (refine Pz.mk ?_; cbv)
     refine Br.dec (fun k3=> ?_) (fun k3=> ?_) <;> (cbv; repeat (refine Pz.mk ?_; cbv))
     · refine⟨?_,trivial⟩;have k3:h.ae[i].id≤h.ae[i - 1].id:=k3;exact(no (fun hg=>by have:=(hg.at_ h2).2.2.1 k2; omega)).symm
     have k3:¬h.ae[i].id≤h.ae[i - 1].id:=k3;have k3:0<i→(h.ae[i - 1]'(by omega)).id<h.ae[i].id:=fun _=>by omega
     refine aR.by (X:=Nat) (fun j=>[(1,pN 0),(3,nT fun _=>i),(4,pN 1),(5,nT fun _=>j)]) (fun _=>[(0, .box (iD h)),(1, .box ((bY .aE fun _=>h.ae[i]).map .lf))]) (fun j=>j≤i∧∀(m:Nat) x,m<j→h.ae[m]? = some x→gI x h.ae[i]=true) (fun j _=>i - j) 0 ⟨Nat.zero_le _,fun m x hm=>by omega⟩ ?_ ?_
     · cbv
       repeat (refine Pz.mk ?_; cbv)
       repeat' first | exact trivial | refine⟨rfl, ?_⟩ | fail
     · intro j ⟨hj,hf⟩;cbv
       repeat (refine Pz.mk ?_; cbv)
       refine Br.dec (fun h5=> ?_) (fun h5=> ?_) <;> (cbv; repeat (refine Pz.mk ?_; cbv))
       rotate_left
       · have h5:i≤j:=by simp at h5; omega
         refine Ar.exact (by(try simp only[nc] at *); omega) (by(try simp only[nc] at *); omega) ?_;cbv
         repeat (refine Pz.mk ?_; cbv)
         refine aL.by (i+1) ?_ ?_ ?_
         · show h.ae.length - (i+1)<h.ae.length - i;omega
         · exact⟨h2,hn.snoc h2 k0 (by omega) k3 fun m x hm=>hf m x (by omega)⟩
         · cbv
           repeat (refine Pz.mk ?_; cbv)
           repeat' first | exact trivial | refine⟨rfl, ?_⟩ | fail
       have h5:j<i:=by simpa using h5
       have h6:j<h.ae.length:=by omega
       have bad:gI h.ae[j] h.ae[i]=false→b=false:=fun hx=>no fun hg=>by
         have:=(hg.at_ h2).2.2.2 j _ h5 (List.getElem?_eq_getElem h6);rw[hx] at this; cases this
       refine⟨h.ae[j],by simp,get_cast h.ae h6, ?_⟩;cbv
       repeat (refine Pz.mk ?_; cbv)
       repeat' first
         | (refine Br.split (fun h=> ?_) (fun h=> ?_) <;> cbv)
         | fail
       all_goals first
         | (refine⟨?_,trivial⟩
            exact(bad (by simp_all [gI])).symm)
         | (refine Ar.exact (by(try simp only[nc] at *); omega) (by(try simp only[nc] at *); omega) ?_
            cbv
            repeat (refine Pz.mk ?_; cbv)
            refine aL.by (j+1) ?_ ?_ ?_
            · show i - (j+1)<i - j;omega
            · exact⟨h5,gN h6 hf (by simp_all [gI])⟩
            · cbv
              repeat (refine Pz.mk ?_; cbv)
              repeat' first | exact trivial | refine⟨rfl, ?_⟩ | fail)
   · have k2 : ¬0<i:=by simpa using k2
     have k3:0<i→(h.ae[i - 1]'(by omega)).id<h.ae[i].id:=fun h0=>absurd h0 k2;refine aR.by (X:=Nat) (fun j=>[(1,pN 0),(3,nT fun _=>i),(4,pN 1),(5,nT fun _=>j)]) (fun _=>[(0, .box (iD h)),(1, .box ((bY .aE fun _=>h.ae[i]).map .lf))]) (fun j=>j≤i∧∀(m:Nat) x,m<j→h.ae[m]? = some x→gI x h.ae[i]=true) (fun j _=>i - j) 0 ⟨Nat.zero_le _,fun m x hm=>by omega⟩ ?_ ?_
     · cbv
       repeat (refine Pz.mk ?_; cbv)
       repeat' first | exact trivial | refine⟨rfl, ?_⟩ | fail
     · intro j ⟨hj,hf⟩;cbv
       repeat (refine Pz.mk ?_; cbv)
       refine Br.dec (fun h5=> ?_) (fun h5=> ?_) <;> (cbv; repeat (refine Pz.mk ?_; cbv))
       rotate_left
       · have h5:i≤j:=by simp at h5; omega
         refine Ar.exact (by(try simp only[nc] at *); omega) (by(try simp only[nc] at *); omega) ?_;cbv
         repeat (refine Pz.mk ?_; cbv)
         refine aL.by (i+1) ?_ ?_ ?_
         · show h.ae.length - (i+1)<h.ae.length - i;omega
         · exact⟨h2,hn.snoc h2 k0 (by omega) k3 fun m x hm=>hf m x (by omega)⟩
         · cbv
           repeat (refine Pz.mk ?_; cbv)
           repeat' first | exact trivial | refine⟨rfl, ?_⟩ | fail
       have h5:j<i:=by simpa using h5
       have h6:j<h.ae.length:=by omega
       have bad:gI h.ae[j] h.ae[i]=false→b=false:=fun hx=>no fun hg=>by
         have:=(hg.at_ h2).2.2.2 j _ h5 (List.getElem?_eq_getElem h6);rw[hx] at this; cases this
       refine⟨h.ae[j],by simp,get_cast h.ae h6, ?_⟩;cbv
       repeat (refine Pz.mk ?_; cbv)
       repeat' first
         | (refine Br.split (fun h=> ?_) (fun h=> ?_) <;> cbv)
         | fail
       all_goals first
         | (refine⟨?_,trivial⟩
            exact(bad (by simp_all [gI])).symm)
         | (refine Ar.exact (by(try simp only[nc] at *); omega) (by(try simp only[nc] at *); omega) ?_
            cbv
            repeat (refine Pz.mk ?_; cbv)
            refine aL.by (j+1) ?_ ?_ ?_
            · show i - (j+1)<i - j;omega
            · exact⟨h5,gN h6 hf (by simp_all [gI])⟩
            · cbv
              repeat (refine Pz.mk ?_; cbv)
              repeat' first | exact trivial | refine⟨rfl, ?_⟩ | fail)
structure pC (n:Int) (Km Rw:List Int):Prop where
 todo:∀x∈Km,ak x 0 (n - 1)=true
 once:Km.Pairwise fun a b=>a≠b
 aq:∀x∈Rw,ak x (-1) (n - 1)=true
instance (n:Int) (todo aq:List Int):Decidable (pC n todo aq):=
 decidable_of_iff ((∀x∈todo,ak x 0 (n - 1)=true)∧(todo.Pairwise fun a b=>a≠b)∧∀x∈aq,ak x (-1) (n - 1)=true) ⟨fun⟨a,b,c⟩=>⟨a,b,c⟩,fun⟨a,b,c⟩=>⟨a,b,c⟩⟩
def pD (h:ai):Bool:=decide (pC h.cabins.length h.todo h.aq) && ((h.aq.length:Int) == h.rules.bm)
structure xZ (n:Int) (l:List Int):Prop where
 ok:∀x∈l,ak x 0 (n - 1)=true
 ne:l.Pairwise fun a b=>a≠b
theorem xZ.snoc {n:Int} {l:List Int} {i:Nat} (hi:i<l.length) (h:xZ n (l.take i)) (ok:ak l[i] 0 (n - 1)=true) (ne:hasB (l.take i) l[i]=false):xZ n (l.take (i+1)):=by
 have e:l.take (i+1)=l.take i ++ [l[i]]:=by rw[List.take_add_one,List.getElem?_eq_getElem hi]; rfl
 constructor
 · intro x hx;rw[e,List.mem_append] at hx;rcases hx with hx | hx
   · exact h.ok x hx
   · cases List.mem_singleton.1 hx; exact ok
 · rw[e,List.pairwise_append];refine⟨h.ne,List.pairwise_singleton _ _,fun a ha b hb=> ?_⟩;cases List.mem_singleton.1 hb;have:=List.any_eq_false.1 ne a ha;simpa using this
theorem Kn {l:List Int} {i:Nat} (hi:i<l.length) (h:l.Pairwise fun a b=>a≠b):hasB (l.take i) l[i]=false:=by
 refine EC fun j y hy=> ?_;rw[List.getElem?_take] at hy
 split at hy
 · have:=(List.pairwise_iff_getElem.1 h) j i (by omega) hi (by assumption);rw[List.getElem?_eq_getElem (by omega)] at hy;cases hy;simpa using this
 · cases hy
set_option maxHeartbeats 1000000 in
theorem Rx (h:ai) (hc:h.cabins.length≤aN) (b:Bool) (hb:b=pD h):Spec Tryz.prog 51 [cG h] (aG (bR fun _=>b)):=by
 refine aF au Tryz.func51 rfl rfl (fr:=true) (fun _=>by kernel_rfl) fun P hP hA=> ?_;have jx:h.cabins.length≤1048576:=hc;obtain⟨⟨_,_,_,_,_,_,_,_,_,_,_,_,_,⟨ht,_⟩,⟨hj,_⟩,_⟩,_⟩:=hA;have ht:h.todo.length≤9223372036854775807:=ht;have hj:h.aq.length≤9223372036854775807:=hj;have no:¬pC h.cabins.length h.todo h.aq→b=false:=fun hn=>hb.trans (by rw[pD,decide_eq_false hn,Bool.false_and]);have lo: -9223372036854775808≤(h.cabins.length:Int) - 1:=by omega
 have hi:(h.cabins.length:Int) - 1≤9223372036854775807:=by omega
 cbv;refine aR.by (X:=Nat) (fun i=>[(1,pN 0),(3,nT fun _=>i)]) (fun _=>[(0, .box (iD h))]) (fun i=>i≤h.todo.length∧xZ h.cabins.length (h.todo.take i)) (fun i _=>h.todo.length - i) 0 ⟨Nat.zero_le _,by rw[List.take_zero]; exact⟨fun x hx=>(by cases hx),List.Pairwise.nil⟩⟩ ?_ ?_
 · cbv
   repeat' first | exact trivial | refine⟨rfl, ?_⟩ | fail
 · intro i ⟨EF,hn⟩;cbv;refine Br.dec (fun h2=> ?_) (fun h2=> ?_) <;> cbv
   · have h2:i<h.todo.length:=by simpa using h2
     refine⟨h.todo[i],by simp,get_cast h.todo h2, ?_⟩;cbv;refine Ar.exact lo hi ?_;cbv;refine af.by hP (dn h.todo[i] 0 ((h.cabins.length:Int) - 1)) ?_;cbv;refine Br.split (fun k0=> ?_) (fun k0=> ?_) <;> cbv
     · refine⟨?_,trivial⟩;have k0:(!ak h.todo[i] 0 ((h.cabins.length:Int) - 1))=true:=k0;exact(no (fun hg=>by have:=hg.todo _ (List.getElem_mem h2); rw[this] at k0; cases k0)).symm
     have k0:(!ak h.todo[i] 0 ((h.cabins.length:Int) - 1))=false:=k0;have k0:ak h.todo[i] 0 ((h.cabins.length:Int) - 1)=true:=by simpa using k0
     have tk:(h.todo.take ((i:Int)).toNat).drop ((0:Int)).toNat=h.todo.take i:=by simp
     have os:0≤(0:Int)∧(0:Int)≤(i:Int)∧(i:Int)≤(h.todo.length:Int):=⟨by omega,by omega,by omega⟩
     repeat' first
       | (refine Ob.mk os ?_; cbv)
       | (refine Ix.mk h.todo[i] (by simp) (get_cast h.todo h2) ?_; cbv)
       | refine And.intro ?_ ?_
       | fail
     all_goals
       refine af.by hP (ED ((h.todo.take ((i:Int)).toNat).drop ((0:Int)).toNat) h.todo[i] (hasB (h.todo.take i) h.todo[i]) (by rw[tk])) ?_;cbv;refine Br.split (fun k1=> ?_) (fun k1=> ?_) <;> cbv
       · refine⟨?_,trivial⟩;exact(no (fun hg=>by have:=Kn h2 hg.once; rw[this] at k1; cases k1)).symm
       refine Ar.exact (by(try simp only[nc] at *); omega) (by(try simp only[nc] at *); omega) ?_;cbv;refine aL.by (i+1) ?_ ?_ ?_
       · show h.todo.length - (i+1)<h.todo.length - i;omega
       · exact⟨h2,hn.snoc h2 k0 k1⟩
       · cbv
         repeat' first | exact trivial | refine⟨rfl, ?_⟩ | fail
   · have h2 :h.todo.length≤i:=by simp at h2; omega
     rw[List.take_of_length_le h2] at hn;refine aR.by (X:=Nat) (fun j=>[(1,pN 0),(4,nT fun _=>j)]) (fun _=>[(0, .box (iD h))]) (fun j=>j≤h.aq.length∧∀(m:Nat) x,m<j→h.aq[m]? = some x→ak x (-1) ((h.cabins.length:Int) - 1)=true) (fun j _=>h.aq.length - j) 0 ⟨Nat.zero_le _,fun m x hm=>by omega⟩ ?_ ?_
     · cbv
       repeat' first | exact trivial | refine⟨rfl, ?_⟩ | fail
     · intro j ⟨gJ,hq⟩;cbv;refine Br.dec (fun h3=> ?_) (fun h3=> ?_) <;> cbv
       · have h3:j<h.aq.length:=by simpa using h3
         refine⟨h.aq[j],by simp,get_cast h.aq h3, ?_⟩;cbv;refine Ar.exact lo hi ?_;cbv;refine af.by hP (dn h.aq[j] (-1) ((h.cabins.length:Int) - 1)) ?_;cbv;refine Br.split (fun k0=> ?_) (fun k0=> ?_) <;> cbv
         · refine⟨?_,trivial⟩;have k0:(!ak h.aq[j] (-1) ((h.cabins.length:Int) - 1))=true:=k0;exact(no (fun hg=>by have:=hg.aq _ (List.getElem_mem h3); rw[this] at k0; cases k0)).symm
         have k0:(!ak h.aq[j] (-1) ((h.cabins.length:Int) - 1))=false:=k0;have k0:ak h.aq[j] (-1) ((h.cabins.length:Int) - 1)=true:=by simpa using k0
         refine Ar.exact (by(try simp only[nc] at *); omega) (by(try simp only[nc] at *); omega) ?_;cbv;refine aL.by (j+1) ?_ ?_ ?_
         · show h.aq.length - (j+1)<h.aq.length - j;omega
         · exact⟨h3,gN h3 hq k0⟩
         · cbv
           repeat' first | exact trivial | refine⟨rfl, ?_⟩ | fail
       · have h3:h.aq.length≤j:=by simp at h3; omega
         have hg:pC h.cabins.length h.todo h.aq:=⟨hn.ok,hn.ne,fun x hx=>by
           obtain⟨m,hm⟩:=List.mem_iff_getElem?.1 hx;exact mn h3 hq m x hm⟩
         refine⟨?_,trivial⟩;show((h.aq.length:Int) == h.rules.bm)=b;rw[hb,pD,decide_eq_true hg,Bool.true_and]
def x_ {α:Type} (f:Nat→α→Bool):Nat→List α→Bool
 | _,[]=>true
 | k,a::l=>f k a && x_ f (k+1) l
theorem EG {α:Type} {f:Nat→α→Bool}:∀{l:List α} {k:Nat},x_ f k l=true↔∀(j:Nat) a,l[j]? = some a→f (k+j) a=true
 | [],k=>by simp[x_]
 | b ::l,k=>by
   have ih:=EG (f:=f) (l:=l) (k:=k+1);simp only[x_,Bool.and_eq_true,ih]
   constructor
   · intro⟨h1,h2⟩ j a hj;cases j with
     | zero=>simp at hj; subst hj; exact h1
     | succ j=>have:=h2 j a (by simpa using hj); rwa [show k+1+j=k+(j+1) by omega] at this
   · intro h;refine⟨h 0 b rfl,fun j a hj=> ?_⟩;have:=h (j+1) a (by simpa using hj)
     rwa [show k+(j+1)=k+1+j by omega] at this
def iU (h:ai) (k:Nat) (c:ba):Bool:=
 (c.seats.total == h.rules.seats.getD k 0) && (decide (((aV (bK (k:Int)) h.ae:Nat):Int)≤h.rules.room) && gb h.rules c h.ae (k:Int) h.now)
def EH (h:ai):Bool:=x_ (iU h) 0 h.cabins
def bU (h:ai):Bool:=
 ca h.rules && (ak h.now 0 1000000 && (ak h.aA 1 1000001 && (decide (h.ae.length≤40) && (decide (h.cabins.length=h.rules.seats.length) && (sA h && (pD h && EH h))))))
structure HG (h:ai):Prop where
 rules:ca h.rules=true
 now:ak h.now 0 1000000=true
 aA:ak h.aA 1 1000001=true
 dj:h.ae.length≤40
 fL:h.cabins.length=h.rules.seats.length
 ae:dq h.rules h.now h.aA h.ae
 aq:pC h.cabins.length h.todo h.aq
 bm:((h.aq.length:Nat):Int)=h.rules.bm
 ag:∀(k:Nat) c,h.cabins[k]? = some c→iU h k c=true
theorem dy {h:ai}:bU h=true↔HG h:=by
 simp only[bU,sA,pD,EH,Bool.and_eq_true,decide_eq_true_eq,beq_iff_eq,EG,Nat.zero_add]
 constructor
 · intro⟨a,b,c,d,e,f,⟨g,i⟩,j⟩; exact⟨a,b,c,d,e,f,g,i,j⟩
 · intro⟨a,b,c,d,e,f,g,i,j⟩; exact⟨a,b,c,d,e,f,⟨g,i⟩,j⟩
theorem Ko {h:ai} (hn:¬HG h):bU h=false:=by
 cases hb:bU h with
 | false=>rfl
 | true=>exact absurd (dy.1 hb) hn
theorem EI (q:ax→Bool) (k:Int):∀l:List ax,(l.filter fun p=>q p && p.ag == k).length≤aV (bK k) l
 | []=>Nat.zero_le _
 | p ::l=>by
   have ih:=EI q k l;have e:aV (bK k) (p::l)=bK k p+aV (bK k) l:=rfl;rw[e,List.filter_cons]
   split
   · rename_i h;have h2:(p.ag == k)=true:=by simp only[Bool.and_eq_true] at h; exact h.2
     have e2:bK k p=1:=by rw[bK,if_pos h2]
     rw[List.length_cons,e2]; omega
   · omega
theorem EJ {R:bn} {k now:Int} {l:List ax} {n:Nat} (h:aV (bK k) l≤n):(fJ R k now l).length≤n:=by
 rw[fJ,List.length_map]; exact Nat.le_trans (EI _ k l) h
theorem Ry {k:Int} {l:List ax} {n:Nat} (h:aV (bK k) l≤n):(ga k l).length≤n:=by
 rw[ga,List.length_map]; exact Nat.le_trans (EI _ k l) h
theorem dE.ag {a:List ba} (h:ph a) {k:Nat} (hk:k<a.length):dE a[k].spoke:=by
 obtain⟨h1,h2,h3⟩:=h.2 _ (List.getElem_mem hk);exact dE.of h2 h3
set_option maxHeartbeats 1000000 in
theorem kF (h:ai) (hs:a_ h) (b:Bool) (hb:b=bU h):Spec Tryz.prog 15 [cG h] (aG (bR fun _=>b)):=by
 refine aF au Tryz.func15 rfl rfl (fr:=true) (fun _=>by kernel_rfl) fun P hP hA=> ?_;obtain⟨s1,s2,s3,s4,s5⟩:=hs;have no:¬HG h→b=false:=fun hn=>hb.trans (Ko hn);cbv
 repeat (refine Pz.mk ?_; cbv)
 refine af.by hP (xQ h.rules s1 (ca h.rules) rfl) ?_;cbv
 repeat (refine Pz.mk ?_; cbv)
 refine Br.split (fun k0=> ?_) (fun k0=> ?_) <;> (cbv; repeat (refine Pz.mk ?_; cbv))
 · refine⟨?_,trivial⟩;have k0:(!ca h.rules)=true:=k0;exact(no (fun hg=>by rw[hg.rules] at k0; cases k0)).symm
 have k0:(!ca h.rules)=false:=k0;have k0:ca h.rules=true:=by simpa using k0
 have hr:=eB k0;have hlen:=hr.len;refine af.by hP (dn h.now 0 1000000) ?_;cbv
 repeat (refine Pz.mk ?_; cbv)
 refine Br.split (fun k1=> ?_) (fun k1=> ?_) <;> (cbv; repeat (refine Pz.mk ?_; cbv))
 · refine⟨?_,trivial⟩;have k1:(!ak h.now 0 1000000)=true:=k1;exact(no (fun hg=>by rw[hg.now] at k1; cases k1)).symm
 have k1:(!ak h.now 0 1000000)=false:=k1;have k1:ak h.now 0 1000000=true:=by simpa using k1
 refine af.by hP (dn h.aA 1 1000001) ?_;cbv
 repeat (refine Pz.mk ?_; cbv)
 refine Br.split (fun k2=> ?_) (fun k2=> ?_) <;> (cbv; repeat (refine Pz.mk ?_; cbv))
 · refine⟨?_,trivial⟩;have k2:(!ak h.aA 1 1000001)=true:=k2;exact(no (fun hg=>by rw[hg.aA] at k2; cases k2)).symm
 have k2:(!ak h.aA 1 1000001)=false:=k2;have k2:ak h.aA 1 1000001=true:=by simpa using k2
 refine Br.dec (fun k3=> ?_) (fun k3=> ?_) <;> (cbv; repeat (refine Pz.mk ?_; cbv))
 · refine⟨?_,trivial⟩;have k3:(40:Int)<(h.ae.length:Int):=k3;exact(no (fun hg=>by have:=hg.dj; omega)).symm
 have k3:¬(40:Int)<(h.ae.length:Int):=k3;have k3:h.ae.length≤40:=by omega
 refine Br.split (fun k4=> ?_) (fun k4=> ?_) <;> (cbv; repeat (refine Pz.mk ?_; cbv))
 · refine⟨?_,trivial⟩;have k4:((h.cabins.length:Int) != (h.rules.seats.length:Int))=true:=k4;exact(no (fun hg=>by rw[hg.fL] at k4; simp at k4)).symm
 have k4:((h.cabins.length:Int) != (h.rules.seats.length:Int))=false:=k4;have k4:h.cabins.length=h.rules.seats.length:=by simp at k4; omega
 refine af.by hP (Rv h s1 (sA h) rfl) ?_;cbv
 repeat (refine Pz.mk ?_; cbv)
 refine Br.split (fun k5=> ?_) (fun k5=> ?_) <;> (cbv; repeat (refine Pz.mk ?_; cbv))
 · refine⟨?_,trivial⟩;have k5:(!sA h)=true:=k5;exact(no (fun hg=>by rw[sA,decide_eq_true hg.ae] at k5; cases k5)).symm
 have k5:(!sA h)=false:=k5;have k5:sA h=true:=by simpa using k5
 refine af.by hP (Rx h s3.1 (pD h) rfl) ?_;cbv
 repeat (refine Pz.mk ?_; cbv)
 refine Br.split (fun k6=> ?_) (fun k6=> ?_) <;> (cbv; repeat (refine Pz.mk ?_; cbv))
 · refine⟨?_,trivial⟩;have k6:(!pD h)=true:=k6;exact(no (fun hg=>by rw[pD,decide_eq_true hg.aq,hg.bm] at k6; simp at k6)).symm
 have k6:(!pD h)=false:=k6;have k6:pD h=true:=by simpa using k6
 refine aR.by (X:=Nat) (fun i=>[(1,pN 0),(3,nT fun _=>i)]) (fun _=>[(0, .box (iD h))]) (fun i=>i≤h.cabins.length∧∀(k:Nat) c,k<i→h.cabins[k]? = some c→iU h k c=true) (fun i _=>h.cabins.length - i) 0 ⟨Nat.zero_le _,fun k c hk=>by omega⟩ ?_ ?_
 · cbv
   repeat' first | exact trivial | refine⟨rfl, ?_⟩ | fail
 · intro i ⟨hi,hn⟩;cbv
   repeat (refine Pz.mk ?_; cbv)
   refine Br.dec (fun h2=> ?_) (fun h2=> ?_) <;> (cbv; repeat (refine Pz.mk ?_; cbv))
   rotate_left
   · have h2:h.cabins.length≤i:=by simp at h2; omega
     refine⟨?_,trivial⟩;have hc:EH h=true:=EG.2 fun k c hc=>by rw[Nat.zero_add]; exact hn k c (Nat.lt_of_lt_of_le (bC hc) h2) hc
     show true=b;rw[hb,bU,k0,k1,k2,decide_eq_true k3,decide_eq_true k4,k5,k6,hc]; rfl
   have h2:i<h.cabins.length:=by simpa using h2
   have dR:i<h.rules.seats.length:=by omega
   have ya:h.rules.seats.getD i 0=h.rules.seats[i]:=by rw[List.getD_eq_getElem?_getD,List.getElem?_eq_getElem dR]; rfl
   have bad:iU h i h.cabins[i]=false→b=false:=fun hx=>no fun hg=>by
     have:=hg.ag i _ (List.getElem?_eq_getElem h2);rw[hx] at this; cases this
   repeat' first
     | (refine Ix.mk h.cabins[i] (by simp) (get_cast h.cabins h2) ?_; cbv)
     | (refine Ix.mk h.rules.seats[i] (by simp) (get_cast h.rules.seats dR) ?_; cbv)
     | fail
   refine Br.split (fun q0=> ?_) (fun q0=> ?_) <;> (cbv; repeat (refine Pz.mk ?_; cbv))
   · refine⟨?_,trivial⟩;have q0:(h.cabins[i].seats.total != h.rules.seats[i])=true:=q0
     exact(bad (by
       have e:(h.cabins[i].seats.total == h.rules.seats.getD i 0)=false:=by rw[ya]; simpa using q0
       rw[iU,e]; rfl)).symm
   have q0:(h.cabins[i].seats.total != h.rules.seats[i])=false:=q0;have q0:(h.cabins[i].seats.total == h.rules.seats.getD i 0)=true:=by rw[ya]; simpa using q0
   refine⟨h.cabins[i],by simp,get_cast h.cabins h2, ?_⟩;cbv
   repeat (refine Pz.mk ?_; cbv)
   refine af.by hP (Rr h.rules h.cabins[i] h.ae (i:Int) h.now s1 s2 (dE.ag s3 h2) (gb h.rules h.cabins[i] h.ae (i:Int) h.now) rfl) ?_;cbv
   repeat (refine Pz.mk ?_; cbv)
   refine Br.split (fun q1=> ?_) (fun q1=> ?_) <;> (cbv; repeat (refine Pz.mk ?_; cbv))
   · refine⟨?_,trivial⟩;have q1:(!gb h.rules h.cabins[i] h.ae (i:Int) h.now)=true:=q1;have q1:gb h.rules h.cabins[i] h.ae (i:Int) h.now=false:=by simpa using q1
     exact(bad (by rw[iU,q1]; simp)).symm
   have q1:(!gb h.rules h.cabins[i] h.ae (i:Int) h.now)=false:=q1;have q1:gb h.rules h.cabins[i] h.ae (i:Int) h.now=true:=by simpa using q1
   refine af.by hP (AB h.ae (i:Int) s2) ?_;cbv
   repeat (refine Pz.mk ?_; cbv)
   refine Br.dec (fun q2=> ?_) (fun q2=> ?_) <;> (cbv; repeat (refine Pz.mk ?_; cbv))
   · refine⟨?_,trivial⟩;have q2:h.rules.room<((aV (bK (i:Int)) h.ae:Nat):Int):=q2;exact(bad (by rw[iU,decide_eq_false (by omega:¬((aV (bK (i:Int)) h.ae:Nat):Int)≤h.rules.room)]; simp)).symm
   have q2:¬h.rules.room<((aV (bK (i:Int)) h.ae:Nat):Int):=q2;have q3:((aV (bK (i:Int)) h.ae:Nat):Int)≤h.rules.room:=by omega
   refine Ar.exact (by(try simp only[nc] at *); omega) (by(try simp only[nc] at *); omega) ?_;cbv
   repeat (refine Pz.mk ?_; cbv)
   refine aL.by (i+1) ?_ ?_ ?_
   · show h.cabins.length - (i+1)<h.cabins.length - i;omega
   · refine⟨h2,fun k c hk hc=> ?_⟩;rcases Nat.lt_or_ge k i with h3 | h3
     · exact hn k c h3 hc
     · obtain rfl:k=i:=by omega
       rw[List.getElem?_eq_getElem h2] at hc;cases hc;rw[iU,q0,q1,decide_eq_true q3]; rfl
   · cbv
     repeat' first | exact trivial | refine⟨rfl, ?_⟩ | fail
end Go.Proofs.YtpklefhdkkegiaaGreat

