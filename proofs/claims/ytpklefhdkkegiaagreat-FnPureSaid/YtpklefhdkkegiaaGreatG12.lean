/- Parts of a proof. No conditions. -/

import Derived.Test.YtpklefhdkkegiaaGreatG09
import Derived.Test.YtpklefhdkkegiaaGreatG11
set_option linter.unusedSimpArgs false
set_option linter.unusedVariables false
namespace Go.Proofs.YtpklefhdkkegiaaGreat
open Go
set_option maxRecDepth 100000
def Nu:V→List C
 | .agg cs=>cs
 | _=>[]
def kC (h:al):List C:=Nu (dV h)
def hasB (l:List Int) (x:Int):Bool:=l.any fun y=>y == x
theorem GK {l:List Int} {x:Int} {i:Nat} (hi:i<l.length) (h:(l[i] == x)=true):hasB l x=true:=List.any_eq_true.2 ⟨_,List.getElem_mem hi,h⟩
theorem Bv {l:List Int} {x:Int} (h:∀(j:Nat) y,l[j]? = some y→(y == x)=false):hasB l x=false:=by
 rw[hasB,List.any_eq_false];intro y hy;obtain⟨j,hj⟩:=List.mem_iff_getElem?.1 hy;rw[h j y hj]; simp
theorem GL (a:List Int) (v:Int) (b:Bool) (hb:b=hasB a v):Spec Tryz.prog 113 [lA .int a,iA v] (aM (bR fun _=>b)):=by
 refine aN aD Tryz.func113 rfl rfl (fr:=true) (fun _=>by kernel_rfl) fun P hP hA=> ?_;obtain⟨⟨ha,_⟩,_⟩:=hA;have ha:a.length≤9223372036854775807:=ha;cbv;refine aW.by (X:=Nat) (fun i=>[(0,lA .int a),(1,iA v),(5,nT fun _=>i)]) (fun _=>[]) (fun i=>i≤a.length∧∀(j:Nat) y,j<i→a[j]? = some y→(y == v)=false) (fun i _=>a.length - i) 0 ⟨Nat.zero_le _,fun j y hj=>by omega⟩ ?_ ?_
 · cbv
   repeat' first | exact trivial | refine⟨rfl, ?_⟩ | fail
 · intro i ⟨hi,hn⟩;cbv;refine Br.dec (fun h2=> ?_) (fun h2=> ?_) <;> cbv
   · have h2:i<a.length:=by simpa using h2
     refine⟨a[i],by simp,get_cast a h2, ?_⟩;cbv;refine Br.split (fun h3=> ?_) (fun h3=> ?_) <;> cbv
     · refine⟨?_,trivial⟩;exact(hb.trans (GK h2 h3)).symm
     · refine Ar.exact (by(try simp only[nc] at *); omega) (by(try simp only[nc] at *); omega) ?_;cbv;refine aO.by (i+1) ?_ ?_ ?_
       · show a.length - (i+1)<a.length - i;omega
       · exact⟨h2,gy h2 hn h3⟩
       · cbv
         repeat' first | exact trivial | refine⟨rfl, ?_⟩ | fail
   · have h2:a.length≤i:=by simp at h2; omega
     refine⟨?_,trivial⟩;exact(hb.trans (Bv (ma h2 hn))).symm
theorem Nv (l:List Int) (v:Int):decide (ie (fun y=>y == v) l≥0)=hasB l v:=by
 rcases iC (fun y:Int=>y == v) l with⟨h,h1⟩ | ⟨i,hi,h,h1,_⟩
 · rw[h,Bv fun j y hy=>h1 y (List.mem_of_getElem? hy)]; rfl
 · rw[h,GK hi h1]; exact decide_eq_true (by omega)
theorem Nw (a:List Int) (v:Int) (x:Int) (hx:x=ie (fun y=>y == v) a):Spec Tryz.prog 130 [lA .int a,iA v] (aM (iR fun _=>x)):=by
 refine aN aD Tryz.func130 rfl rfl (fr:=true) (fun _=>by kernel_rfl) fun P hP hA=> ?_;obtain⟨⟨ha,_⟩,_⟩:=hA;have ha:a.length≤9223372036854775807:=ha;cbv;refine aW.by (X:=Nat) (fun i=>[(0,lA .int a),(1,iA v),(7,nT fun _=>a.length),(8,nT fun _=>i)]) (fun _=>[]) (fun i=>i≤a.length∧∀(j:Nat) y,j<i→a[j]? = some y→(y == v)=false) (fun i _=>a.length - i) 0 ⟨Nat.zero_le _,fun j y hj=>by omega⟩ ?_ ?_
 · cbv
   repeat' first | exact trivial | refine⟨rfl, ?_⟩ | fail
 · intro i ⟨hi,hn⟩;cbv;refine Br.dec (fun h2=> ?_) (fun h2=> ?_) <;> cbv
   · have h2:i<a.length:=by simpa using h2
     refine⟨a[i],by simp,get_cast a h2, ?_⟩;cbv;refine Br.split (fun h3=> ?_) (fun h3=> ?_) <;> cbv
     · refine⟨?_,trivial⟩;have h3:(v == a[i])=true:=h3;exact(hx.trans (m7 (p:=fun y=>y == v) h2 (by rw[beq_iff_eq] at h3 ⊢; exact h3.symm) hn)).symm
     · have h3:(v == a[i])=false:=h3;refine Ar.exact (by(try simp only[nc] at *); omega) (by(try simp only[nc] at *); omega) ?_;cbv;refine aO.by (i+1) ?_ ?_ ?_
       · show a.length - (i+1)<a.length - i;omega
       · exact⟨h2,gy h2 hn (by rw[beq_eq_false_iff_ne] at h3 ⊢; exact fun h=>h3 h.symm)⟩
       · cbv
         repeat' first | exact trivial | refine⟨rfl, ?_⟩ | fail
   · have h2:a.length≤i:=by simp at h2; omega
     refine⟨?_,trivial⟩;exact(hx.trans (m8 (ma h2 hn))).symm
theorem Bw (a:List Int) (v:Int) (b:Bool) (hb:b=hasB a v):Spec Tryz.prog 59 [lA .int a,iA v] (aM (bR fun _=>b)):=by
 refine aN aD Tryz.func59 rfl rfl (fr:=true) (fun _=>by kernel_rfl) fun P hP hA=> ?_;cbv;refine ag.by hP (Nw a v (ie (fun y=>y == v) a) rfl) ?_;cbv;refine⟨?_,trivial⟩;exact(Nv a v).trans hb.symm
def fw (q p:ax):Bool:= !(q.az == p.az || (decide (q.az<p.az) && decide (q.since>p.since)) || (decide (q.az>p.az) && decide (q.since<p.since)))
structure c_ (R:br) (now az:Int) (l:List ax):Prop where
 ok:∀p∈l,bz R p now=true∧p.az<az
 fg:l.Pairwise fun a b=>a.id<b.id
 fair:l.Pairwise fun a b=>fw a b=true
instance (R:br) (now az:Int) (l:List ax):Decidable (c_ R now az l):=
 decidable_of_iff ((∀p∈l,bz R p now=true∧p.az<az)∧(l.Pairwise fun a b=>a.id<b.id)∧l.Pairwise fun a b=>fw a b=true) ⟨fun⟨a,b,c⟩=>⟨a,b,c⟩,fun⟨a,b,c⟩=>⟨a,b,c⟩⟩
theorem c_.nil (R:br) (now az:Int):c_ R now az []:=⟨fun p hp=>(by cases hp),List.Pairwise.nil,List.Pairwise.nil⟩
theorem c_.snoc {R:br} {now az:Int} {l:List ax} {i:Nat} (hi:i<l.length) (h:c_ R now az (l.take i)) (ok:bz R l[i] now=true) (ht:l[i].az<az) (lt:0<i→(l[i - 1]'(by omega)).id<l[i].id)
   (fr:∀(j:Nat) x,j<i→l[j]? = some x→fw x l[i]=true):c_ R now az (l.take (i+1)):=by
 have e:l.take (i+1)=l.take i ++ [l[i]]:=by rw[List.take_add_one,List.getElem?_eq_getElem hi]; rfl
 have get:∀x∈l.take i,∃j,j<i∧l[j]? = some x:=fun x hx=>by
   obtain⟨j,hj⟩:=List.mem_iff_getElem?.1 hx;rw[List.getElem?_take] at hj
   split at hj
   · exact⟨j,by assumption,hj⟩
   · cases hj
 refine⟨fun x hx=> ?_, ?_, ?_⟩
 · rw[e,List.mem_append] at hx;rcases hx with hx | hx
   · exact h.ok x hx
   · cases List.mem_singleton.1 hx; exact⟨ok,ht⟩
 · rw [e,List.pairwise_append];refine⟨h.fg,List.pairwise_singleton _ _,fun a ha b hb=> ?_⟩;cases List.mem_singleton.1 hb;obtain⟨j,hj,hx⟩:=get a ha;have hl:=lt (by omega);rcases Nat.lt_or_ge j (i - 1) with h1 | h1
   · have h2:=(List.pairwise_iff_getElem.1 h.fg) j (i - 1) (by rw[List.length_take]; omega) (by rw[List.length_take]; omega) h1;simp only[List.getElem_take] at h2;rw[List.getElem?_eq_getElem (by omega)] at hx;cases hx;omega
   · obtain rfl:j=i - 1:=by omega
     rw[List.getElem?_eq_getElem (by omega)] at hx;cases hx; exact hl
 · rw[e,List.pairwise_append];refine⟨h.fair,List.pairwise_singleton _ _,fun a ha b hb=> ?_⟩;cases List.mem_singleton.1 hb;obtain⟨j,hj,hx⟩:=get a ha;exact fr j a hj hx
theorem c_.at_ {R:br} {now az:Int} {l:List ax} (h:c_ R now az l) {i:Nat} (hi:i<l.length):bz R l[i] now=true∧l[i].az<az∧(0<i→(l[i - 1]'(by omega)).id<l[i].id)∧∀(j:Nat) x,j<i→l[j]? = some x→fw x l[i]=true:=by
 refine⟨(h.ok _ (List.getElem_mem hi)).1,(h.ok _ (List.getElem_mem hi)).2,fun h0=> ?_,fun j x hj hx=> ?_⟩
 · exact(List.pairwise_iff_getElem.1 h.fg) (i - 1) i (by omega) hi (by omega)
 · have:=(List.pairwise_iff_getElem.1 h.fair) j i (by omega) hi hj;rw[List.getElem?_eq_getElem (by omega)] at hx;cases hx; exact this
def p_ (h:al):Bool:=decide (c_ h.rules h.now h.az h.ae)
set_option maxHeartbeats 1000000 in
theorem Nx (h : al) (hs:h.rules.ai.length≤aS) (b:Bool) (hb:b=p_ h):Spec Tryz.prog 50 [dV h] (aM (bR fun _=>b)):=by
 refine aN aD Tryz.func50 rfl rfl (fr:=true) (fun _=>by kernel_rfl) fun P hP hA=> ?_
 have hl:h.ae.length≤9223372036854775807:=by
   obtain⟨⟨_,_,_,_,_,_,_,_,_,_,_,⟨h1,_⟩,_⟩,_⟩:=hA;exact h1
 have no:¬c_ h.rules h.now h.az h.ae→b=false:=fun hn=>hb.trans (decide_eq_false hn);cbv
 repeat (refine Pz.mk ?_; cbv)
 refine aW.by (X:=Nat) (fun i=>[(1,pN 0),(3,nT fun _=>i)]) (fun _=>[(0, .box (kC h))]) (fun i=>i≤h.ae.length∧c_ h.rules h.now h.az (h.ae.take i)) (fun i _=>h.ae.length - i) 0 ⟨Nat.zero_le _,by rw[List.take_zero]; exact c_.nil _ _ _⟩ ?_ ?_
 · cbv
   repeat (refine Pz.mk ?_; cbv)
   repeat' first | exact trivial | refine⟨rfl, ?_⟩ | fail
 · intro i ⟨hi, hn⟩;cbv
   repeat (refine Pz.mk ?_; cbv)
   refine Br.dec (fun h2=> ?_) (fun h2=> ?_) <;> (cbv; repeat (refine Pz.mk ?_; cbv))
   rotate_left
   · have h2:h.ae.length≤i:=by simp at h2; omega
     refine⟨?_,trivial⟩;rw[List.take_of_length_le h2] at hn;exact(hb.trans (decide_eq_true hn)).symm
   have h2:i<h.ae.length:=by simpa using h2
   refine⟨h.ae[i],by simp,get_cast h.ae h2, ?_⟩;cbv
   repeat (refine Pz.mk ?_; cbv)
   refine ag.by hP (FT h.rules h.ae[i] h.now hs (bz h.rules h.ae[i] h.now) rfl) ?_;cbv
   repeat (refine Pz.mk ?_; cbv)
   refine Br.split (fun k0=> ?_) (fun k0=> ?_) <;> (cbv; repeat (refine Pz.mk ?_; cbv))
   · refine⟨?_,trivial⟩;have k0:(!bz h.rules h.ae[i] h.now)=true:=k0;exact(no (fun hg=>by have:=(hg.at_ h2).1; rw[this] at k0; cases k0)).symm
   have k0:(!bz h.rules h.ae[i] h.now)=false:=k0;have k0:bz h.rules h.ae[i] h.now=true:=by simpa using k0
   refine Br.dec (fun k1=> ?_) (fun k1=> ?_) <;> (cbv; repeat (refine Pz.mk ?_; cbv))
   · refine⟨?_,trivial⟩;have k1:h.az≤h.ae[i].az:=k1;exact(no (fun hg=>by have:=(hg.at_ h2).2.1; omega)).symm
   have k1:¬h.az≤h.ae[i].az:=k1;refine Br.dec (fun k2=> ?_) (fun k2=> ?_) <;> (cbv; repeat (refine Pz.mk ?_; cbv))
   · have k2 : 0<i:=by simpa using k2
     have h4:i - 1<h.ae.length:=by omega
     have oj:0≤(i:Int) - 1:=by omega
     have gj:h.ae[((i:Int) - 1).toNat]? = some h.ae[i - 1]:=by rw[show((i:Int) - 1).toNat=i - 1 by omega]; exact List.getElem?_eq_getElem h4
     refine Ar.exact (by(try simp only[nc] at *); omega) (by(try simp only[nc] at *); omega) ?_;cbv
     repeat (refine Pz.mk ?_; cbv)
     refine⟨h.ae[i - 1],oj,gj, ?_⟩;cbv
     repeat (refine Pz.mk ?_; cbv)
     repeat (refine Pz.mk ?_; cbv)
     refine Br.dec (fun k3=> ?_) (fun k3=> ?_) <;> (cbv; repeat (refine Pz.mk ?_; cbv))
     · refine⟨?_,trivial⟩;have k3:h.ae[i].id≤h.ae[i - 1].id:=k3;exact(no (fun hg=>by have:=(hg.at_ h2).2.2.1 k2; omega)).symm
     have k3:¬h.ae[i].id≤h.ae[i - 1].id:=k3;have k3:0<i→(h.ae[i - 1]'(by omega)).id<h.ae[i].id:=fun _=>by omega
     refine aW.by (X:=Nat) (fun j=>[(1,pN 0),(3,nT fun _=>i),(4,pN 1),(5,nT fun _=>j)]) (fun _=>[(0, .box (kC h)),(1, .box ((bH .aB fun _=>h.ae[i]).map .lf))]) (fun j=>j≤i∧∀(m:Nat) x,m<j→h.ae[m]? = some x→fw x h.ae[i]=true) (fun j _=>i - j) 0 ⟨Nat.zero_le _,fun m x hm=>by omega⟩ ?_ ?_
     · cbv
       repeat (refine Pz.mk ?_; cbv)
       repeat' first | exact trivial | refine⟨rfl, ?_⟩ | fail
     · intro j ⟨hj,hf⟩;cbv
       repeat (refine Pz.mk ?_; cbv)
       refine Br.dec (fun h5=> ?_) (fun h5=> ?_) <;> (cbv; repeat (refine Pz.mk ?_; cbv))
       rotate_left
       · have h5:i≤j:=by simp at h5; omega
         refine Ar.exact (by(try simp only[nc] at *); omega) (by(try simp only[nc] at *); omega) ?_;cbv
         repeat (refine Pz.mk ?_; cbv)
         refine aO.by (i+1) ?_ ?_ ?_
         · show h.ae.length - (i+1)<h.ae.length - i;omega
         · exact⟨h2,hn.snoc h2 k0 (by omega) k3 fun m x hm=>hf m x (by omega)⟩
         · cbv
           repeat (refine Pz.mk ?_; cbv)
           repeat' first | exact trivial | refine⟨rfl, ?_⟩ | fail
       have h5:j<i:=by simpa using h5
       have h6:j<h.ae.length:=by omega
       have bad:fw h.ae[j] h.ae[i]=false→b=false:=fun hx=>no fun hg=>by
         have:=(hg.at_ h2).2.2.2 j _ h5 (List.getElem?_eq_getElem h6);rw[hx] at this; cases this
       refine⟨h.ae[j],by simp,get_cast h.ae h6, ?_⟩;cbv
       repeat (refine Pz.mk ?_; cbv)
       repeat' first
         | (refine Br.split (fun h=> ?_) (fun h=> ?_) <;> cbv)
         | fail
       all_goals first
         | (refine⟨?_,trivial⟩
            exact(bad (by simp_all [fw])).symm)
         | (refine Ar.exact (by(try simp only[nc] at *); omega) (by(try simp only[nc] at *); omega) ?_
            cbv
            repeat (refine Pz.mk ?_; cbv)
            refine aO.by (j+1) ?_ ?_ ?_
            · show i - (j+1)<i - j;omega
            · exact⟨h5,gy h6 hf (by simp_all [fw])⟩
            · cbv
              repeat (refine Pz.mk ?_; cbv)
              repeat' first | exact trivial | refine⟨rfl, ?_⟩ | fail)
   · have k2 : ¬0<i:=by simpa using k2
     have k3:0<i→(h.ae[i - 1]'(by omega)).id<h.ae[i].id:=fun h0=>absurd h0 k2;refine aW.by (X:=Nat) (fun j=>[(1,pN 0),(3,nT fun _=>i),(4,pN 1),(5,nT fun _=>j)]) (fun _=>[(0, .box (kC h)),(1, .box ((bH .aB fun _=>h.ae[i]).map .lf))]) (fun j=>j≤i∧∀(m:Nat) x,m<j→h.ae[m]? = some x→fw x h.ae[i]=true) (fun j _=>i - j) 0 ⟨Nat.zero_le _,fun m x hm=>by omega⟩ ?_ ?_
     · cbv
       repeat (refine Pz.mk ?_; cbv)
       repeat' first | exact trivial | refine⟨rfl, ?_⟩ | fail
     · intro j ⟨hj,hf⟩;cbv
       repeat (refine Pz.mk ?_; cbv)
       refine Br.dec (fun h5=> ?_) (fun h5=> ?_) <;> (cbv; repeat (refine Pz.mk ?_; cbv))
       rotate_left
       · have h5:i≤j:=by simp at h5; omega
         refine Ar.exact (by(try simp only[nc] at *); omega) (by(try simp only[nc] at *); omega) ?_;cbv
         repeat (refine Pz.mk ?_; cbv)
         refine aO.by (i+1) ?_ ?_ ?_
         · show h.ae.length - (i+1)<h.ae.length - i;omega
         · exact⟨h2,hn.snoc h2 k0 (by omega) k3 fun m x hm=>hf m x (by omega)⟩
         · cbv
           repeat (refine Pz.mk ?_; cbv)
           repeat' first | exact trivial | refine⟨rfl, ?_⟩ | fail
       have h5:j<i:=by simpa using h5
       have h6:j<h.ae.length:=by omega
       have bad:fw h.ae[j] h.ae[i]=false→b=false:=fun hx=>no fun hg=>by
         have:=(hg.at_ h2).2.2.2 j _ h5 (List.getElem?_eq_getElem h6);rw[hx] at this; cases this
       refine⟨h.ae[j],by simp,get_cast h.ae h6, ?_⟩;cbv
       repeat (refine Pz.mk ?_; cbv)
       repeat' first
         | (refine Br.split (fun h=> ?_) (fun h=> ?_) <;> cbv)
         | fail
       all_goals first
         | (refine⟨?_,trivial⟩
            exact(bad (by simp_all [fw])).symm)
         | (refine Ar.exact (by(try simp only[nc] at *); omega) (by(try simp only[nc] at *); omega) ?_
            cbv
            repeat (refine Pz.mk ?_; cbv)
            refine aO.by (j+1) ?_ ?_ ?_
            · show i - (j+1)<i - j;omega
            · exact⟨h5,gy h6 hf (by simp_all [fw])⟩
            · cbv
              repeat (refine Pz.mk ?_; cbv)
              repeat' first | exact trivial | refine⟨rfl, ?_⟩ | fail)
structure qa (n:Int) (GM Ny:List Int):Prop where
 todo:∀x∈GM,aj x 0 (n - 1)=true
 once:GM.Pairwise fun a b=>a≠b
 aA:∀x∈Ny,aj x (-1) (n - 1)=true
instance (n:Int) (todo aA:List Int):Decidable (qa n todo aA):=
 decidable_of_iff ((∀x∈todo,aj x 0 (n - 1)=true)∧(todo.Pairwise fun a b=>a≠b)∧∀x∈aA,aj x (-1) (n - 1)=true) ⟨fun⟨a,b,c⟩=>⟨a,b,c⟩,fun⟨a,b,c⟩=>⟨a,b,c⟩⟩
def nf (h:al):Bool:=decide (qa h.cabins.length h.todo h.aA) && ((h.aA.length:Int) == h.rules.bO)
structure vn (n:Int) (l:List Int):Prop where
 ok:∀x∈l,aj x 0 (n - 1)=true
 ne:l.Pairwise fun a b=>a≠b
theorem vn.snoc {n:Int} {l:List Int} {i:Nat} (hi:i<l.length) (h:vn n (l.take i)) (ok:aj l[i] 0 (n - 1)=true) (ne:hasB (l.take i) l[i]=false):vn n (l.take (i+1)):=by
 have e:l.take (i+1)=l.take i ++ [l[i]]:=by rw[List.take_add_one,List.getElem?_eq_getElem hi]; rfl
 constructor
 · intro x hx;rw[e,List.mem_append] at hx;rcases hx with hx | hx
   · exact h.ok x hx
   · cases List.mem_singleton.1 hx; exact ok
 · rw[e,List.pairwise_append];refine⟨h.ne,List.pairwise_singleton _ _,fun a ha b hb=> ?_⟩;cases List.mem_singleton.1 hb;have:=List.any_eq_false.1 ne a ha;simpa using this
theorem GN {l:List Int} {i:Nat} (hi:i<l.length) (h:l.Pairwise fun a b=>a≠b):hasB (l.take i) l[i]=false:=by
 refine Bv fun j y hy=> ?_;rw[List.getElem?_take] at hy
 split at hy
 · have:=(List.pairwise_iff_getElem.1 h) j i (by omega) hi (by assumption);rw[List.getElem?_eq_getElem (by omega)] at hy;cases hy;simpa using this
 · cases hy
set_option maxHeartbeats 1000000 in
theorem Nz (h:al) (hc:h.cabins.length≤aS) (b:Bool) (hb:b=nf h):Spec Tryz.prog 51 [dV h] (aM (bR fun _=>b)):=by
 refine aN aD Tryz.func51 rfl rfl (fr:=true) (fun _=>by kernel_rfl) fun P hP hA=> ?_;have hR:h.cabins.length≤1048576:=hc;obtain⟨⟨_,_,_,_,_,_,_,_,_,_,_,_,_,⟨ht,_⟩,⟨hj,_⟩,_⟩,_⟩:=hA;have ht:h.todo.length≤9223372036854775807:=ht;have hj:h.aA.length≤9223372036854775807:=hj;have no:¬qa h.cabins.length h.todo h.aA→b=false:=fun hn=>hb.trans (by rw[nf,decide_eq_false hn,Bool.false_and]);have lo: -9223372036854775808≤(h.cabins.length:Int) - 1:=by omega
 have hi:(h.cabins.length:Int) - 1≤9223372036854775807:=by omega
 cbv;refine aW.by (X:=Nat) (fun i=>[(1,pN 0),(3,nT fun _=>i)]) (fun _=>[(0, .box (kC h))]) (fun i=>i≤h.todo.length∧vn h.cabins.length (h.todo.take i)) (fun i _=>h.todo.length - i) 0 ⟨Nat.zero_le _,by rw[List.take_zero]; exact⟨fun x hx=>(by cases hx),List.Pairwise.nil⟩⟩ ?_ ?_
 · cbv
   repeat' first | exact trivial | refine⟨rfl, ?_⟩ | fail
 · intro i ⟨NA,hn⟩;cbv;refine Br.dec (fun h2=> ?_) (fun h2=> ?_) <;> cbv
   · have h2:i<h.todo.length:=by simpa using h2
     refine⟨h.todo[i],by simp,get_cast h.todo h2, ?_⟩;cbv;refine Ar.exact lo hi ?_;cbv;refine ag.by hP (cT h.todo[i] 0 ((h.cabins.length:Int) - 1)) ?_;cbv;refine Br.split (fun k0=> ?_) (fun k0=> ?_) <;> cbv
     · refine⟨?_,trivial⟩;have k0:(!aj h.todo[i] 0 ((h.cabins.length:Int) - 1))=true:=k0;exact(no (fun hg=>by have:=hg.todo _ (List.getElem_mem h2); rw[this] at k0; cases k0)).symm
     have k0:(!aj h.todo[i] 0 ((h.cabins.length:Int) - 1))=false:=k0;have k0:aj h.todo[i] 0 ((h.cabins.length:Int) - 1)=true:=by simpa using k0
     have tk:(h.todo.take ((i:Int)).toNat).drop ((0:Int)).toNat=h.todo.take i:=by simp
     have os:0≤(0:Int)∧(0:Int)≤(i:Int)∧(i:Int)≤(h.todo.length:Int):=⟨by omega,by omega,by omega⟩
     repeat' first
       | (refine Ob.mk os ?_; cbv)
       | (refine Ix.mk h.todo[i] (by simp) (get_cast h.todo h2) ?_; cbv)
       | refine And.intro ?_ ?_
       | fail
     all_goals
       refine ag.by hP (GL ((h.todo.take ((i:Int)).toNat).drop ((0:Int)).toNat) h.todo[i] (hasB (h.todo.take i) h.todo[i]) (by rw[tk])) ?_;cbv;refine Br.split (fun k1=> ?_) (fun k1=> ?_) <;> cbv
       · refine⟨?_,trivial⟩;exact(no (fun hg=>by have:=GN h2 hg.once; rw[this] at k1; cases k1)).symm
       refine Ar.exact (by(try simp only[nc] at *); omega) (by(try simp only[nc] at *); omega) ?_;cbv;refine aO.by (i+1) ?_ ?_ ?_
       · show h.todo.length - (i+1)<h.todo.length - i;omega
       · exact⟨h2,hn.snoc h2 k0 k1⟩
       · cbv
         repeat' first | exact trivial | refine⟨rfl, ?_⟩ | fail
   · have h2 :h.todo.length≤i:=by simp at h2; omega
     rw[List.take_of_length_le h2] at hn;refine aW.by (X:=Nat) (fun j=>[(1,pN 0),(4,nT fun _=>j)]) (fun _=>[(0, .box (kC h))]) (fun j=>j≤h.aA.length∧∀(m:Nat) x,m<j→h.aA[m]? = some x→aj x (-1) ((h.cabins.length:Int) - 1)=true) (fun j _=>h.aA.length - j) 0 ⟨Nat.zero_le _,fun m x hm=>by omega⟩ ?_ ?_
     · cbv
       repeat' first | exact trivial | refine⟨rfl, ?_⟩ | fail
     · intro j ⟨gF,hq⟩;cbv;refine Br.dec (fun h3=> ?_) (fun h3=> ?_) <;> cbv
       · have h3:j<h.aA.length:=by simpa using h3
         refine⟨h.aA[j],by simp,get_cast h.aA h3, ?_⟩;cbv;refine Ar.exact lo hi ?_;cbv;refine ag.by hP (cT h.aA[j] (-1) ((h.cabins.length:Int) - 1)) ?_;cbv;refine Br.split (fun k0=> ?_) (fun k0=> ?_) <;> cbv
         · refine⟨?_,trivial⟩;have k0:(!aj h.aA[j] (-1) ((h.cabins.length:Int) - 1))=true:=k0;exact(no (fun hg=>by have:=hg.aA _ (List.getElem_mem h3); rw[this] at k0; cases k0)).symm
         have k0:(!aj h.aA[j] (-1) ((h.cabins.length:Int) - 1))=false:=k0;have k0:aj h.aA[j] (-1) ((h.cabins.length:Int) - 1)=true:=by simpa using k0
         refine Ar.exact (by(try simp only[nc] at *); omega) (by(try simp only[nc] at *); omega) ?_;cbv;refine aO.by (j+1) ?_ ?_ ?_
         · show h.aA.length - (j+1)<h.aA.length - j;omega
         · exact⟨h3,gy h3 hq k0⟩
         · cbv
           repeat' first | exact trivial | refine⟨rfl, ?_⟩ | fail
       · have h3:h.aA.length≤j:=by simp at h3; omega
         have hg:qa h.cabins.length h.todo h.aA:=⟨hn.ok,hn.ne,fun x hx=>by
           obtain⟨m,hm⟩:=List.mem_iff_getElem?.1 hx;exact ma h3 hq m x hm⟩
         refine⟨?_,trivial⟩;show((h.aA.length:Int) == h.rules.bO)=b;rw[hb,nf,decide_eq_true hg,Bool.true_and]
def vo {α:Type} (f:Nat→α→Bool):Nat→List α→Bool
 | _,[]=>true
 | k,a::l=>f k a && vo f (k+1) l
theorem Bx {α:Type} {f:Nat→α→Bool}:∀{l:List α} {k:Nat},vo f k l=true↔∀(j:Nat) a,l[j]? = some a→f (k+j) a=true
 | [],k=>by simp[vo]
 | b ::l,k=>by
   have ih:=Bx (f:=f) (l:=l) (k:=k+1);simp only[vo,Bool.and_eq_true,ih]
   constructor
   · intro⟨h1,h2⟩ j a hj;cases j with
     | zero=>simp at hj; subst hj; exact h1
     | succ j=>have:=h2 j a (by simpa using hj); rwa [show k+1+j=k+(j+1) by omega] at this
   · intro h;refine⟨h 0 b rfl,fun j a hj=> ?_⟩;have:=h (j+1) a (by simpa using hj)
     rwa [show k+(j+1)=k+1+j by omega] at this
def g_ (h:al) (k:Nat) (c:bh):Bool:=
 (c.ai.total == h.rules.ai.getD k 0) && (decide (((aV (bL (k:Int)) h.ae:Nat):Int)≤h.rules.room) && fh h.rules c h.ae (k:Int) h.now)
def By (h:al):Bool:=vo (g_ h) 0 h.cabins
def dH (h:al):Bool:=
 ca h.rules && (aj h.now 0 1000000 && (aj h.az 1 1000001 && (decide (h.ae.length≤40) && (decide (h.cabins.length=h.rules.ai.length) && (p_ h && (nf h && By h))))))
structure HG (h:al):Prop where
 rules:ca h.rules=true
 now:aj h.now 0 1000000=true
 az:aj h.az 1 1000001=true
 dy:h.ae.length≤40
 iX:h.cabins.length=h.rules.ai.length
 ae:c_ h.rules h.now h.az h.ae
 aA:qa h.cabins.length h.todo h.aA
 bO:((h.aA.length:Nat):Int)=h.rules.bO
 ah:∀(k:Nat) c,h.cabins[k]? = some c→g_ h k c=true
theorem iD {h:al}:dH h=true↔HG h:=by
 simp only[dH,p_,nf,By,Bool.and_eq_true,decide_eq_true_eq,beq_iff_eq,Bx,Nat.zero_add]
 constructor
 · intro⟨a,b,c,d,e,f,⟨g,i⟩,j⟩; exact⟨a,b,c,d,e,f,g,i,j⟩
 · intro⟨a,b,c,d,e,f,g,i,j⟩; exact⟨a,b,c,d,e,f,⟨g,i⟩,j⟩
theorem GO {h:al} (hn:¬HG h):dH h=false:=by
 cases hb:dH h with
 | false=>rfl
 | true=>exact absurd (iD.1 hb) hn
theorem Bz (q:ax→Bool) (k:Int):∀l:List ax,(l.filter fun p=>q p && p.ah == k).length≤aV (bL k) l
 | []=>Nat.zero_le _
 | p ::l=>by
   have ih:=Bz q k l;have e:aV (bL k) (p::l)=bL k p+aV (bL k) l:=rfl;rw[e,List.filter_cons]
   split
   · rename_i h;have h2:(p.ah == k)=true:=by simp only[Bool.and_eq_true] at h; exact h.2
     have e2:bL k p=1:=by rw[bL,if_pos h2]
     rw[List.length_cons,e2]; omega
   · omega
theorem BA {R:br} {k now:Int} {l:List ax} {n:Nat} (h:aV (bL k) l≤n):(eF R k now l).length≤n:=by
 rw[eF,List.length_map]; exact Nat.le_trans (Bz _ k l) h
theorem NB {k:Int} {l:List ax} {n:Nat} (h:aV (bL k) l≤n):(eX k l).length≤n:=by
 rw[eX,List.length_map]; exact Nat.le_trans (Bz _ k l) h
theorem eY.ah {a:List bh} (h:ri a) {k:Nat} (hk:k<a.length):eY a[k].spoke:=by
 obtain⟨h1,h2,h3⟩:=h.2 _ (List.getElem_mem hk);exact eY.of h2 h3
set_option maxHeartbeats 1000000 in
theorem NC (h:al) (hs:bJ h) (b:Bool) (hb:b=dH h):Spec Tryz.prog 15 [dV h] (aM (bR fun _=>b)):=by
 refine aN aD Tryz.func15 rfl rfl (fr:=true) (fun _=>by kernel_rfl) fun P hP hA=> ?_;obtain⟨s1,s2,s3,s4,s5⟩:=hs;have no:¬HG h→b=false:=fun hn=>hb.trans (GO hn);cbv
 repeat (refine Pz.mk ?_; cbv)
 refine ag.by hP (xC h.rules s1 (ca h.rules) rfl) ?_;cbv
 repeat (refine Pz.mk ?_; cbv)
 refine Br.split (fun k0=> ?_) (fun k0=> ?_) <;> (cbv; repeat (refine Pz.mk ?_; cbv))
 · refine⟨?_,trivial⟩;have k0:(!ca h.rules)=true:=k0;exact(no (fun hg=>by rw[hg.rules] at k0; cases k0)).symm
 have k0:(!ca h.rules)=false:=k0;have k0:ca h.rules=true:=by simpa using k0
 have hr:=fv k0;have hlen:=hr.len;refine ag.by hP (cT h.now 0 1000000) ?_;cbv
 repeat (refine Pz.mk ?_; cbv)
 refine Br.split (fun k1=> ?_) (fun k1=> ?_) <;> (cbv; repeat (refine Pz.mk ?_; cbv))
 · refine⟨?_,trivial⟩;have k1:(!aj h.now 0 1000000)=true:=k1;exact(no (fun hg=>by rw[hg.now] at k1; cases k1)).symm
 have k1:(!aj h.now 0 1000000)=false:=k1;have k1:aj h.now 0 1000000=true:=by simpa using k1
 refine ag.by hP (cT h.az 1 1000001) ?_;cbv
 repeat (refine Pz.mk ?_; cbv)
 refine Br.split (fun k2=> ?_) (fun k2=> ?_) <;> (cbv; repeat (refine Pz.mk ?_; cbv))
 · refine⟨?_,trivial⟩;have k2:(!aj h.az 1 1000001)=true:=k2;exact(no (fun hg=>by rw[hg.az] at k2; cases k2)).symm
 have k2:(!aj h.az 1 1000001)=false:=k2;have k2:aj h.az 1 1000001=true:=by simpa using k2
 refine Br.dec (fun k3=> ?_) (fun k3=> ?_) <;> (cbv; repeat (refine Pz.mk ?_; cbv))
 · refine⟨?_,trivial⟩;have k3:(40:Int)<(h.ae.length:Int):=k3;exact(no (fun hg=>by have:=hg.dy; omega)).symm
 have k3:¬(40:Int)<(h.ae.length:Int):=k3;have k3:h.ae.length≤40:=by omega
 refine Br.split (fun k4=> ?_) (fun k4=> ?_) <;> (cbv; repeat (refine Pz.mk ?_; cbv))
 · refine⟨?_,trivial⟩;have k4:((h.cabins.length:Int) != (h.rules.ai.length:Int))=true:=k4;exact(no (fun hg=>by rw[hg.iX] at k4; simp at k4)).symm
 have k4:((h.cabins.length:Int) != (h.rules.ai.length:Int))=false:=k4;have k4:h.cabins.length=h.rules.ai.length:=by simp at k4; omega
 refine ag.by hP (Nx h s1 (p_ h) rfl) ?_;cbv
 repeat (refine Pz.mk ?_; cbv)
 refine Br.split (fun k5=> ?_) (fun k5=> ?_) <;> (cbv; repeat (refine Pz.mk ?_; cbv))
 · refine⟨?_,trivial⟩;have k5:(!p_ h)=true:=k5;exact(no (fun hg=>by rw[p_,decide_eq_true hg.ae] at k5; cases k5)).symm
 have k5:(!p_ h)=false:=k5;have k5:p_ h=true:=by simpa using k5
 refine ag.by hP (Nz h s3.1 (nf h) rfl) ?_;cbv
 repeat (refine Pz.mk ?_; cbv)
 refine Br.split (fun k6=> ?_) (fun k6=> ?_) <;> (cbv; repeat (refine Pz.mk ?_; cbv))
 · refine⟨?_,trivial⟩;have k6:(!nf h)=true:=k6;exact(no (fun hg=>by rw[nf,decide_eq_true hg.aA,hg.bO] at k6; simp at k6)).symm
 have k6:(!nf h)=false:=k6;have k6:nf h=true:=by simpa using k6
 refine aW.by (X:=Nat) (fun i=>[(1,pN 0),(3,nT fun _=>i)]) (fun _=>[(0, .box (kC h))]) (fun i=>i≤h.cabins.length∧∀(k:Nat) c,k<i→h.cabins[k]? = some c→g_ h k c=true) (fun i _=>h.cabins.length - i) 0 ⟨Nat.zero_le _,fun k c hk=>by omega⟩ ?_ ?_
 · cbv
   repeat' first | exact trivial | refine⟨rfl, ?_⟩ | fail
 · intro i ⟨hi,hn⟩;cbv
   repeat (refine Pz.mk ?_; cbv)
   refine Br.dec (fun h2=> ?_) (fun h2=> ?_) <;> (cbv; repeat (refine Pz.mk ?_; cbv))
   rotate_left
   · have h2:h.cabins.length≤i:=by simp at h2; omega
     refine⟨?_,trivial⟩;have hc:By h=true:=Bx.2 fun k c hc=>by rw[Nat.zero_add]; exact hn k c (Nat.lt_of_lt_of_le (bD hc) h2) hc
     show true=b;rw[hb,dH,k0,k1,k2,decide_eq_true k3,decide_eq_true k4,k5,k6,hc]; rfl
   have h2:i<h.cabins.length:=by simpa using h2
   have ig:i<h.rules.ai.length:=by omega
   have vp:h.rules.ai.getD i 0=h.rules.ai[i]:=by rw[List.getD_eq_getElem?_getD,List.getElem?_eq_getElem ig]; rfl
   have bad:g_ h i h.cabins[i]=false→b=false:=fun hx=>no fun hg=>by
     have:=hg.ah i _ (List.getElem?_eq_getElem h2);rw[hx] at this; cases this
   repeat' first
     | (refine Ix.mk h.cabins[i] (by simp) (get_cast h.cabins h2) ?_; cbv)
     | (refine Ix.mk h.rules.ai[i] (by simp) (get_cast h.rules.ai ig) ?_; cbv)
     | fail
   refine Br.split (fun q0=> ?_) (fun q0=> ?_) <;> (cbv; repeat (refine Pz.mk ?_; cbv))
   · refine⟨?_,trivial⟩;have q0:(h.cabins[i].ai.total != h.rules.ai[i])=true:=q0
     exact(bad (by
       have e:(h.cabins[i].ai.total == h.rules.ai.getD i 0)=false:=by rw[vp]; simpa using q0
       rw[g_,e]; rfl)).symm
   have q0:(h.cabins[i].ai.total != h.rules.ai[i])=false:=q0;have q0:(h.cabins[i].ai.total == h.rules.ai.getD i 0)=true:=by rw[vp]; simpa using q0
   refine⟨h.cabins[i],by simp,get_cast h.cabins h2, ?_⟩;cbv
   repeat (refine Pz.mk ?_; cbv)
   refine ag.by hP (Ns h.rules h.cabins[i] h.ae (i:Int) h.now s1 s2 (eY.ah s3 h2) (fh h.rules h.cabins[i] h.ae (i:Int) h.now) rfl) ?_;cbv
   repeat (refine Pz.mk ?_; cbv)
   refine Br.split (fun q1=> ?_) (fun q1=> ?_) <;> (cbv; repeat (refine Pz.mk ?_; cbv))
   · refine⟨?_,trivial⟩;have q1:(!fh h.rules h.cabins[i] h.ae (i:Int) h.now)=true:=q1;have q1:fh h.rules h.cabins[i] h.ae (i:Int) h.now=false:=by simpa using q1
     exact(bad (by rw[g_,q1]; simp)).symm
   have q1:(!fh h.rules h.cabins[i] h.ae (i:Int) h.now)=false:=q1;have q1:fh h.rules h.cabins[i] h.ae (i:Int) h.now=true:=by simpa using q1
   refine ag.by hP (A5 h.ae (i:Int) s2) ?_;cbv
   repeat (refine Pz.mk ?_; cbv)
   refine Br.dec (fun q2=> ?_) (fun q2=> ?_) <;> (cbv; repeat (refine Pz.mk ?_; cbv))
   · refine⟨?_,trivial⟩;have q2:h.rules.room<((aV (bL (i:Int)) h.ae:Nat):Int):=q2;exact(bad (by rw[g_,decide_eq_false (by omega:¬((aV (bL (i:Int)) h.ae:Nat):Int)≤h.rules.room)]; simp)).symm
   have q2:¬h.rules.room<((aV (bL (i:Int)) h.ae:Nat):Int):=q2;have q3:((aV (bL (i:Int)) h.ae:Nat):Int)≤h.rules.room:=by omega
   refine Ar.exact (by(try simp only[nc] at *); omega) (by(try simp only[nc] at *); omega) ?_;cbv
   repeat (refine Pz.mk ?_; cbv)
   refine aO.by (i+1) ?_ ?_ ?_
   · show h.cabins.length - (i+1)<h.cabins.length - i;omega
   · refine⟨h2,fun k c hk hc=> ?_⟩;rcases Nat.lt_or_ge k i with h3 | h3
     · exact hn k c h3 hc
     · obtain rfl:k=i:=by omega
       rw[List.getElem?_eq_getElem h2] at hc;cases hc;rw[g_,q0,q1,decide_eq_true q3]; rfl
   · cbv
     repeat' first | exact trivial | refine⟨rfl, ?_⟩ | fail
end Go.Proofs.YtpklefhdkkegiaaGreat

