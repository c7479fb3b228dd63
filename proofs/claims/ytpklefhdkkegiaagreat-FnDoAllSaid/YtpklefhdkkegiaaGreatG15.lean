/- Parts of a proof. No conditions. -/

import Derived.Test.YtpklefhdkkegiaaGreatG14
set_option linter.unusedSimpArgs false
set_option linter.unusedVariables false
namespace Go.Proofs.YtpklefhdkkegiaaGreat
open Go
set_option maxRecDepth 100000
theorem EN (h:ai) (k:Int) (hs:a_ h) (b:Bool) (hb:b=cu h k):Spec Tryz.prog 68 [cG h,iA k] (aG (bR fun _=>b)):=by
 refine aF au Tryz.func68 rfl rfl (fr:=true) (fun _=>by kernel_rfl) fun P hP hA=> ?_;have hc:h.cabins.length≤1048576:=hs.2.2.1.1;cbv;refine af.by hP (kF h hs (bU h) rfl) ?_;cbv;refine Br.split (fun k0=> ?_) (fun k0=> ?_) <;> cbv
 rotate_left
 · refine⟨?_,trivial⟩;have k0:bU h=false:=k0;exact(hb.trans (by rw[cu,k0]; rfl)).symm
 have k0:bU h=true:=k0;refine Ar.exact (by(try simp only[nc] at *); omega) (by(try simp only[nc] at *); omega) ?_;cbv;refine af.by hP (dn k 0 ((h.cabins.length:Int) - 1)) ?_;cbv;refine⟨?_,trivial⟩;exact(hb.trans (by rw[cu,k0]; rfl)).symm
theorem Kw (h:ai) (k:Int) (hs:a_ h) (b:Bool) (hb:b=cu h k):Spec Tryz.prog 70 [cG h,iA k] (aG (bR fun _=>b)):=by
 refine aF au Tryz.func70 rfl rfl (fr:=true) (fun _=>by kernel_rfl) fun P hP hA=> ?_;have hc:h.cabins.length≤1048576:=hs.2.2.1.1;cbv;refine af.by hP (qG h hs (bU h) rfl) ?_;cbv;refine Br.split (fun k0=> ?_) (fun k0=> ?_) <;> cbv
 rotate_left
 · refine⟨?_,trivial⟩;have k0:bU h=false:=k0;exact(hb.trans (by rw[cu,k0]; rfl)).symm
 have k0:bU h=true:=k0;refine af.by hP (pq k (h.cabins.length:Int) (by omega) (by omega)) ?_;cbv;refine⟨?_,trivial⟩;exact(hb.trans (by rw[cu,k0]; rfl)).symm
def kG (free:Int) (skip:List Int) (e:Entry):Bool:=decide (e.aj≤free) && !hasB skip e.aZ
def ig (l:List Entry) (free:Int) (skip:List Int):Int:=ie (kG free skip) l
theorem RK (a:List Entry) (free:Int) (skip:List Int) (x:Int) (hx:x=ig a free skip):Spec Tryz.prog 207 [lA .aJ a,iA free,lA .int skip] (aG (iR fun _=>x)):=by
 refine aF au Tryz.func207 rfl rfl (fr:=true) (fun _=>by kernel_rfl) fun P hP hA=> ?_;obtain⟨⟨ha,_⟩,_⟩:=hA;have ha:a.length≤9223372036854775807:=ha;cbv;refine aR.by (X:=Nat) (fun i=>[(0,lA .aJ a),(1,iA free),(2,lA .int skip),(7,nT fun _=>i)]) (fun _=>[]) (fun i=>i≤a.length∧∀(j:Nat) y,j<i→a[j]? = some y→kG free skip y=false) (fun i _=>a.length - i) 0 ⟨Nat.zero_le _,fun j y hj=>by omega⟩ ?_ ?_
 · cbv
   repeat' first | exact trivial | refine⟨rfl, ?_⟩ | fail
 · intro i ⟨hi,hn⟩;cbv;refine Br.dec (fun h2=> ?_) (fun h2=> ?_) <;> cbv
   rotate_left
   · have h2:a.length≤i:=by simp at h2; omega
     refine⟨?_,trivial⟩;exact(hx.trans (ni (mn h2 hn))).symm
   have h2:i<a.length:=by simpa using h2
   refine⟨a[i],by simp,get_cast a h2, ?_⟩;cbv;refine Br.dec (fun h3=> ?_) (fun h3=> ?_) <;> cbv
   rotate_left
   · have h3:¬a[i].aj≤free:=h3;refine Ar.exact (by(try simp only[nc] at *); omega) (by(try simp only[nc] at *); omega) ?_;cbv;refine aL.by (i+1) ?_ ?_ ?_
     · show a.length - (i+1)<a.length - i;omega
     · exact⟨h2,gN h2 hn (by rw[kG,decide_eq_false h3]; rfl)⟩
     · cbv
       repeat' first | exact trivial | refine⟨rfl, ?_⟩ | fail
   have h3:a[i].aj≤free:=h3;refine⟨a[i],by simp,get_cast a h2, ?_⟩;cbv;refine af.by hP (ED skip a[i].aZ (hasB skip a[i].aZ) rfl) ?_;cbv;refine Br.split (fun h4=> ?_) (fun h4=> ?_) <;> cbv
   · refine⟨?_,trivial⟩;have h4:(!hasB skip a[i].aZ)=true:=h4;exact(hx.trans (nh h2 (by rw[kG,decide_eq_true h3,h4]; rfl) hn)).symm
   · have h4:(!hasB skip a[i].aZ)=false:=h4;refine Ar.exact (by(try simp only[nc] at *); omega) (by(try simp only[nc] at *); omega) ?_;cbv;refine aL.by (i+1) ?_ ?_ ?_
     · show a.length - (i+1)<a.length - i;omega
     · exact⟨h2,gN h2 hn (by rw[kG,h4]; simp)⟩
     · cbv
       repeat' first | exact trivial | refine⟨rfl, ?_⟩ | fail
theorem RM (e:Entry) (free:Int) (skip:List Int) (b:Bool) (hb:b=kG free skip e):Spec Tryz.prog 139 [eA .aJ e, .c (.cg [.int .i64 fun _=>free] 0), .c (.cg [.list .int fun _=>skip] 0)] (aG (bR fun _=>b)):=by
 refine aF au Tryz.func139 rfl rfl (fr:=true) (fun _=>by kernel_rfl) fun P hP hA=> ?_;cbv
 repeat' first
  | (refine af.by hP (EE skip e.aZ (hasB skip e.aZ) rfl) ?_; cbv)
  | (refine Br.split (fun h=> ?_) (fun h=> ?_) <;> cbv)
  | fail
 all_goals refine⟨?_,trivial⟩
 all_goals simp_all [kG]
theorem RN (a:List Entry) (free:Int) (skip:List Int) (x:Int) (hx:x=ig a free skip):Spec Tryz.prog 138 [lA .aJ a, .c (.fn 139 [.cg [.int .i64 fun _=>free] 0, .cg [.list .int fun _=>skip] 0])] (aG (iR fun _=>x)):=by
 refine aF au Tryz.func138 rfl rfl (fr:=true) (fun _=>by kernel_rfl) fun P hP hA=> ?_;obtain⟨⟨ha,_⟩,_⟩:=hA;have ha:a.length≤9223372036854775807:=ha;cbv;refine aR.by (X:=Nat) (fun i=>[(0,lA .aJ a),(1, .c (.fn 139 [.cg [.int .i64 fun _=>free] 0, .cg [.list .int fun _=>skip] 0])),(7,nT fun _=>a.length),(8,nT fun _=>i)]) (fun _=>[]) (fun i=>i≤a.length∧∀(j:Nat) y,j<i→a[j]? = some y→kG free skip y=false) (fun i _=>a.length - i) 0 ⟨Nat.zero_le _,fun j y hj=>by omega⟩ ?_ ?_
 · cbv
   repeat' first | exact trivial | refine⟨rfl, ?_⟩ | fail
 · intro i ⟨hi,hn⟩;cbv;refine Br.dec (fun h2=> ?_) (fun h2=> ?_) <;> cbv
   · have h2:i<a.length:=by simpa using h2
     refine⟨a[i],by simp,get_cast a h2, ?_⟩;cbv;refine af.by hP (RM a[i] free skip (kG free skip a[i]) rfl) ?_;cbv;refine Br.split (fun h3=> ?_) (fun h3=> ?_) <;> cbv
     · refine⟨?_,trivial⟩;exact(hx.trans (nh h2 h3 hn)).symm
     · refine Ar.exact (by(try simp only[nc] at *); omega) (by(try simp only[nc] at *); omega) ?_;cbv;refine aL.by (i+1) ?_ ?_ ?_
       · show a.length - (i+1)<a.length - i;omega
       · exact⟨h2,gN h2 hn h3⟩
       · cbv
         repeat' first | exact trivial | refine⟨rfl, ?_⟩ | fail
   · have h2:a.length≤i:=by simp at h2; omega
     refine⟨?_,trivial⟩;exact(hx.trans (ni (mn h2 hn))).symm
theorem RO (a:List Entry) (free:Int) (skip:List Int) (x:Int) (hx:x=ig a free skip):Spec Tryz.prog 73 [lA .aJ a,iA free,lA .int skip] (aG (iR fun _=>x)):=by
 refine aF au Tryz.func73 rfl rfl (fr:=true) (fun _=>by kernel_rfl) fun P hP hA=> ?_;cbv;refine af.by hP (RN a free skip x hx) ?_;cbv
 repeat' first | exact trivial | refine⟨rfl, ?_⟩ | fail
def lj (q:ax→Bool) (l:List ax):List Int:=(l.filter q).map fun p=>p.id
theorem Kx (q:ax→Bool) (l:List ax):(lj q l).length≤l.length:=by rw[lj,List.length_map]; exact List.length_filter_le _ _
def gf (h:ai):List Int:=lj (fun p=>fS p h.now) h.ae
def mo (h:ai) (c:ba):Int:=if ig c.row c.seats.free (gf h)<0 then 0 else((c.row[(ig c.row c.seats.free (gf h)).toNat]?).getD default).aZ
def cH (h:ai) (k:Int):Int:=if cu h k=true then mo h (aB h k) else 0
def EO (h:ai):List Int:=if bU h=true then lj (fun p=>kD p h.now) h.ae else[]
set_option maxHeartbeats 1000000 in
theorem Ky (h:ai) (n:Nat) (hn:n<h.cabins.length) (gU:bU h=true) (x:Int) (hx:x=mo h h.cabins[n]):Spec Tryz.prog 144 [cG h,nT fun _=>n] (aG (iR fun _=>x)):=by
 refine aF au Tryz.func144 rfl rfl (fr:=true) (fun _=>by kernel_rfl) fun P hP hA=> ?_;cbv;have hl:h.ae.length≤40:=(dy.1 gU).dj;refine aR.by (X:=Nat) (fun i=>[(1,nT fun _=>n),(2,pN 0),(5,oN 1),(6,nT fun _=>i)]) (fun i=>[(0, .box (iD h)),(1,aH .int fun _=>lj (fun p=>fS p h.now) (h.ae.take i))]) (fun i=>i≤h.ae.length) (fun i _=>h.ae.length - i) 0 (Nat.zero_le _) ?_ ?_
 · cbv
   repeat' first | exact trivial | refine⟨rfl, ?_⟩ | fail
 · intro i hi;cbv;refine Br.dec (fun h2=> ?_) (fun h2=> ?_) <;> cbv
   rotate_left
   · have h2:h.ae.length≤i:=by simp at h2; omega
     have e:lj (fun p=>fS p h.now) (h.ae.take i)=lj (fun p=>fS p h.now) h.ae:=by rw[List.take_of_length_le h2]
     refine⟨h.cabins[n],by simp,get_cast h.cabins hn, ?_⟩;cbv;refine⟨h.cabins[n],by simp,get_cast h.cabins hn, ?_⟩;cbv;refine af.by hP (RK h.cabins[n].row h.cabins[n].seats.free (lj (fun p=>fS p h.now) (h.ae.take i)) (ig h.cabins[n].row h.cabins[n].seats.free (gf h)) (by rw[e]; rfl)) ?_;cbv;refine Br.dec (fun k7=> ?_) (fun k7=> ?_) <;> cbv
     · refine⟨?_,trivial⟩;have k7:ig h.cabins[n].row h.cabins[n].seats.free (gf h)<0:=k7;exact(hx.trans (if_pos k7)).symm
     have k7:¬ig h.cabins[n].row h.cabins[n].seats.free (gf h)<0:=k7;rcases iC (kG h.cabins[n].seats.free (gf h)) h.cabins[n].row with⟨q,_⟩ | ⟨m,hm,q,_,_⟩
     · have q:ig h.cabins[n].row h.cabins[n].seats.free (gf h) = -1:=q;omega
     have q:ig h.cabins[n].row h.cabins[n].seats.free (gf h)=(m:Int):=q;have o0:0≤ig h.cabins[n].row h.cabins[n].seats.free (gf h):=by omega
     have g0:h.cabins[n].row[(ig h.cabins[n].row h.cabins[n].seats.free (gf h)).toNat]? = some h.cabins[n].row[m]:=by rw[q,Int.toNat_natCast]; exact List.getElem?_eq_getElem hm
     refine⟨h.cabins[n],by simp,get_cast h.cabins hn, ?_⟩;cbv;refine⟨h.cabins[n].row[m],o0,g0, ?_⟩;cbv;refine⟨?_,trivial⟩;exact(hx.trans ((if_neg k7).trans (by rw[g0]; rfl))).symm
   have h2:i<h.ae.length:=by simpa using h2
   have ob:((lj (fun p=>fS p h.now) (h.ae.take i)).length+1)*8≤140737488355328:=by
     have:=Kx (fun p=>fS p h.now) (h.ae.take i);rw[List.length_take] at this;omega
   refine⟨h.ae[i],by simp,get_cast h.ae h2, ?_⟩;cbv;refine af.by hP (D7 h.ae[i] h.now) ?_;cbv;refine Br.split (fun k0=> ?_) (fun k0=> ?_) <;> cbv
   · refine⟨h.ae[i],by simp,get_cast h.ae h2, ?_⟩;cbv;refine⟨ob, ?_⟩;cbv;refine Ar.exact (by(try simp only[nc] at *); omega) (by(try simp only[nc] at *); omega) ?_;cbv;refine aL.by (i+1) ?_ ?_ ?_
     · show h.ae.length - (i+1)<h.ae.length - i;omega
     · exact h2
     · cbv
       repeat' first | exact trivial | refine⟨rfl, ?_⟩ | fail
       refine⟨xV (fun p=>fS p h.now) (fun p:ax=>p.id) h2 k0, ?_⟩
       repeat' first | exact trivial | refine⟨rfl, ?_⟩ | fail
   · refine Ar.exact (by(try simp only[nc] at *); omega) (by(try simp only[nc] at *); omega) ?_;cbv;refine aL.by (i+1) ?_ ?_ ?_
     · show h.ae.length - (i+1)<h.ae.length - i;omega
     · exact h2
     · cbv
       repeat' first | exact trivial | refine⟨rfl, ?_⟩ | fail
       refine⟨tW (fun p=>fS p h.now) (fun p:ax=>p.id) h2 k0, ?_⟩
       repeat' first | exact trivial | refine⟨rfl, ?_⟩ | fail
set_option maxHeartbeats 1000000 in
theorem EP (h:ai) (k:Int) (hs:a_ h) (x:Int) (hx:x=cH h k):Spec Tryz.prog 23 [cG h,iA k] (aG (iR fun _=>x)):=by
 refine aF au Tryz.func23 rfl rfl (fr:=true) (fun _=>by kernel_rfl) fun P hP hA=> ?_;cbv;refine af.by hP (Kw h k hs (cu h k) rfl) ?_;cbv;refine Br.split (fun kc=> ?_) (fun kc=> ?_) <;> cbv
 · refine⟨?_,trivial⟩;have kc:(!cu h k)=true:=kc;exact(hx.trans (if_neg (by intro q; rw[q] at kc; cases kc))).symm
 have kc:(!cu h k)=false:=kc;have kc:cu h k=true:=by simpa using kc
 have kk:=Bool.and_eq_true_iff.1 kc;obtain⟨n,hn,rfl,ec⟩:=yb kk.2;have gU:=kk.1;have hx:=hx.trans ((if_pos kc).trans (by rw[ec]));have hl:h.ae.length≤40:=(dy.1 gU).dj;refine aR.by (X:=Nat) (fun i=>[(1,nT fun _=>n),(2,pN 0),(5,oN 1),(15,lA .aE h.ae),(16,nT fun _=>h.ae.length),(17,nT fun _=>i)]) (fun i=>[(0, .box (iD h)),(1,aH .int fun _=>lj (fun p=>fS p h.now) (h.ae.take i))]) (fun i=>i≤h.ae.length) (fun i _=>h.ae.length - i) 0 (Nat.zero_le _) ?_ ?_
 · cbv
   repeat' first | exact trivial | refine⟨rfl, ?_⟩ | fail
 · intro i hi;cbv;refine Br.dec (fun h2=> ?_) (fun h2=> ?_) <;> cbv
   rotate_left
   · have h2:h.ae.length≤i:=by simp at h2; omega
     have e:lj (fun p=>fS p h.now) (h.ae.take i)=lj (fun p=>fS p h.now) h.ae:=by rw[List.take_of_length_le h2]
     refine⟨h.cabins[n],by simp,get_cast h.cabins hn, ?_⟩;cbv;refine af.by hP (RO h.cabins[n].row h.cabins[n].seats.free (lj (fun p=>fS p h.now) (h.ae.take i)) (ig h.cabins[n].row h.cabins[n].seats.free (gf h)) (by rw[e]; rfl)) ?_;cbv;refine Br.dec (fun k7=> ?_) (fun k7=> ?_) <;> cbv
     · refine⟨?_,trivial⟩;have k7:ig h.cabins[n].row h.cabins[n].seats.free (gf h)<0:=k7;exact(hx.trans (if_pos k7)).symm
     have k7:¬ig h.cabins[n].row h.cabins[n].seats.free (gf h)<0:=k7;rcases iC (kG h.cabins[n].seats.free (gf h)) h.cabins[n].row with⟨q,_⟩ | ⟨m,hm,q,_,_⟩
     · have q:ig h.cabins[n].row h.cabins[n].seats.free (gf h) = -1:=q;omega
     have q:ig h.cabins[n].row h.cabins[n].seats.free (gf h)=(m:Int):=q;have o0:0≤ig h.cabins[n].row h.cabins[n].seats.free (gf h):=by omega
     have g0:h.cabins[n].row[(ig h.cabins[n].row h.cabins[n].seats.free (gf h)).toNat]? = some h.cabins[n].row[m]:=by rw[q,Int.toNat_natCast]; exact List.getElem?_eq_getElem hm
     refine⟨h.cabins[n].row[m],o0,g0, ?_⟩;cbv;refine⟨?_,trivial⟩;exact(hx.trans ((if_neg k7).trans (by rw[g0]; rfl))).symm
   have h2:i<h.ae.length:=by simpa using h2
   have ob:((lj (fun p=>fS p h.now) (h.ae.take i)).length+1)*8≤140737488355328:=by
     have:=Kx (fun p=>fS p h.now) (h.ae.take i);rw[List.length_take] at this;omega
   refine⟨h.ae[i],by simp,get_cast h.ae h2, ?_⟩;cbv;refine af.by hP (Qy h.ae[i] h.now) ?_;cbv;refine Br.split (fun k0=> ?_) (fun k0=> ?_) <;> cbv
   · refine⟨ob, ?_⟩;cbv;refine Ar.exact (by(try simp only[nc] at *); omega) (by(try simp only[nc] at *); omega) ?_;cbv;refine aL.by (i+1) ?_ ?_ ?_
     · show h.ae.length - (i+1)<h.ae.length - i;omega
     · exact h2
     · cbv
       repeat' first | exact trivial | refine⟨rfl, ?_⟩ | fail
       refine⟨xV (fun p=>fS p h.now) (fun p:ax=>p.id) h2 k0, ?_⟩
       repeat' first | exact trivial | refine⟨rfl, ?_⟩ | fail
   · refine Ar.exact (by(try simp only[nc] at *); omega) (by(try simp only[nc] at *); omega) ?_;cbv;refine aL.by (i+1) ?_ ?_ ?_
     · show h.ae.length - (i+1)<h.ae.length - i;omega
     · exact h2
     · cbv
       repeat' first | exact trivial | refine⟨rfl, ?_⟩ | fail
       refine⟨tW (fun p=>fS p h.now) (fun p:ax=>p.id) h2 k0, ?_⟩
       repeat' first | exact trivial | refine⟨rfl, ?_⟩ | fail
theorem RP (a b:List ba) (ha:ph a) (hb:ph b) (r:Bool) (hr:r=nj a b):Spec Tryz.prog 63 [lA .ag a,lA .ag b, .c (.fn 64 [])] (aG (bR fun _=>r)):=by
 refine aF au Tryz.func63 rfl rfl (fr:=true) (fun _=>by kernel_rfl) fun P hP hA=> ?_;have hl:a.length≤1048576:=ha.1;cbv;refine Br.split (fun h1=> ?_) (fun h1=> ?_) <;> cbv
 · refine⟨?_,trivial⟩;have:=m7 (a:=a) (b:=b) h1;have e:¬a.length=b.length:=by intro e; rw[e] at h1; simp at h1
   exact(hr.trans (by rw[nj,decide_eq_false e]; rfl)).symm
 have h1:=m6 (a:=a) (b:=b) h1;refine aR.by (X:=Nat) (fun i=>[(0,lA .ag a),(1,lA .ag b),(2, .c (.fn 64 [])),(15,lA .ag a),(16,nT fun _=>a.length),(17,nT fun _=>i)]) (fun _=>[]) (fun i=>i≤a.length∧∀(j:Nat) x,j<i→a[j]? = some x→∀y,b[j]? = some y→lh x y=true) (fun i _=>a.length - i) 0 ⟨Nat.zero_le _,fun j y hj=>by omega⟩ ?_ ?_
 · cbv
   repeat' first | exact trivial | refine⟨rfl, ?_⟩ | fail
 · intro i ⟨hi,hn⟩;cbv;refine Br.dec (fun h2=> ?_) (fun h2=> ?_) <;> cbv
   rotate_left
   · have h2:a.length≤i:=by simp at h2; omega
     refine⟨?_,trivial⟩
     have e:nj a b=true:=by
       rw[nj,decide_eq_true h1,EK h1 fun j x hx y hy=>hn j x (Nat.lt_of_lt_of_le (bC hx) h2) hx y hy]; rfl
     exact(hr.trans e).symm
   have h2:i<a.length:=by simpa using h2
   have dR:i<b.length:=h1▸h2;refine⟨a[i],by simp,get_cast a h2, ?_⟩;cbv;refine⟨b[i],by simp,get_cast b dR, ?_⟩;cbv;refine af.by hP (RI a[i] b[i] (dE.ag ha h2) (dE.ag hb dR) (lh a[i] b[i]) rfl) ?_;cbv;refine Br.split (fun h3=> ?_) (fun h3=> ?_) <;> cbv
   · refine⟨?_,trivial⟩;have h3:lh a[i] b[i]=false:=by simpa using h3
     exact(hr.trans (by rw[nj,Ku h2 dR h3]; simp)).symm
   · have h3:lh a[i] b[i]=true:=by simpa using h3
     refine Ar.exact (by(try simp only[nc] at *); omega) (by(try simp only[nc] at *); omega) ?_;cbv;refine aL.by (i+1) ?_ ?_ ?_
     · show a.length - (i+1)<a.length - i;omega
     · refine⟨h2,fun j x hj hx y hy=> ?_⟩;rcases Nat.lt_or_ge j i with q | q
       · exact hn j x q hx y hy
       · obtain rfl:j=i:=by omega
         rw[List.getElem?_eq_getElem h2] at hx;rw[List.getElem?_eq_getElem dR] at hy;cases hx; cases hy; exact h3
     · cbv
       repeat' first | exact trivial | refine⟨rfl, ?_⟩ | fail
set_option maxHeartbeats 1000000 in
theorem RQ (a b:ai) (ha:a_ a) (hb:a_ b) (r:Bool) (hr:r=iE a b):Spec Tryz.prog 18 [cG a,cG b] (aG (bR fun _=>r)):=by
 refine aF au Tryz.func18 rfl rfl (fr:=true) (fun _=>by kernel_rfl) fun P hP hA=> ?_;cbv
 repeat (refine Pz.mk ?_; cbv)
 repeat' first
  | (refine af.by hP (qG a ha (bU a) rfl) ?_; cbv; repeat (refine Pz.mk ?_; cbv))
  | (refine af.by hP (qG b hb (bU b) rfl) ?_; cbv; repeat (refine Pz.mk ?_; cbv))
  | (refine af.by hP (RE a.rules b.rules (lS a.rules b.rules) rfl) ?_; cbv; repeat (refine Pz.mk ?_; cbv))
  | (refine af.by hP (Q2 a.ae b.ae) ?_; cbv; repeat (refine Pz.mk ?_; cbv))
  | (refine af.by hP (DX a.todo b.todo) ?_; cbv; repeat (refine Pz.mk ?_; cbv))
  | (refine af.by hP (DX a.aq b.aq) ?_; cbv; repeat (refine Pz.mk ?_; cbv))
  | (refine af.by hP (RP a.cabins b.cabins ha.2.2.1 hb.2.2.1 (nj a.cabins b.cabins) rfl) ?_; cbv; repeat (refine Pz.mk ?_; cbv))
  | (refine Br.split (fun h=> ?_) (fun h=> ?_) <;> (cbv; repeat (refine Pz.mk ?_; cbv)))
  | fail
 all_goals refine⟨?_,trivial⟩
 all_goals simp_all [iE]
set_option maxHeartbeats 1000000 in
theorem ER (a b :ai) (ha:a_ a) (hb:a_ b) (r:Bool) (hr:r=iE a b):Spec Tryz.prog 25 [cG a,cG b] (aG (bR fun _=>r)):=by
 refine aF au Tryz.func25 rfl rfl (fr:=true) (fun _=>by kernel_rfl) fun P hP hA=> ?_;have WG:a.ae.length≤1048576:=ha.2.1;have C1:a.cabins.length≤1048576:=ha.2.2.1.1;have no:¬iE a b=true→r=false:=fun q=>by rw[hr]; simpa using q
 cbv
 repeat (refine Pz.mk ?_; cbv)
 refine af.by hP (kF a ha (bU a) rfl) ?_;cbv
 repeat (refine Pz.mk ?_; cbv)
 refine Br.split (fun q0=> ?_) (fun q0=> ?_) <;> (cbv; repeat (refine Pz.mk ?_; cbv))
 · refine⟨?_,trivial⟩;have q0:(!bU a)=true:=q0;exact(no fun q=>by simp only[iE,Bool.and_eq_true] at q; simp_all).symm
 have q0:(!bU a)=false:=q0;have q0:bU a=true:=by simpa using q0
 refine af.by hP (kF b hb (bU b) rfl) ?_;cbv
 repeat (refine Pz.mk ?_; cbv)
 refine Br.split (fun q1=> ?_) (fun q1=> ?_) <;> (cbv; repeat (refine Pz.mk ?_; cbv))
 · refine⟨?_,trivial⟩;have q1:(!bU b)=true:=q1;exact(no fun q=>by simp only[iE,Bool.and_eq_true] at q; simp_all).symm
 have q1:(!bU b)=false:=q1;have q1:bU b=true:=by simpa using q1
 refine af.by hP (RD a.rules b.rules (lS a.rules b.rules) rfl) ?_;cbv
 repeat (refine Pz.mk ?_; cbv)
 refine Br.split (fun q2=> ?_) (fun q2=> ?_) <;> (cbv; repeat (refine Pz.mk ?_; cbv))
 · refine⟨?_,trivial⟩;have q2:(!lS a.rules b.rules)=true:=q2;exact(no fun q=>by simp only[iE,Bool.and_eq_true] at q; simp_all).symm
 have q2:(!lS a.rules b.rules)=false:=q2;have q2:lS a.rules b.rules=true:=by simpa using q2
 refine Br.split (fun q3=> ?_) (fun q3=> ?_) <;> (cbv; repeat (refine Pz.mk ?_; cbv))
 · refine⟨?_,trivial⟩;have q3:(a.now != b.now)=true:=q3;exact(no fun q=>by simp only[iE,Bool.and_eq_true] at q; simp_all).symm
 have q3:(a.now != b.now)=false:=q3;have q3:(a.now == b.now)=true:=by simpa using q3
 refine Br.split (fun q4=> ?_) (fun q4=> ?_) <;> (cbv; repeat (refine Pz.mk ?_; cbv))
 · refine⟨?_,trivial⟩;have q4:(a.aA != b.aA)=true:=q4;exact(no fun q=>by simp only[iE,Bool.and_eq_true] at q; simp_all).symm
 have q4:(a.aA != b.aA)=false:=q4;have q4:(a.aA == b.aA)=true:=by simpa using q4
 refine Br.split (fun q5=> ?_) (fun q5=> ?_) <;> (cbv; repeat (refine Pz.mk ?_; cbv))
 · refine⟨?_,trivial⟩;have q5:=m7 (a:=a.ae) (b:=b.ae) q5;exact(no fun q=>by simp only[iE,Bool.and_eq_true,decide_eq_true_eq] at q; exact q5 q.2.2.2.2.2.1).symm
 have q5:=m6 (a:=a.ae) (b:=b.ae) q5;refine af.by hP (As a.todo b.todo) ?_;cbv
 repeat (refine Pz.mk ?_; cbv)
 refine Br.split (fun q6=> ?_) (fun q6=> ?_) <;> (cbv; repeat (refine Pz.mk ?_; cbv))
 · refine⟨?_,trivial⟩;have q6:(!decide (a.todo=b.todo))=true:=q6;exact(no fun q=>by simp only[iE,Bool.and_eq_true] at q; simp_all).symm
 have q6:(!decide (a.todo=b.todo))=false:=q6;have q6:decide (a.todo=b.todo)=true:=by simpa using q6
 refine af.by hP (As a.aq b.aq) ?_;cbv
 repeat (refine Pz.mk ?_; cbv)
 refine Br.split (fun q7=> ?_) (fun q7=> ?_) <;> (cbv; repeat (refine Pz.mk ?_; cbv))
 · refine⟨?_,trivial⟩;have q7:(!decide (a.aq=b.aq))=true:=q7;exact(no fun q=>by simp only[iE,Bool.and_eq_true] at q; simp_all).symm
 have q7:(!decide (a.aq=b.aq))=false:=q7;have q7:decide (a.aq=b.aq)=true:=by simpa using q7
 refine aR.by (X:=Nat) (fun i=>[(2,pN 0),(3,pN 1),(5,nT fun _=>i)]) (fun _=>[(0, .box (iD a)),(1, .box (iD b))]) (fun i=>i≤a.ae.length∧a.ae.take i=b.ae.take i) (fun i _=>a.ae.length - i) 0 ⟨Nat.zero_le _,by simp⟩ ?_ ?_
 · cbv
   repeat (refine Pz.mk ?_; cbv)
   repeat' first | exact trivial | refine⟨rfl, ?_⟩ | fail
 · intro i ⟨hi, ht⟩;cbv
   repeat (refine Pz.mk ?_; cbv)
   refine Br.dec (fun h2=> ?_) (fun h2=> ?_) <;> (cbv; repeat (refine Pz.mk ?_; cbv))
   · have h2 :i<a.ae.length:=by simpa using h2
     have dR:i<b.ae.length:=q5▸h2
     repeat' first
       | (refine Ix.mk a.ae[i] (by simp) (get_cast a.ae h2) ?_; cbv)
       | (refine Ix.mk b.ae[i] (by simp) (get_cast b.ae dR) ?_; cbv)
       | (refine Pz.mk ?_; cbv)
       | (refine And.intro ?_ ?_)
       | fail
     all_goals
       refine Br.split (fun h3=> ?_) (fun h3=> ?_) <;> (cbv; repeat (refine Pz.mk ?_; cbv))
       · refine⟨?_,trivial⟩;have:=nP h2 dR (fun he=>by rw[he] at h3; simp at h3);exact(no fun q=>by simp only[iE,Bool.and_eq_true,decide_eq_true_eq] at q; exact this q.2.2.2.2.2.1).symm
       · refine Ar.exact (by(try simp only[nc] at *); omega) (by(try simp only[nc] at *); omega) ?_;cbv
         repeat (refine Pz.mk ?_; cbv)
         refine aL.by (i+1) ?_ ?_ ?_
         · show a.ae.length - (i+1)<a.ae.length - i;omega
         · refine⟨h2,nO ht h2 dR ?_⟩;simp only[Bool.not_eq_false',Bool.and_eq_true,beq_iff_eq,Bool.and_true] at h3;exact(by obtain⟨g0,g1,g2,g3,g4,g5,g6,g7,g8,g9⟩:=h3; exact JW g0 g1 g2 g3 g4 g5 g6 g7 g8 g9)
         · cbv
           repeat (refine Pz.mk ?_; cbv)
           repeat' first | exact trivial | refine⟨rfl, ?_⟩ | fail
   have h2:a.ae.length≤i:=by simp at h2; omega
   have RR:=nQ q5 h2 ht;refine aR.by (X:=Nat) (fun i=>[(2,pN 0),(3,pN 1),(6,nT fun _=>i)]) (fun _=>[(0, .box (iD a)),(1, .box (iD b))]) (fun i=>i≤a.cabins.length∧∀(j:Nat) x,j<i→a.cabins[j]? = some x→∀y,b.cabins[j]? = some y→lh x y=true) (fun i _=>a.cabins.length - i) 0 ⟨Nat.zero_le _,fun j y hj=>by omega⟩ ?_ ?_
   · cbv
     repeat (refine Pz.mk ?_; cbv)
     repeat' first | exact trivial | refine⟨rfl, ?_⟩ | fail
   · intro i ⟨hi,hn⟩;cbv
     repeat (refine Pz.mk ?_; cbv)
     refine Br.dec (fun h3=> ?_) (fun h3=> ?_) <;> (cbv; repeat (refine Pz.mk ?_; cbv))
     · have h3 : i<a.cabins.length:=by simpa using h3
       have AN:i<b.cabins.length:=by
         have e1:=(dy.1 q0).fL;have e2:=(dy.1 q1).fL;have e:a.rules=b.rules:=by simpa [Kt] using q2
         rw[e] at e1;omega
       repeat' first
         | (refine Ix.mk a.cabins[i] (by simp) (get_cast a.cabins h3) ?_; cbv)
         | (refine Ix.mk b.cabins[i] (by simp) (get_cast b.cabins AN) ?_; cbv)
         | (refine af.by hP (RH a.cabins[i] b.cabins[i] (dE.ag ha.2.2.1 h3) (dE.ag hb.2.2.1 AN) (lh a.cabins[i] b.cabins[i]) rfl) ?_; cbv)
         | (refine Pz.mk ?_; cbv)
         | (refine And.intro ?_ ?_)
         | fail
       all_goals
         refine Br.split (fun h4=> ?_) (fun h4=> ?_) <;> (cbv; repeat (refine Pz.mk ?_; cbv))
         · refine⟨?_,trivial⟩;have h4:lh a.cabins[i] b.cabins[i]=false:=by simpa using h4
           exact(no fun q=>by
             simp only[iE,Bool.and_eq_true] at q;have q:=q.2.2.2.2.2.2.2.2;rw[nj,Ku h3 AN h4] at q;simp at q).symm
         · have h4:lh a.cabins[i] b.cabins[i]=true:=by simpa using h4
           refine Ar.exact (by(try simp only[nc] at *); omega) (by(try simp only[nc] at *); omega) ?_;cbv
           repeat (refine Pz.mk ?_; cbv)
           refine aL.by (i+1) ?_ ?_ ?_
           · show a.cabins.length - (i+1)<a.cabins.length - i;omega
           · refine⟨h3,fun j x hj hx y hy=> ?_⟩;rcases Nat.lt_or_ge j i with q | q
             · exact hn j x q hx y hy
             · obtain rfl:j=i:=by omega
               rw[List.getElem?_eq_getElem h3] at hx;rw[List.getElem?_eq_getElem AN] at hy;cases hx; cases hy; exact h4
           · cbv
             repeat (refine Pz.mk ?_; cbv)
             repeat' first | exact trivial | refine⟨rfl, ?_⟩ | fail
     · have h3:a.cabins.length≤i:=by simp at h3; omega
       refine⟨?_,trivial⟩
       have hl:a.cabins.length=b.cabins.length:=by
         have e1:=(dy.1 q0).fL;have e2:=(dy.1 q1).fL;have e:a.rules=b.rules:=by simpa [Kt] using q2
         rw[e] at e1;omega
       have e:nj a.cabins b.cabins=true:=by
         rw[nj,decide_eq_true hl,EK hl fun j x hx y hy=>hn j x (Nat.lt_of_lt_of_le (bC hx) h3) hx y hy]; rfl
       refine(hr.trans ?_).symm;simp only[iE,Bool.and_eq_true];exact⟨q0,q1,q2,q3,q4,decide_eq_true RR,q6,q7,e⟩
end Go.Proofs.YtpklefhdkkegiaaGreat

