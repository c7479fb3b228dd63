/- Parts of a proof. No conditions. -/

import Derived.Test.YtpklefhdkkegiaaGreatG14
set_option linter.unusedSimpArgs false
set_option linter.unusedVariables false
namespace Go.Proofs.YtpklefhdkkegiaaGreat
open Go
set_option maxRecDepth 100000
theorem GW (h:al) (k:Int) (hs:bJ h) (b:Bool) (hb:b=ew h k):Spec Tryz.prog 70 [dV h,iA k] (aM (bR fun _=>b)):=by
 refine aN aD Tryz.func70 rfl rfl (fr:=true) (fun _=>by kernel_rfl) fun P hP hA=> ?_;have hc:h.cabins.length≤1048576:=hs.2.2.1.1;cbv;refine ag.by hP (GQ h hs (dH h) rfl) ?_;cbv;refine Br.split (fun k0=> ?_) (fun k0=> ?_) <;> cbv
 rotate_left
 · refine⟨?_,trivial⟩;have k0:dH h=false:=k0;exact(hb.trans (by rw[ew,k0]; rfl)).symm
 have k0:dH h=true:=k0;refine ag.by hP (m6 k (h.cabins.length:Int) (by omega) (by omega)) ?_;cbv;refine⟨?_,trivial⟩;exact(hb.trans (by rw[ew,k0]; rfl)).symm
def qc (free:Int) (skip:List Int) (e:Entry):Bool:=decide (e.au≤free) && !hasB skip e.bm
def kE (l:List Entry) (free:Int) (skip:List Int):Int:=ie (qc free skip) l
theorem NH (e:Entry) (free:Int) (skip:List Int) (b:Bool) (hb:b=qc free skip e):Spec Tryz.prog 139 [eA .aH e, .c (.bN [.int .i64 fun _=>free] 0), .c (.bN [.list .int fun _=>skip] 0)] (aM (bR fun _=>b)):=by
 refine aN aD Tryz.func139 rfl rfl (fr:=true) (fun _=>by kernel_rfl) fun P hP hA=> ?_;cbv
 repeat' first
  | (refine ag.by hP (Bw skip e.bm (hasB skip e.bm) rfl) ?_; cbv)
  | (refine Br.split (fun h=> ?_) (fun h=> ?_) <;> cbv)
  | fail
 all_goals refine⟨?_,trivial⟩
 all_goals simp_all [qc]
theorem NI (a:List Entry) (free:Int) (skip:List Int) (x:Int) (hx:x=kE a free skip):Spec Tryz.prog 138 [lA .aH a, .c (.fn 139 [.bN [.int .i64 fun _=>free] 0, .bN [.list .int fun _=>skip] 0])] (aM (iR fun _=>x)):=by
 refine aN aD Tryz.func138 rfl rfl (fr:=true) (fun _=>by kernel_rfl) fun P hP hA=> ?_;obtain⟨⟨ha,_⟩,_⟩:=hA;have ha:a.length≤9223372036854775807:=ha;cbv;refine aW.by (X:=Nat) (fun i=>[(0,lA .aH a),(1, .c (.fn 139 [.bN [.int .i64 fun _=>free] 0, .bN [.list .int fun _=>skip] 0])),(7,nT fun _=>a.length),(8,nT fun _=>i)]) (fun _=>[]) (fun i=>i≤a.length∧∀(j:Nat) y,j<i→a[j]? = some y→qc free skip y=false) (fun i _=>a.length - i) 0 ⟨Nat.zero_le _,fun j y hj=>by omega⟩ ?_ ?_
 · cbv
   repeat' first | exact trivial | refine⟨rfl, ?_⟩ | fail
 · intro i ⟨hi,hn⟩;cbv;refine Br.dec (fun h2=> ?_) (fun h2=> ?_) <;> cbv
   · have h2:i<a.length:=by simpa using h2
     refine⟨a[i],by simp,get_cast a h2, ?_⟩;cbv;refine ag.by hP (NH a[i] free skip (qc free skip a[i]) rfl) ?_;cbv;refine Br.split (fun h3=> ?_) (fun h3=> ?_) <;> cbv
     · refine⟨?_,trivial⟩;exact(hx.trans (m7 h2 h3 hn)).symm
     · refine Ar.exact (by(try simp only[nc] at *); omega) (by(try simp only[nc] at *); omega) ?_;cbv;refine aO.by (i+1) ?_ ?_ ?_
       · show a.length - (i+1)<a.length - i;omega
       · exact⟨h2,gy h2 hn h3⟩
       · cbv
         repeat' first | exact trivial | refine⟨rfl, ?_⟩ | fail
   · have h2:a.length≤i:=by simp at h2; omega
     refine⟨?_,trivial⟩;exact(hx.trans (m8 (ma h2 hn))).symm
theorem NJ (a:List Entry) (free:Int) (skip:List Int) (x:Int) (hx:x=kE a free skip):Spec Tryz.prog 73 [lA .aH a,iA free,lA .int skip] (aM (iR fun _=>x)):=by
 refine aN aD Tryz.func73 rfl rfl (fr:=true) (fun _=>by kernel_rfl) fun P hP hA=> ?_;cbv;refine ag.by hP (NI a free skip x hx) ?_;cbv
 repeat' first | exact trivial | refine⟨rfl, ?_⟩ | fail
def qd (q:ax→Bool) (l:List ax):List Int:=(l.filter q).map fun p=>p.id
theorem NK (q:ax→Bool) (l:List ax):(qd q l).length≤l.length:=by rw[qd,List.length_map]; exact List.length_filter_le _ _
def kF (h:al):List Int:=qd (fun p=>lr p h.now) h.ae
def sS (h:al) (c:bh):Int:=if kE c.row c.ai.free (kF h)<0 then 0 else((c.row[(kE c.row c.ai.free (kF h)).toNat]?).getD default).bm
def eh (h:al) (k:Int):Int:=if ew h k=true then sS h (aE h k) else 0
set_option maxHeartbeats 1000000 in
theorem GX (h:al) (k:Int) (hs:bJ h) (x:Int) (hx:x=eh h k):Spec Tryz.prog 23 [dV h,iA k] (aM (iR fun _=>x)):=by
 refine aN aD Tryz.func23 rfl rfl (fr:=true) (fun _=>by kernel_rfl) fun P hP hA=> ?_;cbv;refine ag.by hP (GW h k hs (ew h k) rfl) ?_;cbv;refine Br.split (fun kc=> ?_) (fun kc=> ?_) <;> cbv
 · refine⟨?_,trivial⟩;have kc:(!ew h k)=true:=kc;exact(hx.trans (if_neg (by intro q; rw[q] at kc; cases kc))).symm
 have kc:(!ew h k)=false:=kc;have kc:ew h k=true:=by simpa using kc
 have kk:=Bool.and_eq_true_iff.1 kc;obtain⟨n,hn,rfl,ec⟩:=xO kk.2;have gw:=kk.1;have hx:=hx.trans ((if_pos kc).trans (by rw[ec]));have hl:h.ae.length≤40:=(iD.1 gw).dy;refine aW.by (X:=Nat) (fun i=>[(1,nT fun _=>n),(2,pN 0),(5,oN 1),(15,lA .aB h.ae),(16,nT fun _=>h.ae.length),(17,nT fun _=>i)]) (fun i=>[(0, .box (kC h)),(1,aK .int fun _=>qd (fun p=>lr p h.now) (h.ae.take i))]) (fun i=>i≤h.ae.length) (fun i _=>h.ae.length - i) 0 (Nat.zero_le _) ?_ ?_
 · cbv
   repeat' first | exact trivial | refine⟨rfl, ?_⟩ | fail
 · intro i hi;cbv;refine Br.dec (fun h2=> ?_) (fun h2=> ?_) <;> cbv
   rotate_left
   · have h2:h.ae.length≤i:=by simp at h2; omega
     have e:qd (fun p=>lr p h.now) (h.ae.take i)=qd (fun p=>lr p h.now) h.ae:=by rw[List.take_of_length_le h2]
     refine⟨h.cabins[n],by simp,get_cast h.cabins hn, ?_⟩;cbv;refine ag.by hP (NJ h.cabins[n].row h.cabins[n].ai.free (qd (fun p=>lr p h.now) (h.ae.take i)) (kE h.cabins[n].row h.cabins[n].ai.free (kF h)) (by rw[e]; rfl)) ?_;cbv;refine Br.dec (fun k7=> ?_) (fun k7=> ?_) <;> cbv
     · refine⟨?_,trivial⟩;have k7:kE h.cabins[n].row h.cabins[n].ai.free (kF h)<0:=k7;exact(hx.trans (if_pos k7)).symm
     have k7:¬kE h.cabins[n].row h.cabins[n].ai.free (kF h)<0:=k7;rcases iC (qc h.cabins[n].ai.free (kF h)) h.cabins[n].row with⟨q,_⟩ | ⟨m,hm,q,_,_⟩
     · have q:kE h.cabins[n].row h.cabins[n].ai.free (kF h) = -1:=q;omega
     have q:kE h.cabins[n].row h.cabins[n].ai.free (kF h)=(m:Int):=q;have o0:0≤kE h.cabins[n].row h.cabins[n].ai.free (kF h):=by omega
     have g0:h.cabins[n].row[(kE h.cabins[n].row h.cabins[n].ai.free (kF h)).toNat]? = some h.cabins[n].row[m]:=by rw[q,Int.toNat_natCast]; exact List.getElem?_eq_getElem hm
     refine⟨h.cabins[n].row[m],o0,g0, ?_⟩;cbv;refine⟨?_,trivial⟩;exact(hx.trans ((if_neg k7).trans (by rw[g0]; rfl))).symm
   have h2:i<h.ae.length:=by simpa using h2
   have ob:((qd (fun p=>lr p h.now) (h.ae.take i)).length+1)*8≤140737488355328:=by
     have:=NK (fun p=>lr p h.now) (h.ae.take i);rw[List.length_take] at this;omega
   refine⟨h.ae[i],by simp,get_cast h.ae h2, ?_⟩;cbv;refine ag.by hP (Mw h.ae[i] h.now) ?_;cbv;refine Br.split (fun k0=> ?_) (fun k0=> ?_) <;> cbv
   · refine⟨ob, ?_⟩;cbv;refine Ar.exact (by(try simp only[nc] at *); omega) (by(try simp only[nc] at *); omega) ?_;cbv;refine aO.by (i+1) ?_ ?_ ?_
     · show h.ae.length - (i+1)<h.ae.length - i;omega
     · exact h2
     · cbv
       repeat' first | exact trivial | refine⟨rfl, ?_⟩ | fail
       refine⟨xJ (fun p=>lr p h.now) (fun p:ax=>p.id) h2 k0, ?_⟩
       repeat' first | exact trivial | refine⟨rfl, ?_⟩ | fail
   · refine Ar.exact (by(try simp only[nc] at *); omega) (by(try simp only[nc] at *); omega) ?_;cbv;refine aO.by (i+1) ?_ ?_ ?_
     · show h.ae.length - (i+1)<h.ae.length - i;omega
     · exact h2
     · cbv
       repeat' first | exact trivial | refine⟨rfl, ?_⟩ | fail
       refine⟨sN (fun p=>lr p h.now) (fun p:ax=>p.id) h2 k0, ?_⟩
       repeat' first | exact trivial | refine⟨rfl, ?_⟩ | fail
end Go.Proofs.YtpklefhdkkegiaaGreat

