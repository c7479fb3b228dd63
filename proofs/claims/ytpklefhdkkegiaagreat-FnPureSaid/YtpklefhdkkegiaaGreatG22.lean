/- Parts of a proof. No conditions. -/

import Derived.Test.YtpklefhdkkegiaaGreatG09
import Derived.Test.YtpklefhdkkegiaaGreatG18
import Derived.Test.YtpklefhdkkegiaaGreatG19
set_option linter.unusedSimpArgs false
set_option linter.unusedVariables false
namespace Go.Proofs.YtpklefhdkkegiaaGreat
open Go
set_option maxRecDepth 100000
def cutAt {α:Type} (l:List α) (a:Int):List α:=if a<0 then l else l.take a.toNat++l.drop (a.toNat+1)
def fX (l:List ax) (id:Int):List ax:=cutAt l (bq l id)
def iY (l:List ax) (id:Int):Int:=ie (fun q=>decide (q.id>id)) l
def putAt (l:List ax) (id:Int):Nat:=if iY l id<0 then l.length else(iY l id).toNat
def gM (l:List ax) (p:ax):List ax:=if 0≤bq l p.id then l.set (bq l p.id).toNat p else l.take (putAt l p.id)++p::l.drop (putAt l p.id)
theorem Hl {l:List ax} {q:ax} {i:Nat} (h:bq l q.id=(i:Int)):gM l q=l.set i q:=by
 rw[gM,if_pos (by omega),h,Int.toNat_natCast]
theorem Hm {l:List ax} {id:Int} {i:Nat} (h:bq l id=(i:Int)):fX l id=l.take i++l.drop (i+1):=by
 rw[fX,cutAt,h,if_neg (by omega),Int.toNat_natCast]
theorem s6 (l:List ax) (id:Int) (hl:l.length≤aS) (x:List ax) (hx:x=fX l id):Spec Tryz.prog 167 [lA .aB l,iA id] (aM (lR .aB fun _=>x)):=by
 have hn:l.length≤1048576:=hl;refine aN aD Tryz.func167 rfl rfl (fr:=true) (fun _=>by kernel_rfl) fun P hP hA=> ?_;cbv;refine⟨by show(0+l.length)*80≤140737488355328; omega, ?_⟩;cbv;refine ag.by hP (Bf l id (bq l id) rfl) ?_;cbv;refine Br.dec (fun h0=> ?_) (fun h0=> ?_) <;> cbv
 · have h0:bq l id≥0:=h0;rcases iC (fun p:ax=>p.id == id) l with⟨e,_⟩ | ⟨i,hi,e,_,_⟩
   · have:bq l id = -1:=e;omega
   have e:bq l id=(i:Int):=e;have hx:x=l.take i++l.drop (i+1):=hx.trans (by rw[fX,cutAt,e,if_neg (by omega),Int.toNat_natCast]);rw[e];cbv;refine Ar.exact (by(try simp only[nc] at *); omega) (by(try simp only[nc] at *); omega) ?_;cbv;refine aJ.by hP (N8 l i hi) ?_;cbv;refine⟨?_,trivial⟩;exact hx.symm
 · have h0:¬bq l id≥0:=h0;obtain rfl:l=x:=(hx.trans (if_pos (by omega))).symm
   repeat' first | exact trivial | refine⟨rfl, ?_⟩ | fail
theorem Oi (q p:ax):Spec Tryz.prog 196 [eA .aB q, .c (.bN (bH .aB fun _=>p) 0)] (aM (bR fun _=>decide (q.id>p.id))):=by
 refine aN aD Tryz.func196 rfl rfl (fr:=true) (fun _=>by kernel_rfl) fun P hP hA=> ?_;cbv
 repeat' first | exact trivial | refine⟨rfl, ?_⟩ | fail
theorem Oj (a:List ax) (p:ax) (x:Int) (hx:x=iY a p.id):Spec Tryz.prog 195 [lA .aB a, .c (.fn 196 [.bN (bH .aB fun _=>p) 0])] (aM (iR fun _=>x)):=by
 refine aN aD Tryz.func195 rfl rfl (fr:=true) (fun _=>by kernel_rfl) fun P hP hA=> ?_;have ha:a.length≤9223372036854775807:=hA.1.1;cbv;refine aW.by (X:=Nat) (fun i=>[(0,lA .aB a),(1, .c (.fn 196 [.bN (bH .aB fun _=>p) 0])),(7,nT fun _=>a.length),(8,nT fun _=>i)]) (fun _=>[]) (fun i=>i≤a.length∧∀(j:Nat) y,j<i→a[j]? = some y→decide (y.id>p.id)=false) (fun i _=>a.length - i) 0 ⟨Nat.zero_le _,fun j y hj=>by omega⟩ ?_ ?_
 · cbv
   repeat' first | exact trivial | refine⟨rfl, ?_⟩ | fail
 · intro i ⟨hi,hn⟩;cbv;refine Br.dec (fun h2=> ?_) (fun h2=> ?_) <;> cbv
   · have h2:i<a.length:=by simpa using h2
     refine⟨a[i],by simp,get_cast a h2, ?_⟩;cbv;refine ag.by hP (Oi a[i] p) ?_;cbv;refine Br.dec (fun h3=> ?_) (fun h3=> ?_) <;> cbv
     · have h3:a[i].id>p.id:=h3;refine⟨?_,trivial⟩;exact(hx.trans (m7 (p:=fun q:ax=>decide (q.id>p.id)) h2 (decide_eq_true h3) hn)).symm
     · have h3:¬a[i].id>p.id:=h3;refine Ar.exact (by(try simp only[nc] at *); omega) (by(try simp only[nc] at *); omega) ?_;cbv;refine aO.by (i+1) ?_ ?_ ?_
       · show a.length - (i+1)<a.length - i;omega
       · exact⟨h2,gy h2 hn (decide_eq_false h3)⟩
       · cbv
         repeat' first | exact trivial | refine⟨rfl, ?_⟩ | fail
   · have h2:a.length≤i:=by simp at h2; omega
     refine⟨?_,trivial⟩;exact(hx.trans (m8 (ma h2 hn))).symm
theorem Hn (l:List ax) (id:Int):putAt l id≤l.length:=by
 unfold putAt;have h:=Bc (fun q:ax=>decide (q.id>id)) l;have h: -1≤iY l id∧iY l id<l.length:=h
 split <;> omega
set_option maxHeartbeats 1000000 in
theorem BO (l:List ax) (p:ax) (hl:l.length≤aS) (x:List ax) (hx:x=gM l p):Spec Tryz.prog 135 [lA .aB l,eA .aB p] (aM (lR .aB fun _=>x)):=by
 have hn:l.length≤1048576:=hl;refine aN aD Tryz.func135 rfl rfl (fr:=true) (fun _=>by kernel_rfl) fun P hP hA=> ?_;cbv;refine⟨by show(0+l.length)*80≤140737488355328; omega, ?_⟩;cbv;refine ag.by hP (Bf l p.id (bq l p.id) rfl) ?_;cbv;refine Br.dec (fun h0=> ?_) (fun h0=> ?_) <;> cbv
 · have h0:bq l p.id≥0:=h0;have h1:=Bc (fun q:ax=>q.id == p.id) l;have h1: -1≤bq l p.id∧bq l p.id<l.length:=h1;have oi:0≤bq l p.id∧bq l p.id<(l.length:Int):=⟨h0,h1.2⟩;refine⟨oi, ?_⟩;cbv;refine Sv.mk (fun _=>l.set (bq l p.id).toNat p) rfl ?_;cbv;refine⟨?_,trivial⟩;exact(hx.trans (if_pos h0)).symm
 have h0:¬bq l p.id≥0:=h0;have hx:=hx.trans (if_neg h0);have hp:=Hn l p.id;refine ag.by hP (Oj l p (iY l p.id) rfl) ?_;cbv;refine Br.dec (fun h1=> ?_) (fun h1=> ?_) <;> cbv
 · have h1:iY l p.id<0:=h1;have e:putAt l p.id=l.length:=if_pos h1;refine aJ.by hP (Hk l p l.length (Nat.le_refl _) hl) ?_;cbv;refine⟨?_,trivial⟩;rw[hx,e];rfl
 · have h1:¬iY l p.id<0:=h1;have e:putAt l p.id=(iY l p.id).toNat:=if_neg h1;have e2:iY l p.id=((iY l p.id).toNat:Int):=by omega
   rw[e] at hp hx;generalize hg:(iY l p.id).toNat=g at hp hx e2;rw[e2];cbv;refine aJ.by hP (Hk l p g hp hl) ?_;cbv;refine⟨?_,trivial⟩;exact hx.symm
theorem Ok {l:List ax} {id:Int} {i:Nat} (hi:l.length≤i) (hn:∀(j:Nat) y,j<i→l[j]? = some y→y.id<id):putAt l id=l.length:=by
 have e:iY l id = -1:=m8 fun j y hy=>by
  have:=hn j y (Nat.lt_of_lt_of_le (bD hy) hi) hy;exact decide_eq_false (by omega)
 rw[putAt,if_pos (by omega)]
theorem Ol {l:List ax} {id:Int} {i:Nat} (hi:i<l.length) (hn:∀(j:Nat) y,j<i→l[j]? = some y→y.id<id) (h:l[i].id>id):putAt l id=i:=by
 have e:iY l id=(i:Int):=m7 (p:=fun q:ax=>decide (q.id>id)) hi (decide_eq_true h) fun j y hj hy=>by
  have:=hn j y hj hy;exact decide_eq_false (by omega)
 rw[putAt,e,if_neg (by omega),Int.toNat_natCast]
set_option maxHeartbeats 1000000 in
theorem Om (l:List ax) (p:ax) (hl:l.length≤aS) (x:List ax) (hx:x=gM l p):Spec Tryz.prog 145 [lA .aB l,eA .aB p] (aM (lR .aB fun _=>x)):=by
 have hn:l.length≤1048576:=hl;refine aN aD Tryz.func145 rfl rfl (fr:=true) (fun _=>by kernel_rfl) fun P hP hA=> ?_;cbv;refine ag.by hP (Bd l p.id (bq l p.id) rfl) ?_;cbv;refine⟨by show(0+l.length)*80≤140737488355328; omega, ?_⟩;cbv;refine Br.dec (fun h0=> ?_) (fun h0=> ?_) <;> cbv
 · have h0:bq l p.id≥0:=h0;have h1:=Bc (fun q:ax=>q.id == p.id) l;have h1: -1≤bq l p.id∧bq l p.id<l.length:=h1;have oi:0≤bq l p.id∧bq l p.id<(l.length:Int):=⟨h0,h1.2⟩;refine⟨oi, ?_⟩;cbv;refine Sv.mk (fun _=>l.set (bq l p.id).toNat p) rfl ?_;cbv;refine⟨?_,trivial⟩;exact(hx.trans (if_pos h0)).symm
 have h0:¬bq l p.id≥0:=h0;have hx:=hx.trans (if_neg h0)
 have hne:∀q∈l,¬q.id=p.id:=fun q hq he=>by
   rcases iC (fun q:ax=>q.id == p.id) l with⟨_,e⟩ | ⟨i,hi,e,_,_⟩
   · have:=e q hq;simp[he] at this
   · have e:bq l p.id=(i:Int):=e;omega
 refine aW.by (X:=Nat) (fun i=>[(0,lA .aB l),(3,pN 0),(5,nT fun _=>i)]) (fun _=>[(0, .box ((bH .aB fun _=>p).map .lf))]) (fun i=>i≤l.length∧∀(j:Nat) y,j<i→l[j]? = some y→y.id<p.id) (fun i _=>l.length - i) 0 ⟨Nat.zero_le _,fun j y hj=>by omega⟩ ?_ ?_
 · cbv
   repeat' first | exact trivial | refine⟨rfl, ?_⟩ | fail
 · intro i ⟨hi,hb⟩;have o1:0≤(0:Int)∧(0:Int)≤(i:Int)∧(i:Int)≤(l.length:Int):=⟨by omega,by omega,by omega⟩
   have o2:(([]:List ax).length+((l.take ((i:Int)).toNat).drop ((0:Int)).toNat).length)*80≤140737488355328:=by
     rw[List.length_drop,List.length_take]; simp only[List.length_nil]; omega
   have o3:0≤(i:Int)∧(i:Int)≤(l.length:Int)∧(l.length:Int)≤(l.length:Int):=⟨by omega,by omega,by omega⟩
   have o5:(([]++(l.take ((i:Int)).toNat).drop ((0:Int)).toNat:List ax).length+1)*80≤140737488355328:=by
     rw[List.length_append,List.length_drop,List.length_take]; simp only[List.length_nil]; omega
   have o4:(([]++(l.take ((i:Int)).toNat).drop ((0:Int)).toNat ++ [p]:List ax).length+((l.take ((l.length:Int)).toNat).drop ((i:Int)).toNat).length)*80≤140737488355328:=by
     rw[List.length_append,List.length_append,List.length_drop,List.length_take,List.length_drop,List.length_take]; simp only[List.length_nil,List.length_cons]; omega
   have fin:putAt l p.id=i→ []++(l.take ((i:Int)).toNat).drop ((0:Int)).toNat ++ [p]++(l.take ((l.length:Int)).toNat).drop ((i:Int)).toNat=x:=fun e=>by
     rw[hx,e]; simp
   cbv;refine Br.dec (fun h2=> ?_) (fun h2=> ?_) <;> cbv
   · have h2:i<l.length:=by simpa using h2
     refine⟨l[i],by simp,get_cast l h2, ?_⟩;cbv;refine Br.dec (fun h3=> ?_) (fun h3=> ?_) <;> cbv
     · have h3:l[i].id<p.id:=h3;refine Ar.exact (by(try simp only[nc] at *); omega) (by(try simp only[nc] at *); omega) ?_;cbv;refine aO.by (i+1) ?_ ?_ ?_
       · show l.length - (i+1)<l.length - i;omega
       · exact⟨h2,gy h2 hb h3⟩
       · cbv
         repeat' first | exact trivial | refine⟨rfl, ?_⟩ | fail
     · have h3:¬l[i].id<p.id:=h3;have e:=Ol h2 hb (by have:=hne _ (List.getElem_mem h2); omega)
       repeat' first
         | (refine Ob.mk o1 ?_; cbv)
         | (refine Ob.mk o3 ?_; cbv)
         | (refine Ob.mk o2 ?_; cbv)
         | (refine Ob.mk o4 ?_; cbv)
         | (refine Ob.mk o5 ?_; cbv)
         | refine And.intro ?_ ?_
         | fail
       all_goals first | exact trivial | exact⟨fin e,trivial⟩ | exact fin e
   · have h2:l.length≤i:=by simp at h2; omega
     have e:putAt l p.id=i:=(Ok h2 hb).trans (by omega)
     repeat' first
       | (refine Ob.mk o1 ?_; cbv)
       | (refine Ob.mk o3 ?_; cbv)
       | (refine Ob.mk o2 ?_; cbv)
       | (refine Ob.mk o4 ?_; cbv)
       | (refine Ob.mk o5 ?_; cbv)
       | refine And.intro ?_ ?_
       | fail
     all_goals first | exact trivial | exact⟨fin e,trivial⟩ | exact fin e
def iZ (l:List Entry) (id:Int):List Entry:=cutAt l (dx l id)
theorem Ho (l:List Entry) (id:Int) (hl:l.length≤aS) (x:List Entry) (hx:x=iZ l id) (b:Bool) (hb:b=decide (0≤dx l id)):Spec Tryz.prog 134 [lA .aH l,iA id] (aM (.ba [(false,[.own .aH fun _=>x]),(false,[.bool fun _=>b])])):=by
 have hn:l.length≤1048576:=hl;refine aN aD Tryz.func134 rfl rfl (fr:=true) (fun _=>by kernel_rfl) fun P hP hA=> ?_;cbv;refine ag.by hP (vq l hl) ?_;cbv;refine ag.by hP (Be l id (dx l id) rfl) ?_;cbv;refine Br.dec (fun h0=> ?_) (fun h0=> ?_) <;> cbv
 · have h0:dx l id<0:=h0;obtain rfl:l=x:=(hx.trans (if_pos h0)).symm;obtain rfl:b=false:=hb.trans (decide_eq_false (by omega))
   repeat' first | exact trivial | refine⟨rfl, ?_⟩ | fail
 · have h0:¬dx l id<0:=h0;obtain rfl:b=true:=hb.trans (decide_eq_true (by omega));rcases iC (fun e:Entry=>e.bm == id) l with⟨e,_⟩ | ⟨i,hi,e,_,_⟩
   · have:dx l id = -1:=e;omega
   have e:dx l id=(i:Int):=e;have hx:x=l.take i++l.drop (i+1):=hx.trans (by rw[iZ,cutAt,e,if_neg (by omega),Int.toNat_natCast]);rw[e];cbv;refine Ar.exact (by(try simp only[nc] at *); omega) (by(try simp only[nc] at *); omega) ?_;cbv;refine aJ.by hP (N4 l i hi) ?_;cbv
   repeat' first | exact trivial | refine⟨rfl, ?_⟩ | refine⟨hx.symm, ?_⟩ | fail
end Go.Proofs.YtpklefhdkkegiaaGreat

