/- Parts of a proof. No conditions. -/

import Derived.Test.YtpklefhdkkegiaaGreatG09
import Derived.Test.YtpklefhdkkegiaaGreatG18
import Derived.Test.YtpklefhdkkegiaaGreatG19
set_option linter.unusedSimpArgs false
set_option linter.unusedVariables false
namespace Go.Proofs.YtpklefhdkkegiaaGreat
open Go
set_option maxRecDepth 100000
def cutAt {α:Type} (l:List α) (a:Int):List α:=if a<0 then l else l.take a.toNat++l.drop (a.toNat+1)
def fu (l:List ax) (id:Int):List ax:=cutAt l (br l id)
def kH (l:List ax) (id:Int):Int:=ie (fun q=>decide (q.id>id)) l
def putAt (l:List ax) (id:Int):Nat:=if kH l id<0 then l.length else(kH l id).toNat
def ff (l:List ax) (p:ax):List ax:=if 0≤br l p.id then l.set (br l p.id).toNat p else l.take (putAt l p.id)++p::l.drop (putAt l p.id)
theorem KW {l:List ax} {q:ax} {i:Nat} (h:br l q.id=(i:Int)):ff l q=l.set i q:=by
 rw[ff,if_pos (by omega),h,Int.toNat_natCast]
theorem AZ {l:List ax} {id:Int} {i:Nat} (h:br l id=(i:Int)):fu l id=l.take i++l.drop (i+1):=by
 rw[fu,cutAt,h,if_neg (by omega),Int.toNat_natCast]
theorem vT (l:List ax) (id:Int) (hl:l.length≤aN) (x:List ax) (hx:x=fu l id):Spec Tryz.prog 167 [lA .aE l,iA id] (aG (lR .aE fun _=>x)):=by
 have hn:l.length≤1048576:=hl;refine aF au Tryz.func167 rfl rfl (fr:=true) (fun _=>by kernel_rfl) fun P hP hA=> ?_;cbv;refine⟨by show(0+l.length)*80≤140737488355328; omega, ?_⟩;cbv;refine af.by hP (Ek l id (br l id) rfl) ?_;cbv;refine Br.dec (fun h0=> ?_) (fun h0=> ?_) <;> cbv
 · have h0:br l id≥0:=h0;rcases iC (fun p:ax=>p.id == id) l with⟨e,_⟩ | ⟨i,hi,e,_,_⟩
   · have:br l id = -1:=e;omega
   have e:br l id=(i:Int):=e;have hx:x=l.take i++l.drop (i+1):=hx.trans (by rw[fu,cutAt,e,if_neg (by omega),Int.toNat_natCast]);rw[e];cbv;refine Ar.exact (by(try simp only[nc] at *); omega) (by(try simp only[nc] at *); omega) ?_;cbv;refine aD.by hP (So l i hi) ?_;cbv;refine⟨?_,trivial⟩;exact hx.symm
 · have h0:¬br l id≥0:=h0;obtain rfl:l=x:=(hx.trans (if_pos (by omega))).symm
   repeat' first | exact trivial | refine⟨rfl, ?_⟩ | fail
theorem Sz (l:List ax) (id:Int) (hl:l.length≤aN) (x:List ax) (hx:x=fu l id):Spec Tryz.prog 254 [lA .aE l,iA id] (aG (lR .aE fun _=>x)):=by
 have hn:l.length≤1048576:=hl;refine aF au Tryz.func254 rfl rfl (fr:=true) (fun _=>by kernel_rfl) fun P hP hA=> ?_;cbv;refine af.by hP (AE l id (br l id) rfl) ?_;cbv;refine Br.dec (fun h0=> ?_) (fun h0=> ?_) <;> cbv
 · have h0:br l id<0:=h0;obtain rfl:l=x:=(hx.trans (if_pos h0)).symm;refine⟨by show(0+l.length)*80≤140737488355328; omega, ?_⟩;cbv
   repeat' first | exact trivial | refine⟨rfl, ?_⟩ | fail
 · have h0:¬br l id<0:=h0;rcases iC (fun p:ax=>p.id == id) l with⟨e,_⟩ | ⟨i,hi,e,_,_⟩
   · have:br l id = -1:=e;omega
   have e:br l id=(i:Int):=e;have hx:x=l.take i++l.drop (i+1):=hx.trans (by rw[fu,cutAt,e,if_neg (by omega),Int.toNat_natCast]);have o1:0≤(0:Int)∧(0:Int)≤(i:Int)∧(i:Int)≤(l.length:Int):=⟨by omega,by omega,by omega⟩
   have o2:(([]:List ax).length+((l.take ((i:Int)).toNat).drop ((0:Int)).toNat).length)*80≤140737488355328:=by
     rw[List.length_drop,List.length_take]; simp only[List.length_nil]; omega
   have o3:0≤(i:Int)+1∧(i:Int)+1≤(l.length:Int)∧(l.length:Int)≤(l.length:Int):=⟨by omega,by omega,by omega⟩
   have o4:(([]++(l.take ((i:Int)).toNat).drop ((0:Int)).toNat:List ax).length+((l.take ((l.length:Int)).toNat).drop ((i:Int)+1).toNat).length)*80≤140737488355328:=by
     rw[List.length_append,List.length_drop,List.length_take,List.length_drop,List.length_take]; simp only[List.length_nil]; omega
   have fin: []++(l.take ((i:Int)).toNat).drop ((0:Int)).toNat++(l.take ((l.length:Int)).toNat).drop ((i:Int)+1).toNat=x:=by
     rw[hx,show((i:Int)+1).toNat=i+1 by omega]; simp
   rw[e];cbv
   repeat' first
     | (refine Ob.mk o1 ?_; cbv)
     | (refine Ob.mk o3 ?_; cbv)
     | (refine Ob.mk o2 ?_; cbv)
     | (refine Ob.mk o4 ?_; cbv)
     | (refine Ar.exact (by(try simp only[nc] at *); omega) (by(try simp only[nc] at *); omega) ?_; cbv)
     | refine And.intro ?_ ?_
     | fail
   all_goals
     refine⟨?_,trivial⟩;exact fin
theorem SA (q p:ax):Spec Tryz.prog 196 [eA .aE q, .c (.cg (bY .aE fun _=>p) 0)] (aG (bR fun _=>decide (q.id>p.id))):=by
 refine aF au Tryz.func196 rfl rfl (fr:=true) (fun _=>by kernel_rfl) fun P hP hA=> ?_;cbv
 repeat' first | exact trivial | refine⟨rfl, ?_⟩ | fail
theorem SB (a:List ax) (p:ax) (x:Int) (hx:x=kH a p.id):Spec Tryz.prog 195 [lA .aE a, .c (.fn 196 [.cg (bY .aE fun _=>p) 0])] (aG (iR fun _=>x)):=by
 refine aF au Tryz.func195 rfl rfl (fr:=true) (fun _=>by kernel_rfl) fun P hP hA=> ?_;have ha:a.length≤9223372036854775807:=hA.1.1;cbv;refine aR.by (X:=Nat) (fun i=>[(0,lA .aE a),(1, .c (.fn 196 [.cg (bY .aE fun _=>p) 0])),(7,nT fun _=>a.length),(8,nT fun _=>i)]) (fun _=>[]) (fun i=>i≤a.length∧∀(j:Nat) y,j<i→a[j]? = some y→decide (y.id>p.id)=false) (fun i _=>a.length - i) 0 ⟨Nat.zero_le _,fun j y hj=>by omega⟩ ?_ ?_
 · cbv
   repeat' first | exact trivial | refine⟨rfl, ?_⟩ | fail
 · intro i ⟨hi,hn⟩;cbv;refine Br.dec (fun h2=> ?_) (fun h2=> ?_) <;> cbv
   · have h2:i<a.length:=by simpa using h2
     refine⟨a[i],by simp,get_cast a h2, ?_⟩;cbv;refine af.by hP (SA a[i] p) ?_;cbv;refine Br.dec (fun h3=> ?_) (fun h3=> ?_) <;> cbv
     · have h3:a[i].id>p.id:=h3;refine⟨?_,trivial⟩;exact(hx.trans (nh (p:=fun q:ax=>decide (q.id>p.id)) h2 (decide_eq_true h3) hn)).symm
     · have h3:¬a[i].id>p.id:=h3;refine Ar.exact (by(try simp only[nc] at *); omega) (by(try simp only[nc] at *); omega) ?_;cbv;refine aL.by (i+1) ?_ ?_ ?_
       · show a.length - (i+1)<a.length - i;omega
       · exact⟨h2,gN h2 hn (decide_eq_false h3)⟩
       · cbv
         repeat' first | exact trivial | refine⟨rfl, ?_⟩ | fail
   · have h2:a.length≤i:=by simp at h2; omega
     refine⟨?_,trivial⟩;exact(hx.trans (ni (mn h2 hn))).symm
theorem KX (l:List ax) (id:Int):putAt l id≤l.length:=by
 unfold putAt;have h:=Eh (fun q:ax=>decide (q.id>id)) l;have h: -1≤kH l id∧kH l id<l.length:=h
 split <;> omega
set_option maxHeartbeats 1000000 in
theorem E2 (l:List ax) (p:ax) (hl:l.length≤aN) (x:List ax) (hx:x=ff l p):Spec Tryz.prog 135 [lA .aE l,eA .aE p] (aG (lR .aE fun _=>x)):=by
 have hn:l.length≤1048576:=hl;refine aF au Tryz.func135 rfl rfl (fr:=true) (fun _=>by kernel_rfl) fun P hP hA=> ?_;cbv;refine⟨by show(0+l.length)*80≤140737488355328; omega, ?_⟩;cbv;refine af.by hP (Ek l p.id (br l p.id) rfl) ?_;cbv;refine Br.dec (fun h0=> ?_) (fun h0=> ?_) <;> cbv
 · have h0:br l p.id≥0:=h0;have h1:=Eh (fun q:ax=>q.id == p.id) l;have h1: -1≤br l p.id∧br l p.id<l.length:=h1;have oi:0≤br l p.id∧br l p.id<(l.length:Int):=⟨h0,h1.2⟩;refine⟨oi, ?_⟩;cbv;refine Sv.mk (fun _=>l.set (br l p.id).toNat p) rfl ?_;cbv;refine⟨?_,trivial⟩;exact(hx.trans (if_pos h0)).symm
 have h0:¬br l p.id≥0:=h0;have hx:=hx.trans (if_neg h0);have hp:=KX l p.id;refine af.by hP (SB l p (kH l p.id) rfl) ?_;cbv;refine Br.dec (fun h1=> ?_) (fun h1=> ?_) <;> cbv
 · have h1:kH l p.id<0:=h1;have e:putAt l p.id=l.length:=if_pos h1;refine aD.by hP (KV l p l.length (Nat.le_refl _) hl) ?_;cbv;refine⟨?_,trivial⟩;rw[hx,e];rfl
 · have h1:¬kH l p.id<0:=h1;have e:putAt l p.id=(kH l p.id).toNat:=if_neg h1;have e2:kH l p.id=((kH l p.id).toNat:Int):=by omega
   rw[e] at hp hx;generalize hg:(kH l p.id).toNat=g at hp hx e2;rw[e2];cbv;refine aD.by hP (KV l p g hp hl) ?_;cbv;refine⟨?_,trivial⟩;exact hx.symm
theorem SC {l:List ax} {id:Int} {i:Nat} (hi:l.length≤i) (hn:∀(j:Nat) y,j<i→l[j]? = some y→y.id<id):putAt l id=l.length:=by
 have e:kH l id = -1:=ni fun j y hy=>by
  have:=hn j y (Nat.lt_of_lt_of_le (bC hy) hi) hy;exact decide_eq_false (by omega)
 rw[putAt,if_pos (by omega)]
theorem SD {l:List ax} {id:Int} {i:Nat} (hi:i<l.length) (hn:∀(j:Nat) y,j<i→l[j]? = some y→y.id<id) (h:l[i].id>id):putAt l id=i:=by
 have e:kH l id=(i:Int):=nh (p:=fun q:ax=>decide (q.id>id)) hi (decide_eq_true h) fun j y hj hy=>by
  have:=hn j y hj hy;exact decide_eq_false (by omega)
 rw[putAt,e,if_neg (by omega),Int.toNat_natCast]
set_option maxHeartbeats 1000000 in
theorem A0 (l:List ax) (p:ax) (hl:l.length≤aN) (x:List ax) (hx:x=ff l p):Spec Tryz.prog 145 [lA .aE l,eA .aE p] (aG (lR .aE fun _=>x)):=by
 have hn:l.length≤1048576:=hl;refine aF au Tryz.func145 rfl rfl (fr:=true) (fun _=>by kernel_rfl) fun P hP hA=> ?_;cbv;refine af.by hP (AE l p.id (br l p.id) rfl) ?_;cbv;refine⟨by show(0+l.length)*80≤140737488355328; omega, ?_⟩;cbv;refine Br.dec (fun h0=> ?_) (fun h0=> ?_) <;> cbv
 · have h0:br l p.id≥0:=h0;have h1:=Eh (fun q:ax=>q.id == p.id) l;have h1: -1≤br l p.id∧br l p.id<l.length:=h1;have oi:0≤br l p.id∧br l p.id<(l.length:Int):=⟨h0,h1.2⟩;refine⟨oi, ?_⟩;cbv;refine Sv.mk (fun _=>l.set (br l p.id).toNat p) rfl ?_;cbv;refine⟨?_,trivial⟩;exact(hx.trans (if_pos h0)).symm
 have h0:¬br l p.id≥0:=h0;have hx:=hx.trans (if_neg h0)
 have hne:∀q∈l,¬q.id=p.id:=fun q hq he=>by
   rcases iC (fun q:ax=>q.id == p.id) l with⟨_,e⟩ | ⟨i,hi,e,_,_⟩
   · have:=e q hq;simp[he] at this
   · have e:br l p.id=(i:Int):=e;omega
 refine aR.by (X:=Nat) (fun i=>[(0,lA .aE l),(3,pN 0),(5,nT fun _=>i)]) (fun _=>[(0, .box ((bY .aE fun _=>p).map .lf))]) (fun i=>i≤l.length∧∀(j:Nat) y,j<i→l[j]? = some y→y.id<p.id) (fun i _=>l.length - i) 0 ⟨Nat.zero_le _,fun j y hj=>by omega⟩ ?_ ?_
 · cbv
   repeat' first | exact trivial | refine⟨rfl, ?_⟩ | fail
 · intro i ⟨hi,hb⟩;have o1:0≤(0:Int)∧(0:Int)≤(i:Int)∧(i:Int)≤(l.length:Int):=⟨by omega,by omega,by omega⟩
   have o2:(([]:List ax).length+((l.take ((i:Int)).toNat).drop ((0:Int)).toNat).length)*80≤140737488355328:=by
     rw[List.length_drop,List.length_take]; simp only[List.length_nil]; omega
   have o3:0≤(i:Int)∧(i:Int)≤(l.length:Int)∧(l.length:Int)≤(l.length:Int):=⟨by omega,by omega,by omega⟩
   have o5:(([]++(l.take ((i:Int)).toNat).drop ((0:Int)).toNat:List ax).length+1)*80≤140737488355328:=by
     rw[List.length_append,List.length_drop,List.length_take]; simp only[List.length_nil]; omega
   have o4:(([]++(l.take ((i:Int)).toNat).drop ((0:Int)).toNat ++ [p]:List ax).length+((l.take ((l.length:Int)).toNat).drop ((i:Int)).toNat).length)*80≤140737488355328:=by
     rw[List.length_append,List.length_append,List.length_drop,List.length_take,List.length_drop,List.length_take]; simp only[List.length_nil,List.length_cons]; omega
   have fin:putAt l p.id=i→ []++(l.take ((i:Int)).toNat).drop ((0:Int)).toNat ++ [p]++(l.take ((l.length:Int)).toNat).drop ((i:Int)).toNat=x:=fun e=>by
     rw[hx,e]; simp
   cbv;refine Br.dec (fun h2=> ?_) (fun h2=> ?_) <;> cbv
   · have h2:i<l.length:=by simpa using h2
     refine⟨l[i],by simp,get_cast l h2, ?_⟩;cbv;refine Br.dec (fun h3=> ?_) (fun h3=> ?_) <;> cbv
     · have h3:l[i].id<p.id:=h3;refine Ar.exact (by(try simp only[nc] at *); omega) (by(try simp only[nc] at *); omega) ?_;cbv;refine aL.by (i+1) ?_ ?_ ?_
       · show l.length - (i+1)<l.length - i;omega
       · exact⟨h2,gN h2 hb h3⟩
       · cbv
         repeat' first | exact trivial | refine⟨rfl, ?_⟩ | fail
     · have h3:¬l[i].id<p.id:=h3;have e:=SD h2 hb (by have:=hne _ (List.getElem_mem h2); omega)
       repeat' first
         | (refine Ob.mk o1 ?_; cbv)
         | (refine Ob.mk o3 ?_; cbv)
         | (refine Ob.mk o2 ?_; cbv)
         | (refine Ob.mk o4 ?_; cbv)
         | (refine Ob.mk o5 ?_; cbv)
         | refine And.intro ?_ ?_
         | fail
       all_goals first | exact trivial | exact⟨fin e,trivial⟩ | exact fin e
   · have h2:l.length≤i:=by simp at h2; omega
     have e:putAt l p.id=i:=(SC h2 hb).trans (by omega)
     repeat' first
       | (refine Ob.mk o1 ?_; cbv)
       | (refine Ob.mk o3 ?_; cbv)
       | (refine Ob.mk o2 ?_; cbv)
       | (refine Ob.mk o4 ?_; cbv)
       | (refine Ob.mk o5 ?_; cbv)
       | refine And.intro ?_ ?_
       | fail
     all_goals first | exact trivial | exact⟨fin e,trivial⟩ | exact fin e
def iX (l:List Entry) (id:Int):List Entry:=cutAt l (cU l id)
theorem KY (l:List Entry) (id:Int) (hl:l.length≤aN) (x:List Entry) (hx:x=iX l id) (b:Bool) (hb:b=decide (0≤cU l id)):Spec Tryz.prog 134 [lA .aJ l,iA id] (aG (.aS [(false,[.own .aJ fun _=>x]),(false,[.bool fun _=>b])])):=by
 have hn:l.length≤1048576:=hl;refine aF au Tryz.func134 rfl rfl (fr:=true) (fun _=>by kernel_rfl) fun P hP hA=> ?_;cbv;refine af.by hP (ye l hl) ?_;cbv;refine af.by hP (Ej l id (cU l id) rfl) ?_;cbv;refine Br.dec (fun h0=> ?_) (fun h0=> ?_) <;> cbv
 · have h0:cU l id<0:=h0;obtain rfl:l=x:=(hx.trans (if_pos h0)).symm;obtain rfl:b=false:=hb.trans (decide_eq_false (by omega))
   repeat' first | exact trivial | refine⟨rfl, ?_⟩ | fail
 · have h0:¬cU l id<0:=h0;obtain rfl:b=true:=hb.trans (decide_eq_true (by omega));rcases iC (fun e:Entry=>e.aZ == id) l with⟨e,_⟩ | ⟨i,hi,e,_,_⟩
   · have:cU l id = -1:=e;omega
   have e:cU l id=(i:Int):=e;have hx:x=l.take i++l.drop (i+1):=hx.trans (by rw[iX,cutAt,e,if_neg (by omega),Int.toNat_natCast]);rw[e];cbv;refine Ar.exact (by(try simp only[nc] at *); omega) (by(try simp only[nc] at *); omega) ?_;cbv;refine aD.by hP (Sk l i hi) ?_;cbv
   repeat' first | exact trivial | refine⟨rfl, ?_⟩ | refine⟨hx.symm, ?_⟩ | fail
theorem KZ (l:List Entry) (id:Int) (hl:l.length≤aN) (x:List Entry) (hx:x=iX l id) (b:Bool) (hb:b=decide (0≤cU l id)):Spec Tryz.prog 147 [lA .aJ l,iA id] (aG (.aS [(false,[.own .aJ fun _=>x]),(false,[.bool fun _=>b])])):=by
 have hn:l.length≤1048576:=hl;refine aF au Tryz.func147 rfl rfl (fr:=true) (fun _=>by kernel_rfl) fun P hP hA=> ?_;cbv;refine af.by hP (Ei l id (cU l id) rfl) ?_;cbv;refine Br.dec (fun h0=> ?_) (fun h0=> ?_) <;> cbv
 · have h0:cU l id<0:=h0;obtain rfl:l=x:=(hx.trans (if_pos h0)).symm;obtain rfl:b=false:=hb.trans (decide_eq_false (by omega));refine af.by hP (vK l hl) ?_;cbv
   repeat' first | exact trivial | refine⟨rfl, ?_⟩ | fail
 · have h0:¬cU l id<0:=h0;obtain rfl:b=true:=hb.trans (decide_eq_true (by omega));rcases iC (fun e:Entry=>e.aZ == id) l with⟨e,_⟩ | ⟨i,hi,e,_,_⟩
   · have:cU l id = -1:=e;omega
   have e:cU l id=(i:Int):=e;have hx:x=l.take i++l.drop (i+1):=hx.trans (by rw[iX,cutAt,e,if_neg (by omega),Int.toNat_natCast]);have o1:0≤(0:Int)∧(0:Int)≤(i:Int)∧(i:Int)≤(l.length:Int):=⟨by omega,by omega,by omega⟩;have o3:0≤(i:Int)+1∧(i:Int)+1≤(l.length:Int)∧(l.length:Int)≤(l.length:Int):=⟨by omega,by omega,by omega⟩
   have hs:((l.take ((i:Int)).toNat).drop ((0:Int)).toNat).length≤aN:=by
     rw[List.length_drop,List.length_take]; show _≤1048576; omega
   have o4:(((l.take ((i:Int)).toNat).drop ((0:Int)).toNat).length+((l.take ((l.length:Int)).toNat).drop ((i:Int)+1).toNat).length)*32≤140737488355328:=by
     rw[List.length_drop,List.length_take,List.length_drop,List.length_take]; omega
   have fin:(l.take ((i:Int)).toNat).drop ((0:Int)).toNat++(l.take ((l.length:Int)).toNat).drop ((i:Int)+1).toNat=x:=by
     rw[hx,show((i:Int)+1).toNat=i+1 by omega]; simp
   rw[e];cbv
   repeat' first
     | exact trivial
     | (refine Ob.mk o1 ?_; cbv)
     | (refine Ob.mk o3 ?_; cbv)
     | (refine Ob.mk o4 ?_; cbv)
     | (refine af.by hP (vK ((l.take ((i:Int)).toNat).drop ((0:Int)).toNat) hs) ?_; cbv)
     | (refine Ar.exact (by(try simp only[nc] at *); omega) (by(try simp only[nc] at *); omega) ?_; cbv)
     | refine⟨rfl, ?_⟩
     | refine⟨fin, ?_⟩
     | refine And.intro ?_ ?_
     | fail
end Go.Proofs.YtpklefhdkkegiaaGreat

