/- Parts of a proof. No conditions. -/

import Derived.Test.YtpklefhdkkegiaaGreatG13
set_option linter.unusedSimpArgs false
set_option linter.unusedVariables false
namespace Go.Proofs.YtpklefhdkkegiaaGreat
open Go
set_option maxRecDepth 100000
def aB (h:ai) (k:Int):ba:=(h.cabins[k.toNat]?).getD default
def cu (h:ai) (k:Int):Bool:=bU h && ak k 0 ((h.cabins.length:Int) - 1)
def gd (c:ba):Int:=c.seats.bp - c.seats.tied
theorem yb {h:ai} {k:Int} (hk:ak k 0 ((h.cabins.length:Int) - 1)=true):∃i:Nat,∃hi:i<h.cabins.length,k=(i:Int)∧aB h (i:Int)=h.cabins[i]:=by
 obtain⟨h0,h1⟩:=bD hk;refine⟨k.toNat,by omega,by omega, ?_⟩;rw[aB,Int.toNat_natCast,List.getElem?_eq_getElem (by omega)]; rfl
structure Rz (x:bA):Prop where
 total:1≤x.total∧x.total≤60
 free:0≤x.free∧x.free≤x.total
 held:0≤x.held∧x.held≤x.total
 bp:0≤x.bp∧x.bp≤x.total
 sum:x.free+x.held+x.bp=x.total
 tied:0≤x.tied∧x.tied≤x.bp
theorem qH {x:bA} (h:aX x=true):Rz x:=by
 simp only[aX,Bool.and_eq_true,decide_eq_true_eq] at h;obtain⟨a,b,c,d,e,f⟩:=h;exact⟨bD a,bD b,bD c,bD d,e,bD f⟩
structure RA (h:ai) (k:Nat) (c:ba):Prop where
 total:c.seats.total=h.rules.seats.getD k 0
 gn:aX c.seats=true
 q :dJ c.row=true
 w :bw c.spoke=true
 dj:((aV (bK (k:Int)) h.ae:Nat):Int)≤h.rules.room
 row:c.row=fK h.rules h.ae (k:Int) h.now
 pins:bB c.spoke=gH h.ae (k:Int)
 held:c.seats.held=((aV (cz (k:Int)) h.ae:Nat):Int)
 tied:c.seats.tied=((aV (cC (k:Int)) h.ae:Nat):Int)
theorem HG.at_ {h:ai} (hg:HG h) {k:Nat} (hk:k<h.cabins.length):RA h k h.cabins[k]:=by
 have hc:=hg.ag k _ (List.getElem?_eq_getElem hk);simp only[iU,gb,gX,Bool.and_eq_true,decide_eq_true_eq,beq_iff_eq] at hc;obtain⟨a,b,⟨c,d,e⟩,f,g,i,j⟩:=hc;exact⟨a,c,d,e,b,f,g,i,j⟩
theorem Kr (h:ai) (k:Int) (hk:cu h k=true) (x:Int) (hx:x=gd (aB h k)):Spec Tryz.prog 97 [cG h,iA k] (aG (iR fun _=>x)):=by
 refine aF au Tryz.func97 rfl rfl (fr:=true) (fun _=>by kernel_rfl) fun P hP hA=> ?_;have hk:=Bool.and_eq_true_iff.1 hk;obtain⟨i,hi,rfl,e⟩:=yb hk.2;have hl:=qH ((dy.1 hk.1).at_ hi).gn;obtain⟨t0,t1⟩:=hl.total;obtain⟨s0,s1⟩:=hl.bp;obtain⟨u0,u1⟩:=hl.tied;cbv;refine⟨h.cabins[i],by simp,get_cast h.cabins hi, ?_⟩;cbv;refine⟨h.cabins[i],by simp,get_cast h.cabins hi, ?_⟩;cbv;refine Ar.exact (by(try simp only[nc] at *); omega) (by(try simp only[nc] at *); omega) ?_;cbv;refine⟨?_,trivial⟩;exact(hx.trans (by rw[e]; rfl)).symm
theorem Ks (h:ai) (k:Int) (hk:cu h k=true) (x:Int) (hx:x=gd (aB h k)):Spec Tryz.prog 104 [cG h,iA k] (aG (iR fun _=>x)):=by
 refine aF au Tryz.func104 rfl rfl (fr:=true) (fun _=>by kernel_rfl) fun P hP hA=> ?_;have hk:=Bool.and_eq_true_iff.1 hk;obtain⟨i,hi,rfl,e⟩:=yb hk.2;have hl:=qH ((dy.1 hk.1).at_ hi).gn;obtain⟨t0,t1⟩:=hl.total;obtain⟨s0,s1⟩:=hl.bp;obtain⟨u0,u1⟩:=hl.tied;cbv;refine⟨h.cabins[i],by simp,get_cast h.cabins hi, ?_⟩;cbv;refine⟨h.cabins[i],by simp,get_cast h.cabins hi, ?_⟩;cbv;refine Ar.exact (by(try simp only[nc] at *); omega) (by(try simp only[nc] at *); omega) ?_;cbv;refine⟨?_,trivial⟩;exact(hx.trans (by rw[e]; rfl)).symm
theorem RB {a b:bn} (h0:a.seats=b.seats) (h1:a.bX=b.bX) (h2:a.room=b.room) (h3:a.size=b.size) (h4:a.period=b.period) (h5:a.bE=b.bE) (h6:a.rest=b.rest) (h7:a.tries=b.tries) (h8:a.bm=b.bm):a=b:=by
 cases a; cases b; simp_all
def lS (a b:bn):Bool:=decide (a.seats=b.seats) && ((a.bX == b.bX) && ((a.room == b.room) && ((a.size == b.size) && ((a.period == b.period) && ((a.bE == b.bE) && ((a.rest == b.rest) && ((a.tries == b.tries) && (a.bm == b.bm))))))))
theorem Kt {a b:bn}:lS a b=decide (a=b):=by
 rw[Bool.eq_iff_iff];simp only[lS,Bool.and_eq_true,decide_eq_true_eq,beq_iff_eq]
 constructor
 · intro⟨h0,h1,h2,h3,h4,h5,h6,h7,h8⟩; exact RB h0 h1 h2 h3 h4 h5 h6 h7 h8
 · intro h; subst h; exact⟨rfl,rfl,rfl,rfl,rfl,rfl,rfl,rfl,rfl⟩
def sB (a b:List (List aC)):Bool:=bw a && (bw b && decide (bB a=bB b))
def yd (a b:bA):Bool:=(a.total == b.total) && ((a.free == b.free) && ((a.held == b.held) && ((a.bp == b.bp) && (a.tied == b.tied))))
def lh (a b:ba):Bool:=gX a && (gX b && (yd a.seats b.seats && (decide (a.row=b.row) && sB a.spoke b.spoke)))
theorem RD (a b:bn) (r:Bool) (hr:r=lS a b):Spec Tryz.prog 74 [fG a,fG b] (aG (bR fun _=>r)):=by
 refine aF au Tryz.func74 rfl rfl (fr:=true) (fun _=>by kernel_rfl) fun P hP hA=> ?_;cbv
 repeat (refine Pz.mk ?_; cbv)
 repeat' first
  | (refine af.by hP (As a.seats b.seats) ?_; cbv; repeat (refine Pz.mk ?_; cbv))
  | (refine Br.split (fun h=> ?_) (fun h=> ?_) <;> (cbv; repeat (refine Pz.mk ?_; cbv)))
  | fail
 all_goals refine⟨?_,trivial⟩
 all_goals simp_all [lS]
theorem RE (a b:bn) (r:Bool) (hr:r=lS a b):Spec Tryz.prog 60 [fG a,fG b] (aG (bR fun _=>r)):=by
 refine aF au Tryz.func60 rfl rfl (fr:=true) (fun _=>by kernel_rfl) fun P hP hA=> ?_;cbv
 repeat (refine Pz.mk ?_; cbv)
 repeat' first
  | (refine af.by hP (DX a.seats b.seats) ?_; cbv; repeat (refine Pz.mk ?_; cbv))
  | (refine Br.split (fun h=> ?_) (fun h=> ?_) <;> (cbv; repeat (refine Pz.mk ?_; cbv)))
  | fail
 all_goals refine⟨?_,trivial⟩
 all_goals simp_all [lS]
theorem RF (a b:List (List aC)) (ha:dE a) (hb:dE b) (r:Bool) (hr:r=sB a b):Spec Tryz.prog 140 [jE a,jE b] (aG (bR fun _=>r)):=by
 refine aF au Tryz.func140 rfl rfl (fr:=true) (fun _=>by kernel_rfl) fun P hP hA=> ?_;cbv
 repeat' first
  | (refine af.by hP (tX a ha (bw a) rfl) ?_; cbv)
  | (refine af.by hP (tX b hb (bw b) rfl) ?_; cbv)
  | (refine af.by hP (AK a ha (bB a) rfl) ?_; cbv)
  | (refine af.by hP (AK b hb (bB b) rfl) ?_; cbv)
  | (refine af.by hP (JY (bB a) (bB b)) ?_; cbv)
  | (refine Br.split (fun h=> ?_) (fun h=> ?_) <;> cbv)
  | fail
 all_goals refine⟨?_,trivial⟩
 all_goals simp_all [sB]
theorem RG (a b:List (List aC)) (ha:dE a) (hb:dE b) (r:Bool) (hr:r=sB a b):Spec Tryz.prog 131 [jE a,jE b] (aG (bR fun _=>r)):=by
 refine aF au Tryz.func131 rfl rfl (fr:=true) (fun _=>by kernel_rfl) fun P hP hA=> ?_;cbv
 repeat' first
  | (refine af.by hP (sy a ha (bw a) rfl) ?_; cbv)
  | (refine af.by hP (sy b hb (bw b) rfl) ?_; cbv)
  | (refine af.by hP (AL a ha (bB a) rfl) ?_; cbv)
  | (refine af.by hP (AL b hb (bB b) rfl) ?_; cbv)
  | (refine af.by hP (J0 (bB a) (bB b)) ?_; cbv)
  | (refine Br.split (fun h=> ?_) (fun h=> ?_) <;> cbv)
  | fail
 all_goals refine⟨?_,trivial⟩
 all_goals simp_all [sB]
theorem RH (a b:ba) (ha:dE a.spoke) (hb:dE b.spoke) (r:Bool) (hr:r=lh a b):Spec Tryz.prog 76 [eA .ag a,eA .ag b] (aG (bR fun _=>r)):=by
 refine aF au Tryz.func76 rfl rfl (fr:=true) (fun _=>by kernel_rfl) fun P hP hA=> ?_;cbv
 repeat' first
  | (refine af.by hP (EA a ha (gX a) rfl) ?_; cbv)
  | (refine af.by hP (EA b hb (gX b) rfl) ?_; cbv)
  | (refine af.by hP (JX a.row b.row) ?_; cbv)
  | (refine af.by hP (RF a.spoke b.spoke ha hb (sB a.spoke b.spoke) rfl) ?_; cbv)
  | (refine Br.split (fun h=> ?_) (fun h=> ?_) <;> cbv)
  | fail
 all_goals refine⟨?_,trivial⟩
 all_goals simp_all [lh,yd]
theorem RI (a b:ba) (ha:dE a.spoke) (hb:dE b.spoke) (r:Bool) (hr:r=lh a b):Spec Tryz.prog 64 [eA .ag a,eA .ag b] (aG (bR fun _=>r)):=by
 refine aF au Tryz.func64 rfl rfl (fr:=true) (fun _=>by kernel_rfl) fun P hP hA=> ?_;cbv
 repeat' first
  | (refine af.by hP (EB a ha (gX a) rfl) ?_; cbv)
  | (refine af.by hP (EB b hb (gX b) rfl) ?_; cbv)
  | (refine af.by hP (JZ a.row b.row) ?_; cbv)
  | (refine af.by hP (RG a.spoke b.spoke ha hb (sB a.spoke b.spoke) rfl) ?_; cbv)
  | (refine Br.split (fun h=> ?_) (fun h=> ?_) <;> cbv)
  | fail
 all_goals refine⟨?_,trivial⟩
 all_goals simp_all [lh,yd]
def nj (a b:List ba):Bool:=decide (a.length=b.length) && (List.zipWith lh a b).all id
theorem Ku {α:Type} {f:α→α→Bool} {a b:List α} {i:Nat} (h:i<a.length) (h':i<b.length) (e:f a[i] b[i]=false):(List.zipWith f a b).all id=false:=by
 rw[List.all_eq_false];refine⟨f a[i] b[i], ?_,by simp[e]⟩;have hl:i<(List.zipWith f a b).length:=by rw[List.length_zipWith]; omega
 have:(List.zipWith f a b)[i]=f a[i] b[i]:=List.getElem_zipWith;exact this▸List.getElem_mem hl
theorem EK {α:Type} {f:α→α→Bool} {a b:List α} (hl:a.length=b.length) (hn:∀(j:Nat) x,a[j]? = some x→∀y,b[j]? = some y→f x y=true):(List.zipWith f a b).all id=true:=by
 rw[List.all_eq_true];intro x hx;obtain⟨i,hi,e⟩:=List.mem_iff_getElem.1 hx;have h1:i<a.length:=by rw[List.length_zipWith] at hi; omega
 have h2:i<b.length:=by omega
 rw[List.getElem_zipWith] at e;rw[←e];exact hn i _ (List.getElem?_eq_getElem h1) _ (List.getElem?_eq_getElem h2)
def iE (a b:ai):Bool:=bU a && (bU b && (lS a.rules b.rules && ((a.now == b.now) && ((a.aA == b.aA) && (decide (a.ae=b.ae) && (decide (a.todo=b.todo) && (decide (a.aq=b.aq) && nj a.cabins b.cabins)))))))
def cN (h:ai) (id:Int):ax:=(h.ae[(br h.ae id).toNat]?).getD default
def qI (h:ai) (id:Int):Bool:=bU h && decide (0≤br h.ae id)
def placeOf (h:ai) (id:Int):Int:=if qI h id=true then cU (aB h (cN h id).ag).row id else -1
def jq (h:ai) (id:Int):Bool:=qI h id && ((cN h id).st == 2)
def sC (h:ai) (id:Int):aC:=if jq h id=true then⟨(cN h id).dH,id⟩ else default
structure EL (h:ai) (id:Int) (i:Nat) (c:Nat):Prop where
 lt:i<h.ae.length
 at_:br h.ae id=(i:Int)
 aE:cN h id=h.ae[i]
 id:h.ae[i].id=id
 ok:bF h.rules h.ae[i] h.now=true
 ag:h.ae[i].ag=(c:Int)
 clt:c<h.cabins.length
 WE:aB h (c:Int)=h.cabins[c]
theorem known {h:ai} {id:Int} (hg:HG h) (hk:0≤br h.ae id):∃i c,EL h id i c:=by
 rcases iC (fun p:ax=>p.id == id) h.ae with⟨e,_⟩ | ⟨i,hi,e,e1,_⟩
 · have:br h.ae id = -1:=e;omega
 · have e:br h.ae id=(i:Int):=e;have ok:=(hg.ae.ok _ (List.getElem_mem hi)).1;have Kv:=ok;simp only[bF,Bool.and_eq_true] at Kv;obtain⟨_,_,_,hc,_⟩:=Kv;obtain⟨c0,c1⟩:=bD hc;have hl:=hg.fL;refine⟨i,h.ae[i].ag.toNat,hi,e, ?_,beq_iff_eq.1 e1,ok,by omega,by omega, ?_⟩
   · rw[cN,e,Int.toNat_natCast,List.getElem?_eq_getElem hi]; rfl
   · rw[aB,Int.toNat_natCast,List.getElem?_eq_getElem (by omega)]; rfl
theorem unknown {h:ai} {id:Int} (hk:br h.ae id<0∨bU h=false):qI h id=false:=by
 rcases hk with hk | hk
 · rw[qI,decide_eq_false (by omega)]; simp
 · rw[qI,hk]; rfl
def RJ (x:Unit→aC):List Sh:=[.int .i64 fun _=>(x ()).tm, .int .i64 fun _=>(x ()).pid]
theorem EM (h:ai) (id:Int) (hs:a_ h) (x:aC) (hx:x=sC h id) (b:Bool) (hb:b=jq h id):Spec Tryz.prog 28 [cG h,iA id] (aG (.aS [(true,RJ fun _=>x),(false,[.bool fun _=>b])])):=by
 refine aF au Tryz.func28 rfl rfl (fr:=true) (fun _=>by kernel_rfl) fun P hP hA=> ?_;cbv;refine af.by hP (nV h id (br h.ae id) rfl) ?_;cbv;refine Br.dec (fun n0=> ?_) (fun n0=> ?_) <;> cbv
 · have n0:br h.ae id<0:=n0;have kn:=unknown (Or.inl n0);have e:jq h id=false:=by rw[jq,kn]; rfl
   obtain rfl:b=false:=hb.trans e;obtain rfl:x=default:=hx.trans (if_neg (by rw[e]; simp))
   repeat' first | exact trivial | refine⟨rfl, ?_⟩ | fail
 have n0:¬br h.ae id<0:=n0;refine af.by hP (qG h hs (bU h) rfl) ?_;cbv;refine Br.split (fun k0=> ?_) (fun k0=> ?_) <;> cbv
 · have k0:(!bU h)=true:=k0;have k0:bU h=false:=by simpa using k0
   have kn:=unknown (id:=id) (Or.inr k0);have e:jq h id=false:=by rw[jq,kn]; rfl
   obtain rfl:b=false:=hb.trans e;obtain rfl:x=default:=hx.trans (if_neg (by rw[e]; simp))
   repeat' first | exact trivial | refine⟨rfl, ?_⟩ | fail
 have k0:(!bU h)=false:=k0;have k0:bU h=true:=by simpa using k0
 have hg:=dy.1 k0;have kn:qI h id=true:=by rw[qI,k0,decide_eq_true (by omega)]; rfl
 obtain⟨i,c,g⟩:=known hg (by omega:0≤br h.ae id);have hi:=g.lt;have hc:=g.clt;have og:0≤br h.ae id:=by omega
 have gg:h.ae[(br h.ae id).toNat]? = some h.ae[i]:=by rw[g.at_,Int.toNat_natCast]; exact List.getElem?_eq_getElem hi
 have oc:0≤h.ae[i].ag:=by rw[g.ag]; omega
 have gc:h.cabins[h.ae[i].ag.toNat]? = some h.cabins[c]:=by rw[g.ag,Int.toNat_natCast]; exact List.getElem?_eq_getElem hc
 refine⟨h.ae[i],og,gg, ?_⟩;cbv;refine Br.split (fun k1=> ?_) (fun k1=> ?_) <;> cbv
 · have k1:(h.ae[i].st != 2)=true:=k1;have e:jq h id=false:=by rw[jq,kn,g.aE]; simpa using k1
   obtain rfl:b=false:=hb.trans e;obtain rfl:x=default:=hx.trans (if_neg (by rw[e]; simp))
   repeat' first | exact trivial | refine⟨rfl, ?_⟩ | fail
 have k1:(h.ae[i].st != 2)=false:=k1;have e:jq h id=true:=by rw[jq,kn,g.aE]; simpa using k1
 obtain rfl:b=true:=hb.trans e;obtain rfl:x=⟨h.ae[i].dH,id⟩:=hx.trans ((if_pos e).trans (by rw[g.aE]));refine⟨h.ae[i],og,gg, ?_⟩;cbv
 repeat' first | exact trivial | refine⟨rfl, ?_⟩ | fail
end Go.Proofs.YtpklefhdkkegiaaGreat

