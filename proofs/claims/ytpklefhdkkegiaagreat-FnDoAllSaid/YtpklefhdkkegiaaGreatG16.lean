/- Parts of a proof. No conditions. -/

import Derived.Test.YtpklefhdkkegiaaGreatG14
import Derived.Test.YtpklefhdkkegiaaGreatG05
import Derived.Test.YtpklefhdkkegiaaGreatG15
import Derived.Test.YtpklefhdkkegiaaGreatG07
set_option linter.unusedSimpArgs false
set_option linter.unusedVariables false
namespace Go.Proofs.YtpklefhdkkegiaaGreat
open Go
set_option maxRecDepth 100000
def jG (h:ai) (k:Int):Int:=((aV (bK k) h.ae:Nat):Int)
def iI (h:ai) (k:Int):Bool:=ak k 0 ((h.cabins.length:Int) - 1)
def yy (h:ai) (q:bS):Int:=
 if iI h q.ag=false then 4 else if ak q.al (-1) ((h.cabins.length:Int) - 1)=false then 4 else if q.al=q.ag then 4
 else if ak q.aj 1 h.rules.size=false then 5
 else if q.aO≥h.rules.bX then 6
 else if ak q.id 1 999=false then 7
 else if br h.ae q.id≥0 then 8
 else if jG h q.ag≥h.rules.room then 9
 else if q.al≠ -1∧gd (aB h q.al)<q.aj then 10
 else if h.aA>1000000 then 11 else 0
def yz (h:ai) (q:bS):Int:=
 if iI h q.ag=false then 4 else if ak q.aj 1 60=false then 5 else if gd (aB h q.ag)<q.aj then 12 else 0
def yA (h:ai) (id:Int):Int:=
 if br h.ae id<0 then 7 else if(cN h id).st≠2 then 13 else if kD (cN h id) h.now=true then 14 else 0
def vZ (h:ai) (who:Int):Int:=
 if who≥h.rules.bm then 16 else if((h.aq[who.toNat]?).getD 0) = -1∧h.todo = [] then 17 else 0
def aU (h:ai) (q:bS):Int:=
 if bU h=false then 1 else if ak q.kind 1 7=false then 2 else if eo q=false then 3
 else if q.kind=1 then yy h q
 else if q.kind=2 then(if br h.ae q.id<0 then 7 else 0)
 else if q.kind=3 then yz h q
 else if q.kind=4∨q.kind=5 then yA h q.id
 else if q.kind=6 then(if h.now=1000000 then 15 else 0)
 else vZ h q.id
theorem uf {n:Int} (h:field n=true):0≤n∧n≤9999:=by simpa [field] using h
structure Lx (q:bS):Prop where
 id:0≤q.id∧q.id≤9999
 ag:0≤q.ag∧q.ag≤9999
 al: -1≤q.al∧q.al≤9999
 aj:0≤q.aj∧q.aj≤9999
 aO:0≤q.aO∧q.aO≤9999
theorem Ff {q:bS} (h:eo q=true) (hk:q.kind=1):Lx q:=by
 rw[eo,if_pos hk] at h;simp only[Bool.and_eq_true,decide_eq_true_eq] at h;exact⟨uf h.1.1.1.1,uf h.1.1.1.2,h.1.1.2,uf h.1.2,uf h.2⟩
theorem Ly {q:bS} (h:eo q=true) (hk:q.kind=3):(0≤q.ag∧q.ag≤9999)∧0≤q.aj∧q.aj≤9999:=by
 rw[eo,if_neg (by omega),if_neg (by omega),if_pos hk] at h;simp only[Bool.and_eq_true] at h;exact⟨uf h.1.1,uf h.1.2⟩
theorem Fg {q:bS} (h:eo q=true) (hk:q.kind=7):0≤q.id∧q.id≤9999:=by
 rw[eo,if_neg (by omega),if_pos (by omega)] at h;simp only[Bool.and_eq_true] at h;exact uf h.1
theorem yB {h:ai} {q:bS} (h0:bU h=false):aU h q=1:=if_pos h0
theorem Fh {h:ai} {q:bS} (h0:bU h=true) (h1:ak q.kind 1 7=false):aU h q=2:=by simp[aU,h0,h1]
theorem Fi {h:ai} {q:bS} (h0:bU h=true) (h1:ak q.kind 1 7=true) (h2:eo q=false):aU h q=3:=by simp[aU,h0,h1,h2]
theorem Fj {h:ai} {q:bS} (h0:bU h=true) (h2:eo q=true) (k:q.kind=1):aU h q=yy h q:=by simp[aU,h0,h2,k,ak]
theorem Fk {h:ai} {q:bS} (h0:bU h=true) (h2:eo q=true) (k:q.kind=2):aU h q=if br h.ae q.id<0 then 7 else 0:=by simp[aU,h0,h2,k,ak]
theorem Ba {h:ai} {q:bS} (h0:bU h=true) (h2:eo q=true) (k:q.kind=3):aU h q=yz h q:=by simp[aU,h0,h2,k,ak]
theorem yC {h:ai} {q:bS} (h0:bU h=true) (h2:eo q=true) (k:q.kind=4∨q.kind=5):aU h q=yA h q.id:=by
 rcases k with k | k <;> simp[aU,h0,h2,k,ak]
theorem Fl {h:ai} {q:bS} (h0:bU h=true) (h2:eo q=true) (k:q.kind=6):aU h q=if h.now=1000000 then 15 else 0:=by simp[aU,h0,h2,k,ak]
theorem yD {h:ai} {q:bS} (h0:bU h=true) (h2:eo q=true) (k:q.kind=7):aU h q=vZ h q.id:=by simp[aU,h0,h2,k,ak]
theorem LA {h:ai} {k:Int} (q:(h.cabins.length:Int)≤k):iI h k=false:=by simp[iI,ak]; omega
theorem Fm {h:ai} {k:Int} (q0:0≤k) (q:k<(h.cabins.length:Int)):iI h k=true:=by simp[iI,ak]; omega
theorem Tt {h:ai} {k:Int} (q:(h.cabins.length:Int)≤k):ak k (-1) ((h.cabins.length:Int) - 1)=false:=by simp[ak]; omega
theorem Tu {h:ai} {k:Int} (q0: -1≤k) (q:k<(h.cabins.length:Int)):ak k (-1) ((h.cabins.length:Int) - 1)=true:=by simp[ak]; omega
theorem LB {h:ai} {k:Int} (k0:bU h=true) (q:ak k (-1) ((h.cabins.length:Int) - 1)=true) (n:k≠ -1):cu h k=true:=by
 have q:=bD q;rw[cu,k0]; simp[ak]; omega
theorem LC {h:ai} {k:Int} (k0:bU h=true) (q:iI h k=true):cu h k=true:=by rw[cu,k0]; exact q
theorem LD {l:List Int} (h:(((l.length:Nat):Int) == 0)=true):l = []:=by
 cases l with
 | nil=>rfl
 | cons a l=>simp at h; omega
theorem LF {l:List Int} (h:(((l.length:Nat):Int) == 0)=false):¬l = []:=by
 intro e; subst e; simp at h
set_option maxHeartbeats 4000000 in
theorem Tv (h:ai) (q:bS) (hs:a_ h) (k0:bU h=true) (jr:Lx q) (x:Int) (hx:x=yy h q):Spec Tryz.prog 95 [cG h,eA .da q] (aG (iR fun _=>x)):=by
 have s2:=hs.2.1;have hc:h.cabins.length≤1048576:=hs.2.2.1.1;refine aF au Tryz.func95 rfl rfl (fr:=true) (fun _=>by kernel_rfl) fun P hP hA=> ?_;cbv;refine Br.dec (fun j0=> ?_) (fun j0=> ?_) <;> cbv
 · have j0:q.ag≥(h.cabins.length:Int):=j0;refine⟨?_,trivial⟩;exact(hx.trans (if_pos (LA j0))).symm
 have j0:¬q.ag≥(h.cabins.length:Int):=j0;have j0:iI h q.ag=true:=Fm jr.ag.1 (by omega);have mq:=hx.trans (if_neg (by rw[j0]; simp));refine Br.dec (fun j1=> ?_) (fun j1=> ?_) <;> cbv
 · have j1:q.al≥(h.cabins.length:Int):=j1;refine⟨?_,trivial⟩;exact(mq.trans (if_pos (Tt j1))).symm
 have j1:¬q.al≥(h.cabins.length:Int):=j1;have j1:ak q.al (-1) ((h.cabins.length:Int) - 1)=true:=Tu jr.al.1 (by omega);have mq:=mq.trans (if_neg (by rw[j1]; simp));refine Br.split (fun j2=> ?_) (fun j2=> ?_) <;> cbv
 · have j2:(q.al == q.ag)=true:=j2;refine⟨?_,trivial⟩;exact(mq.trans (if_pos (by simpa using j2))).symm
 have j2:(q.al == q.ag)=false:=j2;have j2:¬q.al=q.ag:=by simpa using j2
 refine af.by hP (dn q.aj 1 h.rules.size) ?_;cbv;refine Br.split (fun j3=> ?_) (fun j3=> ?_) <;> cbv
 · have j3:(!ak q.aj 1 h.rules.size)=true:=j3;have j3:ak q.aj 1 h.rules.size=false:=by simpa using j3
   refine⟨?_,trivial⟩;exact(mq.trans ((if_neg j2).trans (if_pos j3))).symm
 have j3:(!ak q.aj 1 h.rules.size)=false:=j3;have j3:ak q.aj 1 h.rules.size=true:=by simpa using j3
 have hx:=mq.trans ((if_neg j2).trans (if_neg (by rw[j3]; simp)));refine Br.dec (fun j4=> ?_) (fun j4=> ?_) <;> cbv
 · have j4:q.aO≥h.rules.bX:=j4;refine⟨?_,trivial⟩;exact(hx.trans (if_pos j4)).symm
 have j4:¬q.aO≥h.rules.bX:=j4;have hx:=hx.trans (if_neg j4);refine af.by hP (dn q.id 1 999) ?_;cbv;refine Br.split (fun j5=> ?_) (fun j5=> ?_) <;> cbv
 · have j5:(!ak q.id 1 999)=true:=j5;have j5:ak q.id 1 999=false:=by simpa using j5
   refine⟨?_,trivial⟩;exact(hx.trans (if_pos j5)).symm
 have j5:(!ak q.id 1 999)=false:=j5;have j5:ak q.id 1 999=true:=by simpa using j5
 have hx:=hx.trans (if_neg (by rw[j5]; simp));refine af.by hP (sw h q.id (br h.ae q.id) rfl) ?_;cbv;refine Br.dec (fun j6=> ?_) (fun j6=> ?_) <;> cbv
 · have j6:br h.ae q.id≥0:=j6;refine⟨?_,trivial⟩;exact(hx.trans (if_pos j6)).symm
 have j6:¬br h.ae q.id≥0:=j6;have hx:=hx.trans (if_neg j6);refine af.by hP (AB h.ae q.ag s2) ?_;cbv;refine Br.dec (fun j7=> ?_) (fun j7=> ?_) <;> cbv
 · have j7:jG h q.ag≥h.rules.room:=j7;refine⟨?_,trivial⟩;exact(hx.trans (if_pos j7)).symm
 have j7:¬jG h q.ag≥h.rules.room:=j7;have jv:(if jG h q.ag≥h.rules.room then(9:Int) else if q.al≠ -1∧gd (aB h q.al)<q.aj then 10 else if h.aA>1000000 then 11 else 0)=if q.al≠ -1∧gd (aB h q.al)<q.aj then 10 else if h.aA>1000000 then 11 else 0:=if_neg j7
 refine Br.dec (fun j8=> ?_) (fun j8=> ?_) <;> cbv
 · have j8:q.al≠ -1:=by have j8:q.al≥0:=j8; omega
   refine af.by hP (Kr h q.al (LB k0 j1 j8) (gd (aB h q.al)) rfl) ?_;cbv;refine Br.dec (fun j9=> ?_) (fun j9=> ?_) <;> cbv
   · have j9:gd (aB h q.al)<q.aj:=j9;refine⟨?_,trivial⟩;exact(hx.trans (jv.trans (if_pos ⟨j8,j9⟩))).symm
   have j9:¬gd (aB h q.al)<q.aj:=j9;refine Br.dec (fun fv=> ?_) (fun fv=> ?_) <;> cbv
   · have fv:h.aA>1000000:=fv;refine⟨?_,trivial⟩;exact(hx.trans (by rw[jv,if_neg fun z=>j9 z.2,if_pos fv])).symm
   · have fv:¬h.aA>1000000:=fv;refine⟨?_,trivial⟩;exact(hx.trans (by rw[jv,if_neg fun z=>j9 z.2,if_neg fv])).symm
 · have j8:q.al = -1:=by have j8:¬q.al≥0:=j8; have:=jr.al; omega
   refine Br.dec (fun fv=> ?_) (fun fv=> ?_) <;> cbv
   · have fv:h.aA>1000000:=fv;refine⟨?_,trivial⟩;exact(hx.trans (by rw[jv,if_neg fun z=>z.1 j8,if_pos fv])).symm
   · have fv:¬h.aA>1000000:=fv;refine⟨?_,trivial⟩;exact(hx.trans (by rw[jv,if_neg fun z=>z.1 j8,if_neg fv])).symm
set_option maxHeartbeats 4000000 in
theorem LG (h:ai) (id:Int) (hs:a_ h) (k0:bU h=true) (x:Int) (hx:x=yA h id):Spec Tryz.prog 98 [cG h,iA id] (aG (iR fun _=>x)):=by
 have s2:=hs.2.1;have hc:h.cabins.length≤1048576:=hs.2.2.1.1;have hg:=dy.1 k0;refine aF au Tryz.func98 rfl rfl (fr:=true) (fun _=>by kernel_rfl) fun P hP hA=> ?_;cbv;refine af.by hP (sw h id (br h.ae id) rfl) ?_;cbv;refine Br.dec (fun a0=> ?_) (fun a0=> ?_) <;> cbv
 · have a0:br h.ae id<0:=a0;refine⟨?_,trivial⟩;exact(hx.trans (if_pos a0)).symm
 have a0:¬br h.ae id<0:=a0;have hx:=hx.trans (if_neg a0);obtain⟨i,c,g⟩:=known hg (by omega:0≤br h.ae id);have hi:=g.lt;have og:0≤br h.ae id:=by omega
 have gg:h.ae[(br h.ae id).toNat]? = some h.ae[i]:=by rw[g.at_,Int.toNat_natCast]; exact List.getElem?_eq_getElem hi
 rw[g.aE] at hx;refine⟨h.ae[i],og,gg, ?_⟩;cbv;refine Br.split (fun a1=> ?_) (fun a1=> ?_) <;> cbv
 · have a1:(h.ae[i].st != 2)=true:=a1;refine⟨?_,trivial⟩;exact(hx.trans (if_pos (by simpa using a1))).symm
 have a1:(h.ae[i].st != 2)=false:=a1;have hx:=hx.trans (if_neg (by simpa using a1));refine⟨h.ae[i],og,gg, ?_⟩;cbv;refine af.by hP (Qx h.ae[i] h.now) ?_;cbv;refine Br.split (fun a2=> ?_) (fun a2=> ?_) <;> cbv
 · have a2:kD h.ae[i] h.now=true:=a2;refine⟨?_,trivial⟩;exact(hx.trans (if_pos a2)).symm
 · have a2:kD h.ae[i] h.now=false:=a2;refine⟨?_,trivial⟩;exact(hx.trans (if_neg (by rw[a2]; simp))).symm
set_option maxHeartbeats 4000000 in
theorem iY (h:ai) (q:bS) (hs:a_ h) (x:Int) (hx:x=aU h q):Spec Tryz.prog 32 [cG h,eA .da q] (aG (iR fun _=>x)):=by
 have s2:=hs.2.1;have hc:h.cabins.length≤1048576:=hs.2.2.1.1;refine aF au Tryz.func32 rfl rfl (fr:=true) (fun _=>by kernel_rfl) fun P hP hA=> ?_;cbv;refine af.by hP (kF h hs (bU h) rfl) ?_;cbv;refine Br.split (fun k0=> ?_) (fun k0=> ?_) <;> cbv
 · have k0:(!bU h)=true:=k0;refine⟨?_,trivial⟩;exact(hx.trans (yB (by simpa using k0))).symm
 have k0:(!bU h)=false:=k0;have k0:bU h=true:=by simpa using k0
 refine af.by hP (dn q.kind 1 7) ?_;cbv;refine Br.split (fun k1=> ?_) (fun k1=> ?_) <;> cbv
 · have k1:(!ak q.kind 1 7)=true:=k1;refine⟨?_,trivial⟩;exact(hx.trans (Fh k0 (by simpa using k1))).symm
 have k1:(!ak q.kind 1 7)=false:=k1;have k1:ak q.kind 1 7=true:=by simpa using k1
 refine af.by hP (Qj q (eo q) rfl) ?_;cbv;refine Br.split (fun k2=> ?_) (fun k2=> ?_) <;> cbv
 · have k2:(!eo q)=true:=k2;refine⟨?_,trivial⟩;exact(hx.trans (Fi k0 k1 (by simpa using k2))).symm
 have k2:(!eo q)=false:=k2;have k2:eo q=true:=by simpa using k2
 have hg:=dy.1 k0;have kr:=bD k1;refine Br.split (fun c1=> ?_) (fun c1=> ?_) <;> cbv
 · have kk:q.kind=1:=by have c1:(q.kind == 1)=true:=c1; simpa using c1
   have jr:=Ff k2 kk;have hx:=hx.trans (Fj k0 k2 kk);refine af.by hP (Tv h q hs k0 jr x hx) ?_;cbv
   repeat' first | exact trivial | refine⟨rfl, ?_⟩ | fail
 have c1:¬q.kind=1:=by have c1:(q.kind == 1)=false:=c1; simpa using c1
 refine Br.split (fun c2=> ?_) (fun c2=> ?_) <;> cbv
 · have kk:q.kind=2:=by have c2:(q.kind == 2)=true:=c2; simpa using c2
   have hx:=hx.trans (Fk k0 k2 kk);refine af.by hP (sw h q.id (br h.ae q.id) rfl) ?_;cbv;refine Br.dec (fun a0=> ?_) (fun a0=> ?_) <;> cbv
   · have a0:br h.ae q.id<0:=a0;refine⟨?_,trivial⟩;exact(hx.trans (if_pos a0)).symm
   · have a0:¬br h.ae q.id<0:=a0;refine⟨?_,trivial⟩;exact(hx.trans (if_neg a0)).symm
 have c2:¬q.kind=2:=by have c2:(q.kind == 2)=false:=c2; simpa using c2
 refine Br.split (fun c3=> ?_) (fun c3=> ?_) <;> cbv
 · have kk:q.kind=3:=by have c3:(q.kind == 3)=true:=c3; simpa using c3
   have hx:=hx.trans (Ba k0 k2 kk);have fr:=Ly k2 kk;refine Br.dec (fun j0=> ?_) (fun j0=> ?_) <;> cbv
   · have j0:q.ag≥(h.cabins.length:Int):=j0;refine⟨?_,trivial⟩;exact(hx.trans (if_pos (LA j0))).symm
   have j0:¬q.ag≥(h.cabins.length:Int):=j0;have j0:iI h q.ag=true:=Fm fr.1.1 (by omega);have hx:=hx.trans (if_neg (by rw[j0]; simp));refine af.by hP (dn q.aj 1 60) ?_;cbv;refine Br.split (fun f1=> ?_) (fun f1=> ?_) <;> cbv
   · have f1:(!ak q.aj 1 60)=true:=f1;refine⟨?_,trivial⟩;exact(hx.trans (if_pos (by simpa using f1))).symm
   have f1:(!ak q.aj 1 60)=false:=f1;have hx:=hx.trans (if_neg (by simpa using f1));refine af.by hP (Kr h q.ag (LC k0 j0) (gd (aB h q.ag)) rfl) ?_;cbv;refine Br.dec (fun f2=> ?_) (fun f2=> ?_) <;> cbv
   · have f2:gd (aB h q.ag)<q.aj:=f2;refine⟨?_,trivial⟩;exact(hx.trans (if_pos f2)).symm
   · have f2:¬gd (aB h q.ag)<q.aj:=f2;refine⟨?_,trivial⟩;exact(hx.trans (if_neg f2)).symm
 have c3:¬q.kind=3:=by have c3:(q.kind == 3)=false:=c3; simpa using c3
 refine Br.split (fun c4=> ?_) (fun c4=> ?_) <;> cbv
 · have kk:q.kind=4:=by have c4:(q.kind == 4)=true:=c4; simpa using c4
   have hx:=hx.trans (yC k0 k2 (Or.inl kk));refine Br.split (fun d4=> ?_) (fun d4=> ?_) <;> cbv
   · refine af.by hP (LG h q.id hs k0 x hx) ?_;cbv
     repeat' first | exact trivial | refine⟨rfl, ?_⟩ | fail
   · exfalso;have d4:(q.kind == 4)=false:=d4;rw[kk] at d4; cases d4
 have c4:¬q.kind=4:=by have c4:(q.kind == 4)=false:=c4; simpa using c4
 refine Br.split (fun c5=> ?_) (fun c5=> ?_) <;> cbv
 · have kk:q.kind=5:=by have c5:(q.kind == 5)=true:=c5; simpa using c5
   have hx:=hx.trans (yC k0 k2 (Or.inr kk));refine af.by hP (LG h q.id hs k0 x hx) ?_;cbv
   repeat' first | exact trivial | refine⟨rfl, ?_⟩ | fail
 have c5:¬q.kind=5:=by have c5:(q.kind == 5)=false:=c5; simpa using c5
 refine Br.split (fun c6=> ?_) (fun c6=> ?_) <;> cbv
 · have kk:q.kind=6:=by have c6:(q.kind == 6)=true:=c6; simpa using c6
   have hx:=hx.trans (Fl k0 k2 kk);have hn:=bD hg.now;refine Br.dec (fun t0=> ?_) (fun t0=> ?_) <;> cbv
   · have t0:h.now≥1000000:=t0;refine⟨?_,trivial⟩;exact(hx.trans (if_pos (by omega))).symm
   · have t0:¬h.now≥1000000:=t0;refine⟨?_,trivial⟩;exact(hx.trans (if_neg (by omega))).symm
 have c6:¬q.kind=6:=by have c6:(q.kind == 6)=false:=c6; simpa using c6
 refine Br.split (fun c7=> ?_) (fun c7=> ?_) <;> cbv
 · have kk:q.kind=7:=by have c7:(q.kind == 7)=true:=c7; simpa using c7
   have hx:=hx.trans (yD k0 k2 kk);have pr:=Fg k2 kk;refine Br.dec (fun p0=> ?_) (fun p0=> ?_) <;> cbv
   · have p0:q.id≥h.rules.bm:=p0;refine⟨?_,trivial⟩;exact(hx.trans (if_pos p0)).symm
   have p0:¬q.id≥h.rules.bm:=p0;have hx:=hx.trans (if_neg p0);have cr:=hg.bm;have hj:q.id.toNat<h.aq.length:=by omega
   have op:0≤q.id:=pr.1;have gp:h.aq[q.id.toNat]? = some h.aq[q.id.toNat]:=List.getElem?_eq_getElem hj;rw[gp] at hx;have hx:x=if h.aq[q.id.toNat] = -1∧h.todo = [] then 17 else 0:=hx
   have jj:=bD (hg.aq.aq _ (List.getElem_mem hj));refine⟨h.aq[q.id.toNat],op,gp, ?_⟩;cbv;refine Br.dec (fun p1=> ?_) (fun p1=> ?_) <;> cbv
   · have p1:h.aq[q.id.toNat] = -1:=by have p1:h.aq[q.id.toNat]<0:=p1; omega
     refine Br.split (fun p2=> ?_) (fun p2=> ?_) <;> cbv
     · have p2:(((h.todo.length:Nat):Int) == 0)=true:=p2;refine⟨?_,trivial⟩;exact(hx.trans (if_pos ⟨p1,LD p2⟩)).symm
     · have p2:(((h.todo.length:Nat):Int) == 0)=false:=p2;refine⟨?_,trivial⟩;exact(hx.trans (if_neg fun z=>LF p2 z.2)).symm
   · have p1:¬h.aq[q.id.toNat] = -1:=by have p1:¬h.aq[q.id.toNat]<0:=p1; omega
     refine⟨?_,trivial⟩;exact(hx.trans (if_neg fun z=>p1 z.1)).symm
 have c7:¬q.kind=7:=by have c7:(q.kind == 7)=false:=c7; simpa using c7
 exfalso; omega
set_option maxHeartbeats 4000000 in
theorem jH (h:ai) (q:bS) (hs:a_ h) (x:Int) (hx:x=aU h q):Spec Tryz.prog 37 [cG h,eA .da q] (aG (iR fun _=>x)):=by
 have s2:=hs.2.1;have hc:h.cabins.length≤1048576:=hs.2.2.1.1;refine aF au Tryz.func37 rfl rfl (fr:=true) (fun _=>by kernel_rfl) fun P hP hA=> ?_;cbv;refine af.by hP (qG h hs (bU h) rfl) ?_;cbv;refine Br.split (fun k0=> ?_) (fun k0=> ?_) <;> cbv
 · have k0:(!bU h)=true:=k0;refine⟨?_,trivial⟩;exact(hx.trans (yB (by simpa using k0))).symm
 have k0:(!bU h)=false:=k0;have k0:bU h=true:=by simpa using k0
 refine af.by hP (di q.kind 1 7) ?_;cbv;refine Br.split (fun k1=> ?_) (fun k1=> ?_) <;> cbv
 · have k1:(!ak q.kind 1 7)=true:=k1;refine⟨?_,trivial⟩;exact(hx.trans (Fh k0 (by simpa using k1))).symm
 have k1:(!ak q.kind 1 7)=false:=k1;have k1:ak q.kind 1 7=true:=by simpa using k1
 refine af.by hP (Qk q (eo q) rfl) ?_;cbv;refine Br.split (fun k2=> ?_) (fun k2=> ?_) <;> cbv
 · have k2:(!eo q)=true:=k2;refine⟨?_,trivial⟩;exact(hx.trans (Fi k0 k1 (by simpa using k2))).symm
 have k2:(!eo q)=false:=k2;have k2:eo q=true:=by simpa using k2
 have hg:=dy.1 k0;have kr:=bD k1;refine Br.split (fun c1=> ?_) (fun c1=> ?_) <;> cbv
 · have kk:q.kind=1:=by have c1:(q.kind == 1)=true:=c1; simpa using c1
   have jr:=Ff k2 kk;have hx:=hx.trans (Fj k0 k2 kk);refine af.by hP (pq q.ag (h.cabins.length:Int) (by omega) (by omega)) ?_;cbv;refine Br.split (fun j0=> ?_) (fun j0=> ?_) <;> cbv
   · have j0:(!iI h q.ag)=true:=j0;have j0:iI h q.ag=false:=by simpa using j0
     refine⟨?_,trivial⟩;exact(hx.trans (if_pos j0)).symm
   have j0:(!iI h q.ag)=false:=j0;have j0:iI h q.ag=true:=by simpa using j0
   have mq:=hx.trans (if_neg (by rw[j0]; simp));refine Ar.exact (by(try simp only[nc] at *); omega) (by(try simp only[nc] at *); omega) ?_;cbv;refine af.by hP (di q.al (-1) ((h.cabins.length:Int) - 1)) ?_;cbv;refine Br.split (fun j1=> ?_) (fun j1=> ?_) <;> cbv
   · have j1:(!ak q.al (-1) ((h.cabins.length:Int) - 1))=true:=j1;refine⟨?_,trivial⟩;exact(mq.trans (if_pos (by simpa using j1))).symm
   have j1:(!ak q.al (-1) ((h.cabins.length:Int) - 1))=false:=j1;have j1:ak q.al (-1) ((h.cabins.length:Int) - 1)=true:=by simpa using j1
   have mq:=mq.trans (if_neg (by rw[j1]; simp));refine Br.split (fun j2=> ?_) (fun j2=> ?_) <;> cbv
   · have j2:(q.al == q.ag)=true:=j2;refine⟨?_,trivial⟩;exact(mq.trans (if_pos (by simpa using j2))).symm
   have j2:(q.al == q.ag)=false:=j2;have j2:¬q.al=q.ag:=by simpa using j2
   refine af.by hP (di q.aj 1 h.rules.size) ?_;cbv;refine Br.split (fun j3=> ?_) (fun j3=> ?_) <;> cbv
   · have j3:(!ak q.aj 1 h.rules.size)=true:=j3;have j3:ak q.aj 1 h.rules.size=false:=by simpa using j3
     refine⟨?_,trivial⟩;exact(mq.trans ((if_neg j2).trans (if_pos j3))).symm
   have j3:(!ak q.aj 1 h.rules.size)=false:=j3;have j3:ak q.aj 1 h.rules.size=true:=by simpa using j3
   have hx:=mq.trans ((if_neg j2).trans (if_neg (by rw[j3]; simp)));refine Br.dec (fun j4=> ?_) (fun j4=> ?_) <;> cbv
   · have j4:q.aO≥h.rules.bX:=j4;refine⟨?_,trivial⟩;exact(hx.trans (if_pos j4)).symm
   have j4:¬q.aO≥h.rules.bX:=j4;have hx:=hx.trans (if_neg j4);refine af.by hP (di q.id 1 999) ?_;cbv;refine Br.split (fun j5=> ?_) (fun j5=> ?_) <;> cbv
   · have j5:(!ak q.id 1 999)=true:=j5;have j5:ak q.id 1 999=false:=by simpa using j5
     refine⟨?_,trivial⟩;exact(hx.trans (if_pos j5)).symm
   have j5:(!ak q.id 1 999)=false:=j5;have j5:ak q.id 1 999=true:=by simpa using j5
   have hx:=hx.trans (if_neg (by rw[j5]; simp));refine af.by hP (nV h q.id (br h.ae q.id) rfl) ?_;cbv;refine Br.dec (fun j6=> ?_) (fun j6=> ?_) <;> cbv
   · have j6:br h.ae q.id≥0:=j6;refine⟨?_,trivial⟩;exact(hx.trans (if_pos j6)).symm
   have j6:¬br h.ae q.id≥0:=j6;have hx:=hx.trans (if_neg j6);refine af.by hP (D_ h.ae q.ag s2) ?_;cbv;refine Br.dec (fun j7=> ?_) (fun j7=> ?_) <;> cbv
   · have j7:jG h q.ag≥h.rules.room:=j7;refine⟨?_,trivial⟩;exact(hx.trans (if_pos j7)).symm
   have j7:¬jG h q.ag≥h.rules.room:=j7;have jv:(if jG h q.ag≥h.rules.room then(9:Int) else if q.al≠ -1∧gd (aB h q.al)<q.aj then 10 else if h.aA>1000000 then 11 else 0)=if q.al≠ -1∧gd (aB h q.al)<q.aj then 10 else if h.aA>1000000 then 11 else 0:=if_neg j7
   refine Br.split (fun j8=> ?_) (fun j8=> ?_) <;> cbv
   · have j8:q.al≠ -1:=by have j8:(q.al != -1)=true:=j8; simpa using j8
     refine af.by hP (Ks h q.al (LB k0 j1 j8) (gd (aB h q.al)) rfl) ?_;cbv;refine Br.dec (fun j9=> ?_) (fun j9=> ?_) <;> cbv
     · have j9:gd (aB h q.al)<q.aj:=j9;refine⟨?_,trivial⟩;exact(hx.trans (jv.trans (if_pos ⟨j8,j9⟩))).symm
     have j9:¬gd (aB h q.al)<q.aj:=j9;refine Br.dec (fun fv=> ?_) (fun fv=> ?_) <;> cbv
     · have fv:h.aA>1000000:=fv;refine⟨?_,trivial⟩;exact(hx.trans (by rw[jv,if_neg fun z=>j9 z.2,if_pos fv])).symm
     · have fv:¬h.aA>1000000:=fv;refine⟨?_,trivial⟩;exact(hx.trans (by rw[jv,if_neg fun z=>j9 z.2,if_neg fv])).symm
   · have j8:q.al = -1:=by have j8:(q.al != -1)=false:=j8; simpa using j8
     refine Br.dec (fun fv=> ?_) (fun fv=> ?_) <;> cbv
     · have fv:h.aA>1000000:=fv;refine⟨?_,trivial⟩;exact(hx.trans (by rw[jv,if_neg fun z=>z.1 j8,if_pos fv])).symm
     · have fv:¬h.aA>1000000:=fv;refine⟨?_,trivial⟩;exact(hx.trans (by rw[jv,if_neg fun z=>z.1 j8,if_neg fv])).symm
 have c1:¬q.kind=1:=by have c1:(q.kind == 1)=false:=c1; simpa using c1
 refine Br.split (fun c2=> ?_) (fun c2=> ?_) <;> cbv
 · have kk:q.kind=2:=by have c2:(q.kind == 2)=true:=c2; simpa using c2
   have hx:=hx.trans (Fk k0 k2 kk);refine af.by hP (nV h q.id (br h.ae q.id) rfl) ?_;cbv;refine Br.dec (fun a0=> ?_) (fun a0=> ?_) <;> cbv
   · have a0:br h.ae q.id<0:=a0;refine⟨?_,trivial⟩;exact(hx.trans (if_pos a0)).symm
   · have a0:¬br h.ae q.id<0:=a0;refine⟨?_,trivial⟩;exact(hx.trans (if_neg a0)).symm
 have c2:¬q.kind=2:=by have c2:(q.kind == 2)=false:=c2; simpa using c2
 refine Br.split (fun c3=> ?_) (fun c3=> ?_) <;> cbv
 · have kk:q.kind=3:=by have c3:(q.kind == 3)=true:=c3; simpa using c3
   have hx:=hx.trans (Ba k0 k2 kk);have fr:=Ly k2 kk;refine af.by hP (pq q.ag (h.cabins.length:Int) (by omega) (by omega)) ?_;cbv;refine Br.split (fun j0=> ?_) (fun j0=> ?_) <;> cbv
   · have j0:(!iI h q.ag)=true:=j0;have j0:iI h q.ag=false:=by simpa using j0
     refine⟨?_,trivial⟩;exact(hx.trans (if_pos j0)).symm
   have j0:(!iI h q.ag)=false:=j0;have j0:iI h q.ag=true:=by simpa using j0
   have hx:=hx.trans (if_neg (by rw[j0]; simp));refine af.by hP (di q.aj 1 60) ?_;cbv;refine Br.split (fun f1=> ?_) (fun f1=> ?_) <;> cbv
   · have f1:(!ak q.aj 1 60)=true:=f1;refine⟨?_,trivial⟩;exact(hx.trans (if_pos (by simpa using f1))).symm
   have f1:(!ak q.aj 1 60)=false:=f1;have hx:=hx.trans (if_neg (by simpa using f1));refine af.by hP (Ks h q.ag (LC k0 j0) (gd (aB h q.ag)) rfl) ?_;cbv;refine Br.dec (fun f2=> ?_) (fun f2=> ?_) <;> cbv
   · have f2:gd (aB h q.ag)<q.aj:=f2;refine⟨?_,trivial⟩;exact(hx.trans (if_pos f2)).symm
   · have f2:¬gd (aB h q.ag)<q.aj:=f2;refine⟨?_,trivial⟩;exact(hx.trans (if_neg f2)).symm
 have c3:¬q.kind=3:=by have c3:(q.kind == 3)=false:=c3; simpa using c3
 refine Br.split (fun c4=> ?_) (fun c4=> ?_) <;> cbv
 · have kk:q.kind=4:=by have c4:(q.kind == 4)=true:=c4; simpa using c4
   have hx:=hx.trans (yC k0 k2 (Or.inl kk));refine Br.split (fun d4=> ?_) (fun d4=> ?_) <;> cbv
   · refine af.by hP (nV h q.id (br h.ae q.id) rfl) ?_;cbv;refine Br.dec (fun a0=> ?_) (fun a0=> ?_) <;> cbv
     · have a0:br h.ae q.id<0:=a0;refine⟨?_,trivial⟩;exact(hx.trans (if_pos a0)).symm
     have a0:¬br h.ae q.id<0:=a0;have hx:=hx.trans (if_neg a0);obtain⟨i,c,g⟩:=known hg (by omega:0≤br h.ae q.id);have hi:=g.lt;have og:0≤br h.ae q.id:=by omega
     have gg:h.ae[(br h.ae q.id).toNat]? = some h.ae[i]:=by rw[g.at_,Int.toNat_natCast]; exact List.getElem?_eq_getElem hi
     rw[g.aE] at hx;refine⟨h.ae[i],og,gg, ?_⟩;cbv;refine Br.split (fun a1=> ?_) (fun a1=> ?_) <;> cbv
     · have a1:(h.ae[i].st != 2)=true:=a1;refine⟨?_,trivial⟩;exact(hx.trans (if_pos (by simpa using a1))).symm
     have a1:(h.ae[i].st != 2)=false:=a1;have hx:=hx.trans (if_neg (by simpa using a1));refine⟨h.ae[i],og,gg, ?_⟩;cbv;refine af.by hP (Jz h.ae[i] h.now) ?_;cbv;refine Br.split (fun a2=> ?_) (fun a2=> ?_) <;> cbv
     · have a2:kD h.ae[i] h.now=true:=a2;refine⟨?_,trivial⟩;exact(hx.trans (if_pos a2)).symm
     · have a2:kD h.ae[i] h.now=false:=a2;refine⟨?_,trivial⟩;exact(hx.trans (if_neg (by rw[a2]; simp))).symm
   · exfalso;have d4:(q.kind == 4)=false:=d4;rw[kk] at d4; cases d4
 have c4:¬q.kind=4:=by have c4:(q.kind == 4)=false:=c4; simpa using c4
 refine Br.split (fun c5=> ?_) (fun c5=> ?_) <;> cbv
 · have kk:q.kind=5:=by have c5:(q.kind == 5)=true:=c5; simpa using c5
   have hx:=hx.trans (yC k0 k2 (Or.inr kk));refine af.by hP (nV h q.id (br h.ae q.id) rfl) ?_;cbv;refine Br.dec (fun a0=> ?_) (fun a0=> ?_) <;> cbv
   · have a0:br h.ae q.id<0:=a0;refine⟨?_,trivial⟩;exact(hx.trans (if_pos a0)).symm
   have a0:¬br h.ae q.id<0:=a0;have hx:=hx.trans (if_neg a0);obtain⟨i,c,g⟩:=known hg (by omega:0≤br h.ae q.id);have hi:=g.lt;have og:0≤br h.ae q.id:=by omega
   have gg:h.ae[(br h.ae q.id).toNat]? = some h.ae[i]:=by rw[g.at_,Int.toNat_natCast]; exact List.getElem?_eq_getElem hi
   rw[g.aE] at hx;refine⟨h.ae[i],og,gg, ?_⟩;cbv;refine Br.split (fun a1=> ?_) (fun a1=> ?_) <;> cbv
   · have a1:(h.ae[i].st != 2)=true:=a1;refine⟨?_,trivial⟩;exact(hx.trans (if_pos (by simpa using a1))).symm
   have a1:(h.ae[i].st != 2)=false:=a1;have hx:=hx.trans (if_neg (by simpa using a1));refine⟨h.ae[i],og,gg, ?_⟩;cbv;refine af.by hP (Jz h.ae[i] h.now) ?_;cbv;refine Br.split (fun a2=> ?_) (fun a2=> ?_) <;> cbv
   · have a2:kD h.ae[i] h.now=true:=a2;refine⟨?_,trivial⟩;exact(hx.trans (if_pos a2)).symm
   · have a2:kD h.ae[i] h.now=false:=a2;refine⟨?_,trivial⟩;exact(hx.trans (if_neg (by rw[a2]; simp))).symm
 have c5:¬q.kind=5:=by have c5:(q.kind == 5)=false:=c5; simpa using c5
 refine Br.split (fun c6=> ?_) (fun c6=> ?_) <;> cbv
 · have kk:q.kind=6:=by have c6:(q.kind == 6)=true:=c6; simpa using c6
   have hx:=hx.trans (Fl k0 k2 kk);have hn:=bD hg.now;refine Br.split (fun t0=> ?_) (fun t0=> ?_) <;> cbv
   · have t0:(h.now == 1000000)=true:=t0;refine⟨?_,trivial⟩;exact(hx.trans (if_pos (by simpa using t0))).symm
   · have t0:(h.now == 1000000)=false:=t0;refine⟨?_,trivial⟩;exact(hx.trans (if_neg (by simpa using t0))).symm
 have c6:¬q.kind=6:=by have c6:(q.kind == 6)=false:=c6; simpa using c6
 refine Br.split (fun c7=> ?_) (fun c7=> ?_) <;> cbv
 · have kk:q.kind=7:=by have c7:(q.kind == 7)=true:=c7; simpa using c7
   have hx:=hx.trans (yD k0 k2 kk);have pr:=Fg k2 kk;refine Br.dec (fun p0=> ?_) (fun p0=> ?_) <;> cbv
   · have p0:q.id≥h.rules.bm:=p0;refine⟨?_,trivial⟩;exact(hx.trans (if_pos p0)).symm
   have p0:¬q.id≥h.rules.bm:=p0;have hx:=hx.trans (if_neg p0);have cr:=hg.bm;have hj:q.id.toNat<h.aq.length:=by omega
   have op:0≤q.id:=pr.1;have gp:h.aq[q.id.toNat]? = some h.aq[q.id.toNat]:=List.getElem?_eq_getElem hj;rw[gp] at hx;have hx:x=if h.aq[q.id.toNat] = -1∧h.todo = [] then 17 else 0:=hx
   have jj:=bD (hg.aq.aq _ (List.getElem_mem hj));refine⟨h.aq[q.id.toNat],op,gp, ?_⟩;cbv;refine Br.split (fun p1=> ?_) (fun p1=> ?_) <;> cbv
   · have p1:h.aq[q.id.toNat] = -1:=by have p1:(h.aq[q.id.toNat] == -1)=true:=p1; simpa using p1
     refine Br.split (fun p2=> ?_) (fun p2=> ?_) <;> cbv
     · have p2:(((h.todo.length:Nat):Int) == 0)=true:=p2;refine⟨?_,trivial⟩;exact(hx.trans (if_pos ⟨p1,LD p2⟩)).symm
     · have p2:(((h.todo.length:Nat):Int) == 0)=false:=p2;refine⟨?_,trivial⟩;exact(hx.trans (if_neg fun z=>LF p2 z.2)).symm
   · have p1:¬h.aq[q.id.toNat] = -1:=by have p1:(h.aq[q.id.toNat] == -1)=false:=p1; simpa using p1
     refine⟨?_,trivial⟩;exact(hx.trans (if_neg fun z=>p1 z.1)).symm
 have c7:¬q.kind=7:=by have c7:(q.kind == 7)=false:=c7; simpa using c7
 exfalso; omega
def dF (w:List (List aC)) (now:Int):List aC:=(bB w).filter fun p=>decide (p.tm≤now)
def sO (c:ba) (now:Int):List Int:=(dF c.spoke now).map fun p=>p.pid
def bj (h:ai) (k:Int):List Int:=if cu h k=true then sO (aB h k) h.now else[]
theorem Fo (w:List (List aC)):(bB w).length≤10:=by
 rcases hb:bw w with _ | _
 · rw[Ez hb]; simp
 · rw[Ey hb,mb]; exact(AJ hb).dj
theorem Fp (w:List (List aC)) (now:Int):(dF w now).length≤10:=Nat.le_trans (List.length_filter_le _ _) (Fo w)
theorem LH {α:Type} {q:α→Bool} {l:List α} {i:Nat} (h:i<l.length) (hq:q l[i]=true):(l.take i).filter q ++ [l[i]]=(l.take (i+1)).filter q:=by
 rw[List.take_add_one,List.getElem?_eq_getElem h,List.filter_append]; simp[hq]
theorem LI {α:Type} {q:α→Bool} {l:List α} {i:Nat} (h:i<l.length) (hq:q l[i]=false):(l.take i).filter q=(l.take (i+1)).filter q:=by
 rw[List.take_add_one,List.getElem?_eq_getElem h,List.filter_append]; simp[hq]
theorem sP {α:Type} {l:List α} {d:α} {i:Nat} (h:i<l.length):l.getD ((i:Int)).toNat d=l[i]:=by rw[Int.toNat_natCast,List.getD_eq_getElem?_getD,List.getElem?_eq_getElem h]; rfl
set_option maxHeartbeats 1000000 in
theorem Tw (w:List (List aC)) (hw:dE w) (now:Int) (x:List aC) (hx:x=dF w now):Spec Tryz.prog 137 [jE w,iA now] (aG (lR .aI fun _=>x)):=by
 have dj:=Fo w;refine aF au Tryz.func137 rfl rfl (fr:=true) (fun _=>by kernel_rfl) fun P hP hA=> ?_;cbv;refine af.by hP (AK w hw (bB w) rfl) ?_;cbv;refine aR.by (X:=Nat) (fun i=>[(1,iA now),(5,oN 0),(6,oN 1),(7,nT fun _=>i)]) (fun i=>[(0,aH .aI fun _=>((bB w).take i).filter fun p=>decide (p.tm≤now)),(1,aH .aI fun _=>bB w)]) (fun i=>i≤(bB w).length) (fun i _=>(bB w).length - i) 0 (Nat.zero_le _) ?_ ?_
 · cbv
   repeat' first | exact trivial | refine⟨rfl, ?_⟩ | fail
 · intro i hi;cbv;refine Br.dec (fun h2=> ?_) (fun h2=> ?_) <;> cbv
   rotate_left
   · have h2:(bB w).length≤i:=by simp at h2; omega
     refine⟨?_,trivial⟩;show((bB w).take i).filter (fun p=>decide (p.tm≤now))=x;rw[List.take_of_length_le h2,hx]; rfl
   have h2:i<(bB w).length:=by simpa using h2
   have gi:(bB w).getD ((i:Int)).toNat default=(bB w)[i]:=sP h2;have oi:0≤(i:Int)∧(i:Int)<((bB w).length:Int):=by omega
   have ob:(List.length (((bB w).take i).filter fun p=>decide (p.tm≤now))+1)*16≤140737488355328:=by
     have:=List.length_filter_le (fun p:aC=>decide (p.tm≤now)) ((bB w).take i);rw[List.length_take] at this;omega
   have yes:((bB w).getD ((i:Int)).toNat default).tm≤now→(((bB w).take i).filter fun p=>decide (p.tm≤now)) ++ [(bB w).getD ((i:Int)).toNat default]=((bB w).take (i+1)).filter fun p=>decide (p.tm≤now):=fun q=>by
     rw[gi] at q ⊢; exact LH h2 (decide_eq_true q)
   have no:¬((bB w).getD ((i:Int)).toNat default).tm≤now→(((bB w).take i).filter fun p=>decide (p.tm≤now))=((bB w).take (i+1)).filter fun p=>decide (p.tm≤now):=fun q=>by
     rw[gi] at q; exact LI h2 (decide_eq_false q)
   refine⟨oi, ?_⟩;cbv;refine Br.dec (fun h3=> ?_) (fun h3=> ?_) <;> cbv
   · refine⟨oi, ?_⟩;cbv;refine⟨ob, ?_⟩;cbv;refine Ar.exact (by(try simp only[nc] at *); omega) (by(try simp only[nc] at *); omega) ?_;cbv;refine aL.by (i+1) ?_ ?_ ?_
     · show(bB w).length - (i+1)<(bB w).length - i;omega
     · exact h2
     · cbv
       repeat' first | exact trivial | refine⟨rfl, ?_⟩ | fail
       refine⟨yes h3, ?_⟩
       repeat' first | exact trivial | refine⟨rfl, ?_⟩ | fail
   · refine Ar.exact (by(try simp only[nc] at *); omega) (by(try simp only[nc] at *); omega) ?_;cbv;refine aL.by (i+1) ?_ ?_ ?_
     · show(bB w).length - (i+1)<(bB w).length - i;omega
     · exact h2
     · cbv
       repeat' first | exact trivial | refine⟨rfl, ?_⟩ | fail
       refine⟨no h3, ?_⟩
       repeat' first | exact trivial | refine⟨rfl, ?_⟩ | fail
set_option maxHeartbeats 1000000 in
theorem LJ (h:ai) (hs:a_ h) (n:Nat) (hn:n<h.cabins.length) (x:List Int) (hx:x=sO h.cabins[n] h.now):Spec Tryz.prog 69 [cG h,nT fun _=>n] (aG (lR .int fun _=>x)):=by
 refine aF au Tryz.func69 rfl rfl (fr:=true) (fun _=>by kernel_rfl) fun P hP hA=> ?_;cbv;refine⟨h.cabins[n],by simp,get_cast h.cabins hn, ?_⟩;cbv;refine af.by hP (Tw h.cabins[n].spoke (dE.ag hs.2.2.1 hn) h.now (dF h.cabins[n].spoke h.now) rfl) ?_;cbv;refine aR.by (X:=Nat) (fun i=>[(5,oN 0),(6,oN 1),(7,nT fun _=>i)]) (fun i=>[(0,aH .int fun _=>((dF h.cabins[n].spoke h.now).take i).map fun p=>p.pid),(1,aH .aI fun _=>dF h.cabins[n].spoke h.now)]) (fun i=>i≤(dF h.cabins[n].spoke h.now).length) (fun i _=>(dF h.cabins[n].spoke h.now).length - i) 0 (Nat.zero_le _) ?_ ?_
 · cbv
   repeat' first | exact trivial | refine⟨rfl, ?_⟩ | fail
 · intro i hi;cbv;refine Br.dec (fun h2=> ?_) (fun h2=> ?_) <;> cbv
   rotate_left
   · have h2:(dF h.cabins[n].spoke h.now).length≤i:=by simp at h2; omega
     refine⟨?_,trivial⟩;show((dF h.cabins[n].spoke h.now).take i).map (fun p=>p.pid)=x;rw[List.take_of_length_le h2,hx]; rfl
   have h2:i<(dF h.cabins[n].spoke h.now).length:=by simpa using h2
   have dj:=Fp h.cabins[n].spoke h.now;have gi:(dF h.cabins[n].spoke h.now).getD ((i:Int)).toNat default=(dF h.cabins[n].spoke h.now)[i]:=sP h2;have oi:0≤(i:Int)∧(i:Int)<((dF h.cabins[n].spoke h.now).length:Int):=by omega
   have ob:(List.length (((dF h.cabins[n].spoke h.now).take i).map fun p=>p.pid)+1)*8≤140737488355328:=by
     rw[List.length_map,List.length_take]; omega
   have st:(((dF h.cabins[n].spoke h.now).take i).map fun p=>p.pid) ++ [((dF h.cabins[n].spoke h.now).getD ((i:Int)).toNat default).pid]=((dF h.cabins[n].spoke h.now).take (i+1)).map fun p=>p.pid:=by
     rw[gi,List.take_add_one,List.getElem?_eq_getElem h2,List.map_append]; rfl
   refine⟨oi, ?_⟩;cbv;refine⟨ob, ?_⟩;cbv;refine Ar.exact (by(try simp only[nc] at *); omega) (by(try simp only[nc] at *); omega) ?_;cbv;refine aL.by (i+1) ?_ ?_ ?_
   · show(dF h.cabins[n].spoke h.now).length - (i+1)<(dF h.cabins[n].spoke h.now).length - i;omega
   · exact h2
   · cbv
     repeat' first | exact trivial | refine⟨rfl, ?_⟩ | fail
     refine⟨st, ?_⟩
     repeat' first | exact trivial | refine⟨rfl, ?_⟩ | fail
theorem Tx (h:ai) (k:Int) (hs:a_ h) (x:List Int) (hx:x=bj h k):Spec Tryz.prog 21 [cG h,iA k] (aG (lR .int fun _=>x)):=by
 refine aF au Tryz.func21 rfl rfl (fr:=true) (fun _=>by kernel_rfl) fun P hP hA=> ?_;cbv;refine af.by hP (EN h k hs (cu h k) rfl) ?_;cbv;refine Br.split (fun kc=> ?_) (fun kc=> ?_) <;> cbv
 · have kc:(!cu h k)=true:=kc;obtain rfl:x = []:=hx.trans (if_neg (by intro q; rw[q] at kc; cases kc))
   repeat' first | exact trivial | refine⟨rfl, ?_⟩ | fail
 have kc:(!cu h k)=false:=kc;have kc:cu h k=true:=by simpa using kc
 have kk:=Bool.and_eq_true_iff.1 kc;obtain⟨n,hn,rfl,ec⟩:=yb kk.2;refine af.by hP (LJ h hs n hn x (hx.trans ((if_pos kc).trans (by rw[ec])))) ?_;cbv
 repeat' first | exact trivial | refine⟨rfl, ?_⟩ | fail
set_option maxHeartbeats 1000000 in
theorem Ty (w:List (List aC)) (hw:dE w) (now:Int) (x:List aC) (hx:x=dF w now):Spec Tryz.prog 71 [jE w,iA now] (aG (lR .aI fun _=>x)):=by
 have dj:=Fo w;refine aF au Tryz.func71 rfl rfl (fr:=true) (fun _=>by kernel_rfl) fun P hP hA=> ?_;cbv;refine af.by hP (AL w hw (bB w) rfl) ?_;cbv;refine aR.by (X:=Nat) (fun i=>[(1,iA now),(5,oN 0),(9,oN 1),(10,nT fun _=>(bB w).length),(11,nT fun _=>i)]) (fun i=>[(0,aH .aI fun _=>((bB w).take i).filter fun p=>decide (p.tm≤now)),(1,aH .aI fun _=>bB w)]) (fun i=>i≤(bB w).length) (fun i _=>(bB w).length - i) 0 (Nat.zero_le _) ?_ ?_
 · cbv
   repeat' first | exact trivial | refine⟨rfl, ?_⟩ | fail
 · intro i hi;cbv;refine Br.dec (fun h2=> ?_) (fun h2=> ?_) <;> cbv
   rotate_left
   · have h2:(bB w).length≤i:=by simp at h2; omega
     refine⟨?_,trivial⟩;show((bB w).take i).filter (fun p=>decide (p.tm≤now))=x;rw[List.take_of_length_le h2,hx]; rfl
   have h2:i<(bB w).length:=by simpa using h2
   have gi:(bB w).getD ((i:Int)).toNat default=(bB w)[i]:=sP h2;have oi:0≤(i:Int)∧(i:Int)<((bB w).length:Int):=by omega
   have ob:(List.length (((bB w).take i).filter fun p=>decide (p.tm≤now))+1)*16≤140737488355328:=by
     have:=List.length_filter_le (fun p:aC=>decide (p.tm≤now)) ((bB w).take i);rw[List.length_take] at this;omega
   have yes:((bB w).getD ((i:Int)).toNat default).tm≤now→(((bB w).take i).filter fun p=>decide (p.tm≤now)) ++ [(bB w).getD ((i:Int)).toNat default]=((bB w).take (i+1)).filter fun p=>decide (p.tm≤now):=fun q=>by
     rw[gi] at q ⊢; exact LH h2 (decide_eq_true q)
   have no:¬((bB w).getD ((i:Int)).toNat default).tm≤now→(((bB w).take i).filter fun p=>decide (p.tm≤now))=((bB w).take (i+1)).filter fun p=>decide (p.tm≤now):=fun q=>by
     rw[gi] at q; exact LI h2 (decide_eq_false q)
   refine⟨oi, ?_⟩;cbv;refine Br.dec (fun h3=> ?_) (fun h3=> ?_) <;> cbv
   · refine⟨ob, ?_⟩;cbv;refine Ar.exact (by(try simp only[nc] at *); omega) (by(try simp only[nc] at *); omega) ?_;cbv;refine aL.by (i+1) ?_ ?_ ?_
     · show(bB w).length - (i+1)<(bB w).length - i;omega
     · exact h2
     · cbv
       repeat' first | exact trivial | refine⟨rfl, ?_⟩ | fail
       refine⟨yes h3, ?_⟩
       repeat' first | exact trivial | refine⟨rfl, ?_⟩ | fail
   · refine Ar.exact (by(try simp only[nc] at *); omega) (by(try simp only[nc] at *); omega) ?_;cbv;refine aL.by (i+1) ?_ ?_ ?_
     · show(bB w).length - (i+1)<(bB w).length - i;omega
     · exact h2
     · cbv
       repeat' first | exact trivial | refine⟨rfl, ?_⟩ | fail
       refine⟨no h3, ?_⟩
       repeat' first | exact trivial | refine⟨rfl, ?_⟩ | fail
set_option maxHeartbeats 1000000 in
theorem Bb (h:ai) (k:Int) (hs:a_ h) (x:List Int) (hx:x=bj h k):Spec Tryz.prog 22 [cG h,iA k] (aG (lR .int fun _=>x)):=by
 refine aF au Tryz.func22 rfl rfl (fr:=true) (fun _=>by kernel_rfl) fun P hP hA=> ?_;cbv;refine af.by hP (Kw h k hs (cu h k) rfl) ?_;cbv;refine Br.split (fun kc=> ?_) (fun kc=> ?_) <;> cbv
 · have kc:(!cu h k)=true:=kc;obtain rfl:x = []:=hx.trans (if_neg (by intro q; rw[q] at kc; cases kc))
   repeat' first | exact trivial | refine⟨rfl, ?_⟩ | fail
 have kc:(!cu h k)=false:=kc;have kc:cu h k=true:=by simpa using kc
 have kk:=Bool.and_eq_true_iff.1 kc;obtain⟨n,hn,rfl,ec⟩:=yb kk.2;have hx:=hx.trans ((if_pos kc).trans (by rw[ec]));refine⟨h.cabins[n],by simp,get_cast h.cabins hn, ?_⟩;cbv;refine af.by hP (Ty h.cabins[n].spoke (dE.ag hs.2.2.1 hn) h.now (dF h.cabins[n].spoke h.now) rfl) ?_;cbv;refine aR.by (X:=Nat) (fun i=>[(5,oN 0),(20,oN 1),(21,nT fun _=>(dF h.cabins[n].spoke h.now).length),(22,nT fun _=>i)]) (fun i=>[(0,aH .int fun _=>((dF h.cabins[n].spoke h.now).take i).map fun p=>p.pid),(1,aH .aI fun _=>dF h.cabins[n].spoke h.now)]) (fun i=>i≤(dF h.cabins[n].spoke h.now).length) (fun i _=>(dF h.cabins[n].spoke h.now).length - i) 0 (Nat.zero_le _) ?_ ?_
 · cbv
   repeat' first | exact trivial | refine⟨rfl, ?_⟩ | fail
 · intro i hi;cbv;refine Br.dec (fun h2=> ?_) (fun h2=> ?_) <;> cbv
   rotate_left
   · have h2:(dF h.cabins[n].spoke h.now).length≤i:=by simp at h2; omega
     refine⟨?_,trivial⟩;show((dF h.cabins[n].spoke h.now).take i).map (fun p=>p.pid)=x;rw[List.take_of_length_le h2,hx]; rfl
   have h2:i<(dF h.cabins[n].spoke h.now).length:=by simpa using h2
   have dj:=Fp h.cabins[n].spoke h.now;have gi:(dF h.cabins[n].spoke h.now).getD ((i:Int)).toNat default=(dF h.cabins[n].spoke h.now)[i]:=sP h2;have oi:0≤(i:Int)∧(i:Int)<((dF h.cabins[n].spoke h.now).length:Int):=by omega
   have ob:(List.length (((dF h.cabins[n].spoke h.now).take i).map fun p=>p.pid)+1)*8≤140737488355328:=by
     rw[List.length_map,List.length_take]; omega
   have st:(((dF h.cabins[n].spoke h.now).take i).map fun p=>p.pid) ++ [((dF h.cabins[n].spoke h.now).getD ((i:Int)).toNat default).pid]=((dF h.cabins[n].spoke h.now).take (i+1)).map fun p=>p.pid:=by
     rw[gi,List.take_add_one,List.getElem?_eq_getElem h2,List.map_append]; rfl
   refine⟨oi, ?_⟩;cbv;refine⟨ob, ?_⟩;cbv;refine Ar.exact (by(try simp only[nc] at *); omega) (by(try simp only[nc] at *); omega) ?_;cbv;refine aL.by (i+1) ?_ ?_ ?_
   · show(dF h.cabins[n].spoke h.now).length - (i+1)<(dF h.cabins[n].spoke h.now).length - i;omega
   · exact h2
   · cbv
     repeat' first | exact trivial | refine⟨rfl, ?_⟩ | fail
     refine⟨st, ?_⟩
     repeat' first | exact trivial | refine⟨rfl, ?_⟩ | fail
theorem Fq {h:ai} (hg:HG h) {k:Nat} (hk:k<h.cabins.length) (now:Int):(fJ h.rules (k:Int) now h.ae).length≤10:=by
 have h1:=(hg.at_ hk).dj;have h2:=(eB hg.rules).room;exact EJ (by omega)
end Go.Proofs.YtpklefhdkkegiaaGreat

