/- Parts of a proof. No conditions. -/

import Derived.Test.YtpklefhdkkegiaaGreatG14
import Derived.Test.YtpklefhdkkegiaaGreatG05
import Derived.Test.YtpklefhdkkegiaaGreatG15
import Derived.Test.YtpklefhdkkegiaaGreatG07
set_option linter.unusedSimpArgs false
set_option linter.unusedVariables false
namespace Go.Proofs.YtpklefhdkkegiaaGreat
open Go
set_option maxRecDepth 100000
def ju (h:al) (k:Int):Int:=((aV (bL k) h.ae:Nat):Int)
def gN (h:al) (k:Int):Bool:=aj k 0 ((h.cabins.length:Int) - 1)
def x_ (h:al) (q:cf):Int:=
 if gN h q.ah=false then 4 else if aj q.aq (-1) ((h.cabins.length:Int) - 1)=false then 4 else if q.aq=q.ah then 4
 else if aj q.au 1 h.rules.size=false then 5
 else if q.aT≥h.rules.cd then 6
 else if aj q.id 1 999=false then 7
 else if bq h.ae q.id≥0 then 8
 else if ju h q.ah≥h.rules.room then 9
 else if q.aq≠ -1∧fx (aE h q.aq)<q.au then 10
 else if h.az>1000000 then 11 else 0
def BY (h:al) (q:cf):Int:=
 if gN h q.ah=false then 4 else if aj q.au 1 60=false then 5 else if fx (aE h q.ah)<q.au then 12 else 0
def ya (h:al) (id:Int):Int:=
 if bq h.ae id<0 then 7 else if(eO h id).st≠2 then 13 else if kB (eO h id) h.now=true then 14 else 0
def BZ (h:al) (cR:Int):Int:=
 if cR≥h.rules.bO then 16 else if((h.aA[cR.toNat]?).getD 0) = -1∧h.todo = [] then 17 else 0
def bx (h:al) (q:cf):Int:=
 if dH h=false then 1 else if aj q.kind 1 7=false then 2 else if dB q=false then 3
 else if q.kind=1 then x_ h q
 else if q.kind=2 then(if bq h.ae q.id<0 then 7 else 0)
 else if q.kind=3 then BY h q
 else if q.kind=4∨q.kind=5 then ya h q.id
 else if q.kind=6 then(if h.now=1000000 then 15 else 0)
 else BZ h q.id
theorem rB {n:Int} (h:field n=true):0≤n∧n≤9999:=by simpa [field] using h
structure HW (q:cf):Prop where
 id:0≤q.id∧q.id≤9999
 ah:0≤q.ah∧q.ah≤9999
 aq: -1≤q.aq∧q.aq≤9999
 au:0≤q.au∧q.au≤9999
 aT:0≤q.aT∧q.aT≤9999
theorem B0 {q:cf} (h:dB q=true) (hk:q.kind=1):HW q:=by
 rw[dB,if_pos hk] at h;simp only[Bool.and_eq_true,decide_eq_true_eq] at h;exact⟨rB h.1.1.1.1,rB h.1.1.1.2,h.1.1.2,rB h.1.2,rB h.2⟩
theorem HX {q:cf} (h:dB q=true) (hk:q.kind=3):(0≤q.ah∧q.ah≤9999)∧0≤q.au∧q.au≤9999:=by
 rw[dB,if_neg (by omega),if_neg (by omega),if_pos hk] at h;simp only[Bool.and_eq_true] at h;exact⟨rB h.1.1,rB h.1.2⟩
theorem B3 {q:cf} (h:dB q=true) (hk:q.kind=7):0≤q.id∧q.id≤9999:=by
 rw[dB,if_neg (by omega),if_pos (by omega)] at h;simp only[Bool.and_eq_true] at h;exact rB h.1
theorem B4 {h:al} {q:cf} (h0:dH h=false):bx h q=1:=if_pos h0
theorem B5 {h:al} {q:cf} (h0:dH h=true) (h1:aj q.kind 1 7=false):bx h q=2:=by simp[bx,h0,h1]
theorem B6 {h:al} {q:cf} (h0:dH h=true) (h1:aj q.kind 1 7=true) (h2:dB q=false):bx h q=3:=by simp[bx,h0,h1,h2]
theorem B7 {h:al} {q:cf} (h0:dH h=true) (h2:dB q=true) (k:q.kind=1):bx h q=x_ h q:=by simp[bx,h0,h2,k,aj]
theorem B8 {h:al} {q:cf} (h0:dH h=true) (h2:dB q=true) (k:q.kind=2):bx h q=if bq h.ae q.id<0 then 7 else 0:=by simp[bx,h0,h2,k,aj]
theorem B9 {h:al} {q:cf} (h0:dH h=true) (h2:dB q=true) (k:q.kind=3):bx h q=BY h q:=by simp[bx,h0,h2,k,aj]
theorem vK {h:al} {q:cf} (h0:dH h=true) (h2:dB q=true) (k:q.kind=4∨q.kind=5):bx h q=ya h q.id:=by
 rcases k with k | k <;> simp[bx,h0,h2,k,aj]
theorem HY {h:al} {q:cf} (h0:dH h=true) (h2:dB q=true) (k:q.kind=6):bx h q=if h.now=1000000 then 15 else 0:=by simp[bx,h0,h2,k,aj]
theorem B_ {h:al} {q:cf} (h0:dH h=true) (h2:dB q=true) (k:q.kind=7):bx h q=BZ h q.id:=by simp[bx,h0,h2,k,aj]
theorem HZ {h:al} {k:Int} (q:(h.cabins.length:Int)≤k):gN h k=false:=by simp[gN,aj]; omega
theorem H2 {h:al} {k:Int} (q0:0≤k) (q:k<(h.cabins.length:Int)):gN h k=true:=by simp[gN,aj]; omega
theorem Pl {h:al} {k:Int} (q:(h.cabins.length:Int)≤k):aj k (-1) ((h.cabins.length:Int) - 1)=false:=by simp[aj]; omega
theorem Pm {h:al} {k:Int} (q0: -1≤k) (q:k<(h.cabins.length:Int)):aj k (-1) ((h.cabins.length:Int) - 1)=true:=by simp[aj]; omega
theorem H3 {h:al} {k:Int} (k0:dH h=true) (q:aj k (-1) ((h.cabins.length:Int) - 1)=true) (n:k≠ -1):ew h k=true:=by
 have q:=bF q;rw[ew,k0]; simp[aj]; omega
theorem H4 {h:al} {k:Int} (k0:dH h=true) (q:gN h k=true):ew h k=true:=by rw[ew,k0]; exact q
theorem H5 {l:List Int} (h:(((l.length:Nat):Int) == 0)=true):l = []:=by
 cases l with
 | nil=>rfl
 | cons a l=>simp at h; omega
theorem H6 {l:List Int} (h:(((l.length:Nat):Int) == 0)=false):¬l = []:=by
 intro e; subst e; simp at h
set_option maxHeartbeats 4000000 in
theorem Pn (h:al) (q:cf) (hs:bJ h) (k0:dH h=true) (jr:HW q) (x:Int) (hx:x=x_ h q):Spec Tryz.prog 95 [dV h,eA .fC q] (aM (iR fun _=>x)):=by
 have s2:=hs.2.1;have hc:h.cabins.length≤1048576:=hs.2.2.1.1;refine aN aD Tryz.func95 rfl rfl (fr:=true) (fun _=>by kernel_rfl) fun P hP hA=> ?_;cbv;refine Br.dec (fun j0=> ?_) (fun j0=> ?_) <;> cbv
 · have j0:q.ah≥(h.cabins.length:Int):=j0;refine⟨?_,trivial⟩;exact(hx.trans (if_pos (HZ j0))).symm
 have j0:¬q.ah≥(h.cabins.length:Int):=j0;have j0:gN h q.ah=true:=H2 jr.ah.1 (by omega);have ic:=hx.trans (if_neg (by rw[j0]; simp));refine Br.dec (fun j1=> ?_) (fun j1=> ?_) <;> cbv
 · have j1:q.aq≥(h.cabins.length:Int):=j1;refine⟨?_,trivial⟩;exact(ic.trans (if_pos (Pl j1))).symm
 have j1:¬q.aq≥(h.cabins.length:Int):=j1;have j1:aj q.aq (-1) ((h.cabins.length:Int) - 1)=true:=Pm jr.aq.1 (by omega);have ic:=ic.trans (if_neg (by rw[j1]; simp));refine Br.split (fun j2=> ?_) (fun j2=> ?_) <;> cbv
 · have j2:(q.aq == q.ah)=true:=j2;refine⟨?_,trivial⟩;exact(ic.trans (if_pos (by simpa using j2))).symm
 have j2:(q.aq == q.ah)=false:=j2;have j2:¬q.aq=q.ah:=by simpa using j2
 refine ag.by hP (cT q.au 1 h.rules.size) ?_;cbv;refine Br.split (fun j3=> ?_) (fun j3=> ?_) <;> cbv
 · have j3:(!aj q.au 1 h.rules.size)=true:=j3;have j3:aj q.au 1 h.rules.size=false:=by simpa using j3
   refine⟨?_,trivial⟩;exact(ic.trans ((if_neg j2).trans (if_pos j3))).symm
 have j3:(!aj q.au 1 h.rules.size)=false:=j3;have j3:aj q.au 1 h.rules.size=true:=by simpa using j3
 have hx:=ic.trans ((if_neg j2).trans (if_neg (by rw[j3]; simp)));refine Br.dec (fun j4=> ?_) (fun j4=> ?_) <;> cbv
 · have j4:q.aT≥h.rules.cd:=j4;refine⟨?_,trivial⟩;exact(hx.trans (if_pos j4)).symm
 have j4:¬q.aT≥h.rules.cd:=j4;have hx:=hx.trans (if_neg j4);refine ag.by hP (cT q.id 1 999) ?_;cbv;refine Br.split (fun j5=> ?_) (fun j5=> ?_) <;> cbv
 · have j5:(!aj q.id 1 999)=true:=j5;have j5:aj q.id 1 999=false:=by simpa using j5
   refine⟨?_,trivial⟩;exact(hx.trans (if_pos j5)).symm
 have j5:(!aj q.id 1 999)=false:=j5;have j5:aj q.id 1 999=true:=by simpa using j5
 have hx:=hx.trans (if_neg (by rw[j5]; simp));refine ag.by hP (Bg h q.id (bq h.ae q.id) rfl) ?_;cbv;refine Br.dec (fun j6=> ?_) (fun j6=> ?_) <;> cbv
 · have j6:bq h.ae q.id≥0:=j6;refine⟨?_,trivial⟩;exact(hx.trans (if_pos j6)).symm
 have j6:¬bq h.ae q.id≥0:=j6;have hx:=hx.trans (if_neg j6);refine ag.by hP (A5 h.ae q.ah s2) ?_;cbv;refine Br.dec (fun j7=> ?_) (fun j7=> ?_) <;> cbv
 · have j7:ju h q.ah≥h.rules.room:=j7;refine⟨?_,trivial⟩;exact(hx.trans (if_pos j7)).symm
 have j7:¬ju h q.ah≥h.rules.room:=j7;have jv:(if ju h q.ah≥h.rules.room then(9:Int) else if q.aq≠ -1∧fx (aE h q.aq)<q.au then 10 else if h.az>1000000 then 11 else 0)=if q.aq≠ -1∧fx (aE h q.aq)<q.au then 10 else if h.az>1000000 then 11 else 0:=if_neg j7
 refine Br.dec (fun j8=> ?_) (fun j8=> ?_) <;> cbv
 · have j8:q.aq≠ -1:=by have j8:q.aq≥0:=j8; omega
   refine ag.by hP (GS h q.aq (H3 k0 j1 j8) (fx (aE h q.aq)) rfl) ?_;cbv;refine Br.dec (fun j9=> ?_) (fun j9=> ?_) <;> cbv
   · have j9:fx (aE h q.aq)<q.au:=j9;refine⟨?_,trivial⟩;exact(hx.trans (jv.trans (if_pos ⟨j8,j9⟩))).symm
   have j9:¬fx (aE h q.aq)<q.au:=j9;refine Br.dec (fun ek=> ?_) (fun ek=> ?_) <;> cbv
   · have ek:h.az>1000000:=ek;refine⟨?_,trivial⟩;exact(hx.trans (by rw[jv,if_neg fun z=>j9 z.2,if_pos ek])).symm
   · have ek:¬h.az>1000000:=ek;refine⟨?_,trivial⟩;exact(hx.trans (by rw[jv,if_neg fun z=>j9 z.2,if_neg ek])).symm
 · have j8:q.aq = -1:=by have j8:¬q.aq≥0:=j8; have:=jr.aq; omega
   refine Br.dec (fun ek=> ?_) (fun ek=> ?_) <;> cbv
   · have ek:h.az>1000000:=ek;refine⟨?_,trivial⟩;exact(hx.trans (by rw[jv,if_neg fun z=>z.1 j8,if_pos ek])).symm
   · have ek:¬h.az>1000000:=ek;refine⟨?_,trivial⟩;exact(hx.trans (by rw[jv,if_neg fun z=>z.1 j8,if_neg ek])).symm
set_option maxHeartbeats 4000000 in
theorem H7 (h:al) (id:Int) (hs:bJ h) (k0:dH h=true) (x:Int) (hx:x=ya h id):Spec Tryz.prog 98 [dV h,iA id] (aM (iR fun _=>x)):=by
 have s2:=hs.2.1;have hc:h.cabins.length≤1048576:=hs.2.2.1.1;have hg:=iD.1 k0;refine aN aD Tryz.func98 rfl rfl (fr:=true) (fun _=>by kernel_rfl) fun P hP hA=> ?_;cbv;refine ag.by hP (Bg h id (bq h.ae id) rfl) ?_;cbv;refine Br.dec (fun a0=> ?_) (fun a0=> ?_) <;> cbv
 · have a0:bq h.ae id<0:=a0;refine⟨?_,trivial⟩;exact(hx.trans (if_pos a0)).symm
 have a0:¬bq h.ae id<0:=a0;have hx:=hx.trans (if_neg a0);obtain⟨i,c,g⟩:=known hg (by omega:0≤bq h.ae id);have hi:=g.lt;have og:0≤bq h.ae id:=by omega
 have gg:h.ae[(bq h.ae id).toNat]? = some h.ae[i]:=by rw[g.at_,Int.toNat_natCast]; exact List.getElem?_eq_getElem hi
 rw[g.aB] at hx;refine⟨h.ae[i],og,gg, ?_⟩;cbv;refine Br.split (fun a1=> ?_) (fun a1=> ?_) <;> cbv
 · have a1:(h.ae[i].st != 2)=true:=a1;refine⟨?_,trivial⟩;exact(hx.trans (if_pos (by simpa using a1))).symm
 have a1:(h.ae[i].st != 2)=false:=a1;have hx:=hx.trans (if_neg (by simpa using a1));refine⟨h.ae[i],og,gg, ?_⟩;cbv;refine ag.by hP (Mv h.ae[i] h.now) ?_;cbv;refine Br.split (fun a2=> ?_) (fun a2=> ?_) <;> cbv
 · have a2:kB h.ae[i] h.now=true:=a2;refine⟨?_,trivial⟩;exact(hx.trans (if_pos a2)).symm
 · have a2:kB h.ae[i] h.now=false:=a2;refine⟨?_,trivial⟩;exact(hx.trans (if_neg (by rw[a2]; simp))).symm
set_option maxHeartbeats 4000000 in
theorem Po (h:al) (q:cf) (hs:bJ h) (x:Int) (hx:x=bx h q):Spec Tryz.prog 32 [dV h,eA .fC q] (aM (iR fun _=>x)):=by
 have s2:=hs.2.1;have hc:h.cabins.length≤1048576:=hs.2.2.1.1;refine aN aD Tryz.func32 rfl rfl (fr:=true) (fun _=>by kernel_rfl) fun P hP hA=> ?_;cbv;refine ag.by hP (NC h hs (dH h) rfl) ?_;cbv;refine Br.split (fun k0=> ?_) (fun k0=> ?_) <;> cbv
 · have k0:(!dH h)=true:=k0;refine⟨?_,trivial⟩;exact(hx.trans (B4 (by simpa using k0))).symm
 have k0:(!dH h)=false:=k0;have k0:dH h=true:=by simpa using k0
 refine ag.by hP (cT q.kind 1 7) ?_;cbv;refine Br.split (fun k1=> ?_) (fun k1=> ?_) <;> cbv
 · have k1:(!aj q.kind 1 7)=true:=k1;refine⟨?_,trivial⟩;exact(hx.trans (B5 k0 (by simpa using k1))).symm
 have k1:(!aj q.kind 1 7)=false:=k1;have k1:aj q.kind 1 7=true:=by simpa using k1
 refine ag.by hP (Mg q (dB q) rfl) ?_;cbv;refine Br.split (fun k2=> ?_) (fun k2=> ?_) <;> cbv
 · have k2:(!dB q)=true:=k2;refine⟨?_,trivial⟩;exact(hx.trans (B6 k0 k1 (by simpa using k2))).symm
 have k2:(!dB q)=false:=k2;have k2:dB q=true:=by simpa using k2
 have hg:=iD.1 k0;have kr:=bF k1;refine Br.split (fun c1=> ?_) (fun c1=> ?_) <;> cbv
 · have kk:q.kind=1:=by have c1:(q.kind == 1)=true:=c1; simpa using c1
   have jr:=B0 k2 kk;have hx:=hx.trans (B7 k0 k2 kk);refine ag.by hP (Pn h q hs k0 jr x hx) ?_;cbv
   repeat' first | exact trivial | refine⟨rfl, ?_⟩ | fail
 have c1:¬q.kind=1:=by have c1:(q.kind == 1)=false:=c1; simpa using c1
 refine Br.split (fun c2=> ?_) (fun c2=> ?_) <;> cbv
 · have kk:q.kind=2:=by have c2:(q.kind == 2)=true:=c2; simpa using c2
   have hx:=hx.trans (B8 k0 k2 kk);refine ag.by hP (Bg h q.id (bq h.ae q.id) rfl) ?_;cbv;refine Br.dec (fun a0=> ?_) (fun a0=> ?_) <;> cbv
   · have a0:bq h.ae q.id<0:=a0;refine⟨?_,trivial⟩;exact(hx.trans (if_pos a0)).symm
   · have a0:¬bq h.ae q.id<0:=a0;refine⟨?_,trivial⟩;exact(hx.trans (if_neg a0)).symm
 have c2:¬q.kind=2:=by have c2:(q.kind == 2)=false:=c2; simpa using c2
 refine Br.split (fun c3=> ?_) (fun c3=> ?_) <;> cbv
 · have kk:q.kind=3:=by have c3:(q.kind == 3)=true:=c3; simpa using c3
   have hx:=hx.trans (B9 k0 k2 kk);have fr:=HX k2 kk;refine Br.dec (fun j0=> ?_) (fun j0=> ?_) <;> cbv
   · have j0:q.ah≥(h.cabins.length:Int):=j0;refine⟨?_,trivial⟩;exact(hx.trans (if_pos (HZ j0))).symm
   have j0:¬q.ah≥(h.cabins.length:Int):=j0;have j0:gN h q.ah=true:=H2 fr.1.1 (by omega);have hx:=hx.trans (if_neg (by rw[j0]; simp));refine ag.by hP (cT q.au 1 60) ?_;cbv;refine Br.split (fun f1=> ?_) (fun f1=> ?_) <;> cbv
   · have f1:(!aj q.au 1 60)=true:=f1;refine⟨?_,trivial⟩;exact(hx.trans (if_pos (by simpa using f1))).symm
   have f1:(!aj q.au 1 60)=false:=f1;have hx:=hx.trans (if_neg (by simpa using f1));refine ag.by hP (GS h q.ah (H4 k0 j0) (fx (aE h q.ah)) rfl) ?_;cbv;refine Br.dec (fun f2=> ?_) (fun f2=> ?_) <;> cbv
   · have f2:fx (aE h q.ah)<q.au:=f2;refine⟨?_,trivial⟩;exact(hx.trans (if_pos f2)).symm
   · have f2:¬fx (aE h q.ah)<q.au:=f2;refine⟨?_,trivial⟩;exact(hx.trans (if_neg f2)).symm
 have c3:¬q.kind=3:=by have c3:(q.kind == 3)=false:=c3; simpa using c3
 refine Br.split (fun c4=> ?_) (fun c4=> ?_) <;> cbv
 · have kk:q.kind=4:=by have c4:(q.kind == 4)=true:=c4; simpa using c4
   have hx:=hx.trans (vK k0 k2 (Or.inl kk));refine Br.split (fun d4=> ?_) (fun d4=> ?_) <;> cbv
   · refine ag.by hP (H7 h q.id hs k0 x hx) ?_;cbv
     repeat' first | exact trivial | refine⟨rfl, ?_⟩ | fail
   · exfalso;have d4:(q.kind == 4)=false:=d4;rw[kk] at d4; cases d4
 have c4:¬q.kind=4:=by have c4:(q.kind == 4)=false:=c4; simpa using c4
 refine Br.split (fun c5=> ?_) (fun c5=> ?_) <;> cbv
 · have kk:q.kind=5:=by have c5:(q.kind == 5)=true:=c5; simpa using c5
   have hx:=hx.trans (vK k0 k2 (Or.inr kk));refine ag.by hP (H7 h q.id hs k0 x hx) ?_;cbv
   repeat' first | exact trivial | refine⟨rfl, ?_⟩ | fail
 have c5:¬q.kind=5:=by have c5:(q.kind == 5)=false:=c5; simpa using c5
 refine Br.split (fun c6=> ?_) (fun c6=> ?_) <;> cbv
 · have kk:q.kind=6:=by have c6:(q.kind == 6)=true:=c6; simpa using c6
   have hx:=hx.trans (HY k0 k2 kk);have hn:=bF hg.now;refine Br.dec (fun t0=> ?_) (fun t0=> ?_) <;> cbv
   · have t0:h.now≥1000000:=t0;refine⟨?_,trivial⟩;exact(hx.trans (if_pos (by omega))).symm
   · have t0:¬h.now≥1000000:=t0;refine⟨?_,trivial⟩;exact(hx.trans (if_neg (by omega))).symm
 have c6:¬q.kind=6:=by have c6:(q.kind == 6)=false:=c6; simpa using c6
 refine Br.split (fun c7=> ?_) (fun c7=> ?_) <;> cbv
 · have kk:q.kind=7:=by have c7:(q.kind == 7)=true:=c7; simpa using c7
   have hx:=hx.trans (B_ k0 k2 kk);have pr:=B3 k2 kk;refine Br.dec (fun p0=> ?_) (fun p0=> ?_) <;> cbv
   · have p0:q.id≥h.rules.bO:=p0;refine⟨?_,trivial⟩;exact(hx.trans (if_pos p0)).symm
   have p0:¬q.id≥h.rules.bO:=p0;have hx:=hx.trans (if_neg p0);have cr:=hg.bO;have hj:q.id.toNat<h.aA.length:=by omega
   have op:0≤q.id:=pr.1;have gp:h.aA[q.id.toNat]? = some h.aA[q.id.toNat]:=List.getElem?_eq_getElem hj;rw[gp] at hx;have hx:x=if h.aA[q.id.toNat] = -1∧h.todo = [] then 17 else 0:=hx
   have jj:=bF (hg.aA.aA _ (List.getElem_mem hj));refine⟨h.aA[q.id.toNat],op,gp, ?_⟩;cbv;refine Br.dec (fun p1=> ?_) (fun p1=> ?_) <;> cbv
   · have p1:h.aA[q.id.toNat] = -1:=by have p1:h.aA[q.id.toNat]<0:=p1; omega
     refine Br.split (fun p2=> ?_) (fun p2=> ?_) <;> cbv
     · have p2:(((h.todo.length:Nat):Int) == 0)=true:=p2;refine⟨?_,trivial⟩;exact(hx.trans (if_pos ⟨p1,H5 p2⟩)).symm
     · have p2:(((h.todo.length:Nat):Int) == 0)=false:=p2;refine⟨?_,trivial⟩;exact(hx.trans (if_neg fun z=>H6 p2 z.2)).symm
   · have p1:¬h.aA[q.id.toNat] = -1:=by have p1:¬h.aA[q.id.toNat]<0:=p1; omega
     refine⟨?_,trivial⟩;exact(hx.trans (if_neg fun z=>p1 z.1)).symm
 have c7:¬q.kind=7:=by have c7:(q.kind == 7)=false:=c7; simpa using c7
 exfalso; omega
set_option maxHeartbeats 4000000 in
theorem jw (h:al) (q:cf) (hs:bJ h) (x:Int) (hx:x=bx h q):Spec Tryz.prog 37 [dV h,eA .fC q] (aM (iR fun _=>x)):=by
 have s2:=hs.2.1;have hc:h.cabins.length≤1048576:=hs.2.2.1.1;refine aN aD Tryz.func37 rfl rfl (fr:=true) (fun _=>by kernel_rfl) fun P hP hA=> ?_;cbv;refine ag.by hP (GQ h hs (dH h) rfl) ?_;cbv;refine Br.split (fun k0=> ?_) (fun k0=> ?_) <;> cbv
 · have k0:(!dH h)=true:=k0;refine⟨?_,trivial⟩;exact(hx.trans (B4 (by simpa using k0))).symm
 have k0:(!dH h)=false:=k0;have k0:dH h=true:=by simpa using k0
 refine ag.by hP (cI q.kind 1 7) ?_;cbv;refine Br.split (fun k1=> ?_) (fun k1=> ?_) <;> cbv
 · have k1:(!aj q.kind 1 7)=true:=k1;refine⟨?_,trivial⟩;exact(hx.trans (B5 k0 (by simpa using k1))).symm
 have k1:(!aj q.kind 1 7)=false:=k1;have k1:aj q.kind 1 7=true:=by simpa using k1
 refine ag.by hP (Mh q (dB q) rfl) ?_;cbv;refine Br.split (fun k2=> ?_) (fun k2=> ?_) <;> cbv
 · have k2:(!dB q)=true:=k2;refine⟨?_,trivial⟩;exact(hx.trans (B6 k0 k1 (by simpa using k2))).symm
 have k2:(!dB q)=false:=k2;have k2:dB q=true:=by simpa using k2
 have hg:=iD.1 k0;have kr:=bF k1;refine Br.split (fun c1=> ?_) (fun c1=> ?_) <;> cbv
 · have kk:q.kind=1:=by have c1:(q.kind == 1)=true:=c1; simpa using c1
   have jr:=B0 k2 kk;have hx:=hx.trans (B7 k0 k2 kk);refine ag.by hP (m6 q.ah (h.cabins.length:Int) (by omega) (by omega)) ?_;cbv;refine Br.split (fun j0=> ?_) (fun j0=> ?_) <;> cbv
   · have j0:(!gN h q.ah)=true:=j0;have j0:gN h q.ah=false:=by simpa using j0
     refine⟨?_,trivial⟩;exact(hx.trans (if_pos j0)).symm
   have j0:(!gN h q.ah)=false:=j0;have j0:gN h q.ah=true:=by simpa using j0
   have ic:=hx.trans (if_neg (by rw[j0]; simp));refine Ar.exact (by(try simp only[nc] at *); omega) (by(try simp only[nc] at *); omega) ?_;cbv;refine ag.by hP (cI q.aq (-1) ((h.cabins.length:Int) - 1)) ?_;cbv;refine Br.split (fun j1=> ?_) (fun j1=> ?_) <;> cbv
   · have j1:(!aj q.aq (-1) ((h.cabins.length:Int) - 1))=true:=j1;refine⟨?_,trivial⟩;exact(ic.trans (if_pos (by simpa using j1))).symm
   have j1:(!aj q.aq (-1) ((h.cabins.length:Int) - 1))=false:=j1;have j1:aj q.aq (-1) ((h.cabins.length:Int) - 1)=true:=by simpa using j1
   have ic:=ic.trans (if_neg (by rw[j1]; simp));refine Br.split (fun j2=> ?_) (fun j2=> ?_) <;> cbv
   · have j2:(q.aq == q.ah)=true:=j2;refine⟨?_,trivial⟩;exact(ic.trans (if_pos (by simpa using j2))).symm
   have j2:(q.aq == q.ah)=false:=j2;have j2:¬q.aq=q.ah:=by simpa using j2
   refine ag.by hP (cI q.au 1 h.rules.size) ?_;cbv;refine Br.split (fun j3=> ?_) (fun j3=> ?_) <;> cbv
   · have j3:(!aj q.au 1 h.rules.size)=true:=j3;have j3:aj q.au 1 h.rules.size=false:=by simpa using j3
     refine⟨?_,trivial⟩;exact(ic.trans ((if_neg j2).trans (if_pos j3))).symm
   have j3:(!aj q.au 1 h.rules.size)=false:=j3;have j3:aj q.au 1 h.rules.size=true:=by simpa using j3
   have hx:=ic.trans ((if_neg j2).trans (if_neg (by rw[j3]; simp)));refine Br.dec (fun j4=> ?_) (fun j4=> ?_) <;> cbv
   · have j4:q.aT≥h.rules.cd:=j4;refine⟨?_,trivial⟩;exact(hx.trans (if_pos j4)).symm
   have j4:¬q.aT≥h.rules.cd:=j4;have hx:=hx.trans (if_neg j4);refine ag.by hP (cI q.id 1 999) ?_;cbv;refine Br.split (fun j5=> ?_) (fun j5=> ?_) <;> cbv
   · have j5:(!aj q.id 1 999)=true:=j5;have j5:aj q.id 1 999=false:=by simpa using j5
     refine⟨?_,trivial⟩;exact(hx.trans (if_pos j5)).symm
   have j5:(!aj q.id 1 999)=false:=j5;have j5:aj q.id 1 999=true:=by simpa using j5
   have hx:=hx.trans (if_neg (by rw[j5]; simp));refine ag.by hP (m9 h q.id (bq h.ae q.id) rfl) ?_;cbv;refine Br.dec (fun j6=> ?_) (fun j6=> ?_) <;> cbv
   · have j6:bq h.ae q.id≥0:=j6;refine⟨?_,trivial⟩;exact(hx.trans (if_pos j6)).symm
   have j6:¬bq h.ae q.id≥0:=j6;have hx:=hx.trans (if_neg j6);refine ag.by hP (A6 h.ae q.ah s2) ?_;cbv;refine Br.dec (fun j7=> ?_) (fun j7=> ?_) <;> cbv
   · have j7:ju h q.ah≥h.rules.room:=j7;refine⟨?_,trivial⟩;exact(hx.trans (if_pos j7)).symm
   have j7:¬ju h q.ah≥h.rules.room:=j7;have jv:(if ju h q.ah≥h.rules.room then(9:Int) else if q.aq≠ -1∧fx (aE h q.aq)<q.au then 10 else if h.az>1000000 then 11 else 0)=if q.aq≠ -1∧fx (aE h q.aq)<q.au then 10 else if h.az>1000000 then 11 else 0:=if_neg j7
   refine Br.split (fun j8=> ?_) (fun j8=> ?_) <;> cbv
   · have j8:q.aq≠ -1:=by have j8:(q.aq != -1)=true:=j8; simpa using j8
     refine ag.by hP (GU h q.aq (H3 k0 j1 j8) (fx (aE h q.aq)) rfl) ?_;cbv;refine Br.dec (fun j9=> ?_) (fun j9=> ?_) <;> cbv
     · have j9:fx (aE h q.aq)<q.au:=j9;refine⟨?_,trivial⟩;exact(hx.trans (jv.trans (if_pos ⟨j8,j9⟩))).symm
     have j9:¬fx (aE h q.aq)<q.au:=j9;refine Br.dec (fun ek=> ?_) (fun ek=> ?_) <;> cbv
     · have ek:h.az>1000000:=ek;refine⟨?_,trivial⟩;exact(hx.trans (by rw[jv,if_neg fun z=>j9 z.2,if_pos ek])).symm
     · have ek:¬h.az>1000000:=ek;refine⟨?_,trivial⟩;exact(hx.trans (by rw[jv,if_neg fun z=>j9 z.2,if_neg ek])).symm
   · have j8:q.aq = -1:=by have j8:(q.aq != -1)=false:=j8; simpa using j8
     refine Br.dec (fun ek=> ?_) (fun ek=> ?_) <;> cbv
     · have ek:h.az>1000000:=ek;refine⟨?_,trivial⟩;exact(hx.trans (by rw[jv,if_neg fun z=>z.1 j8,if_pos ek])).symm
     · have ek:¬h.az>1000000:=ek;refine⟨?_,trivial⟩;exact(hx.trans (by rw[jv,if_neg fun z=>z.1 j8,if_neg ek])).symm
 have c1:¬q.kind=1:=by have c1:(q.kind == 1)=false:=c1; simpa using c1
 refine Br.split (fun c2=> ?_) (fun c2=> ?_) <;> cbv
 · have kk:q.kind=2:=by have c2:(q.kind == 2)=true:=c2; simpa using c2
   have hx:=hx.trans (B8 k0 k2 kk);refine ag.by hP (m9 h q.id (bq h.ae q.id) rfl) ?_;cbv;refine Br.dec (fun a0=> ?_) (fun a0=> ?_) <;> cbv
   · have a0:bq h.ae q.id<0:=a0;refine⟨?_,trivial⟩;exact(hx.trans (if_pos a0)).symm
   · have a0:¬bq h.ae q.id<0:=a0;refine⟨?_,trivial⟩;exact(hx.trans (if_neg a0)).symm
 have c2:¬q.kind=2:=by have c2:(q.kind == 2)=false:=c2; simpa using c2
 refine Br.split (fun c3=> ?_) (fun c3=> ?_) <;> cbv
 · have kk:q.kind=3:=by have c3:(q.kind == 3)=true:=c3; simpa using c3
   have hx:=hx.trans (B9 k0 k2 kk);have fr:=HX k2 kk;refine ag.by hP (m6 q.ah (h.cabins.length:Int) (by omega) (by omega)) ?_;cbv;refine Br.split (fun j0=> ?_) (fun j0=> ?_) <;> cbv
   · have j0:(!gN h q.ah)=true:=j0;have j0:gN h q.ah=false:=by simpa using j0
     refine⟨?_,trivial⟩;exact(hx.trans (if_pos j0)).symm
   have j0:(!gN h q.ah)=false:=j0;have j0:gN h q.ah=true:=by simpa using j0
   have hx:=hx.trans (if_neg (by rw[j0]; simp));refine ag.by hP (cI q.au 1 60) ?_;cbv;refine Br.split (fun f1=> ?_) (fun f1=> ?_) <;> cbv
   · have f1:(!aj q.au 1 60)=true:=f1;refine⟨?_,trivial⟩;exact(hx.trans (if_pos (by simpa using f1))).symm
   have f1:(!aj q.au 1 60)=false:=f1;have hx:=hx.trans (if_neg (by simpa using f1));refine ag.by hP (GU h q.ah (H4 k0 j0) (fx (aE h q.ah)) rfl) ?_;cbv;refine Br.dec (fun f2=> ?_) (fun f2=> ?_) <;> cbv
   · have f2:fx (aE h q.ah)<q.au:=f2;refine⟨?_,trivial⟩;exact(hx.trans (if_pos f2)).symm
   · have f2:¬fx (aE h q.ah)<q.au:=f2;refine⟨?_,trivial⟩;exact(hx.trans (if_neg f2)).symm
 have c3:¬q.kind=3:=by have c3:(q.kind == 3)=false:=c3; simpa using c3
 refine Br.split (fun c4=> ?_) (fun c4=> ?_) <;> cbv
 · have kk:q.kind=4:=by have c4:(q.kind == 4)=true:=c4; simpa using c4
   have hx:=hx.trans (vK k0 k2 (Or.inl kk));refine Br.split (fun d4=> ?_) (fun d4=> ?_) <;> cbv
   · refine ag.by hP (m9 h q.id (bq h.ae q.id) rfl) ?_;cbv;refine Br.dec (fun a0=> ?_) (fun a0=> ?_) <;> cbv
     · have a0:bq h.ae q.id<0:=a0;refine⟨?_,trivial⟩;exact(hx.trans (if_pos a0)).symm
     have a0:¬bq h.ae q.id<0:=a0;have hx:=hx.trans (if_neg a0);obtain⟨i,c,g⟩:=known hg (by omega:0≤bq h.ae q.id);have hi:=g.lt;have og:0≤bq h.ae q.id:=by omega
     have gg:h.ae[(bq h.ae q.id).toNat]? = some h.ae[i]:=by rw[g.at_,Int.toNat_natCast]; exact List.getElem?_eq_getElem hi
     rw[g.aB] at hx;refine⟨h.ae[i],og,gg, ?_⟩;cbv;refine Br.split (fun a1=> ?_) (fun a1=> ?_) <;> cbv
     · have a1:(h.ae[i].st != 2)=true:=a1;refine⟨?_,trivial⟩;exact(hx.trans (if_pos (by simpa using a1))).symm
     have a1:(h.ae[i].st != 2)=false:=a1;have hx:=hx.trans (if_neg (by simpa using a1));refine⟨h.ae[i],og,gg, ?_⟩;cbv;refine ag.by hP (FU h.ae[i] h.now) ?_;cbv;refine Br.split (fun a2=> ?_) (fun a2=> ?_) <;> cbv
     · have a2:kB h.ae[i] h.now=true:=a2;refine⟨?_,trivial⟩;exact(hx.trans (if_pos a2)).symm
     · have a2:kB h.ae[i] h.now=false:=a2;refine⟨?_,trivial⟩;exact(hx.trans (if_neg (by rw[a2]; simp))).symm
   · exfalso;have d4:(q.kind == 4)=false:=d4;rw[kk] at d4; cases d4
 have c4:¬q.kind=4:=by have c4:(q.kind == 4)=false:=c4; simpa using c4
 refine Br.split (fun c5=> ?_) (fun c5=> ?_) <;> cbv
 · have kk:q.kind=5:=by have c5:(q.kind == 5)=true:=c5; simpa using c5
   have hx:=hx.trans (vK k0 k2 (Or.inr kk));refine ag.by hP (m9 h q.id (bq h.ae q.id) rfl) ?_;cbv;refine Br.dec (fun a0=> ?_) (fun a0=> ?_) <;> cbv
   · have a0:bq h.ae q.id<0:=a0;refine⟨?_,trivial⟩;exact(hx.trans (if_pos a0)).symm
   have a0:¬bq h.ae q.id<0:=a0;have hx:=hx.trans (if_neg a0);obtain⟨i,c,g⟩:=known hg (by omega:0≤bq h.ae q.id);have hi:=g.lt;have og:0≤bq h.ae q.id:=by omega
   have gg:h.ae[(bq h.ae q.id).toNat]? = some h.ae[i]:=by rw[g.at_,Int.toNat_natCast]; exact List.getElem?_eq_getElem hi
   rw[g.aB] at hx;refine⟨h.ae[i],og,gg, ?_⟩;cbv;refine Br.split (fun a1=> ?_) (fun a1=> ?_) <;> cbv
   · have a1:(h.ae[i].st != 2)=true:=a1;refine⟨?_,trivial⟩;exact(hx.trans (if_pos (by simpa using a1))).symm
   have a1:(h.ae[i].st != 2)=false:=a1;have hx:=hx.trans (if_neg (by simpa using a1));refine⟨h.ae[i],og,gg, ?_⟩;cbv;refine ag.by hP (FU h.ae[i] h.now) ?_;cbv;refine Br.split (fun a2=> ?_) (fun a2=> ?_) <;> cbv
   · have a2:kB h.ae[i] h.now=true:=a2;refine⟨?_,trivial⟩;exact(hx.trans (if_pos a2)).symm
   · have a2:kB h.ae[i] h.now=false:=a2;refine⟨?_,trivial⟩;exact(hx.trans (if_neg (by rw[a2]; simp))).symm
 have c5:¬q.kind=5:=by have c5:(q.kind == 5)=false:=c5; simpa using c5
 refine Br.split (fun c6=> ?_) (fun c6=> ?_) <;> cbv
 · have kk:q.kind=6:=by have c6:(q.kind == 6)=true:=c6; simpa using c6
   have hx:=hx.trans (HY k0 k2 kk);have hn:=bF hg.now;refine Br.split (fun t0=> ?_) (fun t0=> ?_) <;> cbv
   · have t0:(h.now == 1000000)=true:=t0;refine⟨?_,trivial⟩;exact(hx.trans (if_pos (by simpa using t0))).symm
   · have t0:(h.now == 1000000)=false:=t0;refine⟨?_,trivial⟩;exact(hx.trans (if_neg (by simpa using t0))).symm
 have c6:¬q.kind=6:=by have c6:(q.kind == 6)=false:=c6; simpa using c6
 refine Br.split (fun c7=> ?_) (fun c7=> ?_) <;> cbv
 · have kk:q.kind=7:=by have c7:(q.kind == 7)=true:=c7; simpa using c7
   have hx:=hx.trans (B_ k0 k2 kk);have pr:=B3 k2 kk;refine Br.dec (fun p0=> ?_) (fun p0=> ?_) <;> cbv
   · have p0:q.id≥h.rules.bO:=p0;refine⟨?_,trivial⟩;exact(hx.trans (if_pos p0)).symm
   have p0:¬q.id≥h.rules.bO:=p0;have hx:=hx.trans (if_neg p0);have cr:=hg.bO;have hj:q.id.toNat<h.aA.length:=by omega
   have op:0≤q.id:=pr.1;have gp:h.aA[q.id.toNat]? = some h.aA[q.id.toNat]:=List.getElem?_eq_getElem hj;rw[gp] at hx;have hx:x=if h.aA[q.id.toNat] = -1∧h.todo = [] then 17 else 0:=hx
   have jj:=bF (hg.aA.aA _ (List.getElem_mem hj));refine⟨h.aA[q.id.toNat],op,gp, ?_⟩;cbv;refine Br.split (fun p1=> ?_) (fun p1=> ?_) <;> cbv
   · have p1:h.aA[q.id.toNat] = -1:=by have p1:(h.aA[q.id.toNat] == -1)=true:=p1; simpa using p1
     refine Br.split (fun p2=> ?_) (fun p2=> ?_) <;> cbv
     · have p2:(((h.todo.length:Nat):Int) == 0)=true:=p2;refine⟨?_,trivial⟩;exact(hx.trans (if_pos ⟨p1,H5 p2⟩)).symm
     · have p2:(((h.todo.length:Nat):Int) == 0)=false:=p2;refine⟨?_,trivial⟩;exact(hx.trans (if_neg fun z=>H6 p2 z.2)).symm
   · have p1:¬h.aA[q.id.toNat] = -1:=by have p1:(h.aA[q.id.toNat] == -1)=false:=p1; simpa using p1
     refine⟨?_,trivial⟩;exact(hx.trans (if_neg fun z=>p1 z.1)).symm
 have c7:¬q.kind=7:=by have c7:(q.kind == 7)=false:=c7; simpa using c7
 exfalso; omega
def fY (w:List (List ay)) (now:Int):List ay:=(cB w).filter fun p=>decide (p.tm≤now)
def ta (c:bh) (now:Int):List Int:=(fY c.spoke now).map fun p=>p.pid
def b0 (h:al) (k:Int):List Int:=if ew h k=true then ta (aE h k) h.now else[]
theorem H8 (w:List (List ay)):(cB w).length≤10:=by
 rcases hb:bu w with _ | _
 · rw[Bu hb]; simp
 · rw[Bt hb,kh]; exact(xM hb).dy
theorem H9 (w:List (List ay)) (now:Int):(fY w now).length≤10:=Nat.le_trans (List.length_filter_le _ _) (H8 w)
theorem Pp {α:Type} {q:α→Bool} {l:List α} {i:Nat} (h:i<l.length) (hq:q l[i]=true):(l.take i).filter q ++ [l[i]]=(l.take (i+1)).filter q:=by
 rw[List.take_add_one,List.getElem?_eq_getElem h,List.filter_append]; simp[hq]
theorem Pq {α:Type} {q:α→Bool} {l:List α} {i:Nat} (h:i<l.length) (hq:q l[i]=false):(l.take i).filter q=(l.take (i+1)).filter q:=by
 rw[List.take_add_one,List.getElem?_eq_getElem h,List.filter_append]; simp[hq]
theorem tc {α:Type} {l:List α} {d:α} {i:Nat} (h:i<l.length):l.getD ((i:Int)).toNat d=l[i]:=by rw[Int.toNat_natCast,List.getD_eq_getElem?_getD,List.getElem?_eq_getElem h]; rfl
set_option maxHeartbeats 1000000 in
theorem Pr (w:List (List ay)) (hw:eY w) (now:Int) (x:List ay) (hx:x=fY w now):Spec Tryz.prog 71 [lh w,iA now] (aM (lR .aI fun _=>x)):=by
 have dy:=H8 w;refine aN aD Tryz.func71 rfl rfl (fr:=true) (fun _=>by kernel_rfl) fun P hP hA=> ?_;cbv;refine ag.by hP (GJ w hw (cB w) rfl) ?_;cbv;refine aW.by (X:=Nat) (fun i=>[(1,iA now),(5,oN 0),(9,oN 1),(10,nT fun _=>(cB w).length),(11,nT fun _=>i)]) (fun i=>[(0,aK .aI fun _=>((cB w).take i).filter fun p=>decide (p.tm≤now)),(1,aK .aI fun _=>cB w)]) (fun i=>i≤(cB w).length) (fun i _=>(cB w).length - i) 0 (Nat.zero_le _) ?_ ?_
 · cbv
   repeat' first | exact trivial | refine⟨rfl, ?_⟩ | fail
 · intro i hi;cbv;refine Br.dec (fun h2=> ?_) (fun h2=> ?_) <;> cbv
   rotate_left
   · have h2:(cB w).length≤i:=by simp at h2; omega
     refine⟨?_,trivial⟩;show((cB w).take i).filter (fun p=>decide (p.tm≤now))=x;rw[List.take_of_length_le h2,hx]; rfl
   have h2:i<(cB w).length:=by simpa using h2
   have gi:(cB w).getD ((i:Int)).toNat default=(cB w)[i]:=tc h2;have oi:0≤(i:Int)∧(i:Int)<((cB w).length:Int):=by omega
   have ob:(List.length (((cB w).take i).filter fun p=>decide (p.tm≤now))+1)*16≤140737488355328:=by
     have:=List.length_filter_le (fun p:ay=>decide (p.tm≤now)) ((cB w).take i);rw[List.length_take] at this;omega
   have yes:((cB w).getD ((i:Int)).toNat default).tm≤now→(((cB w).take i).filter fun p=>decide (p.tm≤now)) ++ [(cB w).getD ((i:Int)).toNat default]=((cB w).take (i+1)).filter fun p=>decide (p.tm≤now):=fun q=>by
     rw[gi] at q ⊢; exact Pp h2 (decide_eq_true q)
   have no:¬((cB w).getD ((i:Int)).toNat default).tm≤now→(((cB w).take i).filter fun p=>decide (p.tm≤now))=((cB w).take (i+1)).filter fun p=>decide (p.tm≤now):=fun q=>by
     rw[gi] at q; exact Pq h2 (decide_eq_false q)
   refine⟨oi, ?_⟩;cbv;refine Br.dec (fun h3=> ?_) (fun h3=> ?_) <;> cbv
   · refine⟨ob, ?_⟩;cbv;refine Ar.exact (by(try simp only[nc] at *); omega) (by(try simp only[nc] at *); omega) ?_;cbv;refine aO.by (i+1) ?_ ?_ ?_
     · show(cB w).length - (i+1)<(cB w).length - i;omega
     · exact h2
     · cbv
       repeat' first | exact trivial | refine⟨rfl, ?_⟩ | fail
       refine⟨yes h3, ?_⟩
       repeat' first | exact trivial | refine⟨rfl, ?_⟩ | fail
   · refine Ar.exact (by(try simp only[nc] at *); omega) (by(try simp only[nc] at *); omega) ?_;cbv;refine aO.by (i+1) ?_ ?_ ?_
     · show(cB w).length - (i+1)<(cB w).length - i;omega
     · exact h2
     · cbv
       repeat' first | exact trivial | refine⟨rfl, ?_⟩ | fail
       refine⟨no h3, ?_⟩
       repeat' first | exact trivial | refine⟨rfl, ?_⟩ | fail
set_option maxHeartbeats 1000000 in
theorem Ps (h:al) (k:Int) (hs:bJ h) (x:List Int) (hx:x=b0 h k):Spec Tryz.prog 22 [dV h,iA k] (aM (lR .int fun _=>x)):=by
 refine aN aD Tryz.func22 rfl rfl (fr:=true) (fun _=>by kernel_rfl) fun P hP hA=> ?_;cbv;refine ag.by hP (GW h k hs (ew h k) rfl) ?_;cbv;refine Br.split (fun kc=> ?_) (fun kc=> ?_) <;> cbv
 · have kc:(!ew h k)=true:=kc;obtain rfl:x = []:=hx.trans (if_neg (by intro q; rw[q] at kc; cases kc))
   repeat' first | exact trivial | refine⟨rfl, ?_⟩ | fail
 have kc:(!ew h k)=false:=kc;have kc:ew h k=true:=by simpa using kc
 have kk:=Bool.and_eq_true_iff.1 kc;obtain⟨n,hn,rfl,ec⟩:=xO kk.2;have hx:=hx.trans ((if_pos kc).trans (by rw[ec]));refine⟨h.cabins[n],by simp,get_cast h.cabins hn, ?_⟩;cbv;refine ag.by hP (Pr h.cabins[n].spoke (eY.ah hs.2.2.1 hn) h.now (fY h.cabins[n].spoke h.now) rfl) ?_;cbv;refine aW.by (X:=Nat) (fun i=>[(5,oN 0),(20,oN 1),(21,nT fun _=>(fY h.cabins[n].spoke h.now).length),(22,nT fun _=>i)]) (fun i=>[(0,aK .int fun _=>((fY h.cabins[n].spoke h.now).take i).map fun p=>p.pid),(1,aK .aI fun _=>fY h.cabins[n].spoke h.now)]) (fun i=>i≤(fY h.cabins[n].spoke h.now).length) (fun i _=>(fY h.cabins[n].spoke h.now).length - i) 0 (Nat.zero_le _) ?_ ?_
 · cbv
   repeat' first | exact trivial | refine⟨rfl, ?_⟩ | fail
 · intro i hi;cbv;refine Br.dec (fun h2=> ?_) (fun h2=> ?_) <;> cbv
   rotate_left
   · have h2:(fY h.cabins[n].spoke h.now).length≤i:=by simp at h2; omega
     refine⟨?_,trivial⟩;show((fY h.cabins[n].spoke h.now).take i).map (fun p=>p.pid)=x;rw[List.take_of_length_le h2,hx]; rfl
   have h2:i<(fY h.cabins[n].spoke h.now).length:=by simpa using h2
   have dy:=H9 h.cabins[n].spoke h.now;have gi:(fY h.cabins[n].spoke h.now).getD ((i:Int)).toNat default=(fY h.cabins[n].spoke h.now)[i]:=tc h2;have oi:0≤(i:Int)∧(i:Int)<((fY h.cabins[n].spoke h.now).length:Int):=by omega
   have ob:(List.length (((fY h.cabins[n].spoke h.now).take i).map fun p=>p.pid)+1)*8≤140737488355328:=by
     rw[List.length_map,List.length_take]; omega
   have st:(((fY h.cabins[n].spoke h.now).take i).map fun p=>p.pid) ++ [((fY h.cabins[n].spoke h.now).getD ((i:Int)).toNat default).pid]=((fY h.cabins[n].spoke h.now).take (i+1)).map fun p=>p.pid:=by
     rw[gi,List.take_add_one,List.getElem?_eq_getElem h2,List.map_append]; rfl
   refine⟨oi, ?_⟩;cbv;refine⟨ob, ?_⟩;cbv;refine Ar.exact (by(try simp only[nc] at *); omega) (by(try simp only[nc] at *); omega) ?_;cbv;refine aO.by (i+1) ?_ ?_ ?_
   · show(fY h.cabins[n].spoke h.now).length - (i+1)<(fY h.cabins[n].spoke h.now).length - i;omega
   · exact h2
   · cbv
     repeat' first | exact trivial | refine⟨rfl, ?_⟩ | fail
     refine⟨st, ?_⟩
     repeat' first | exact trivial | refine⟨rfl, ?_⟩ | fail
theorem H_ {h:al} (hg:HG h) {k:Nat} (hk:k<h.cabins.length) (now:Int):(eF h.rules (k:Int) now h.ae).length≤10:=by
 have h1:=(hg.at_ hk).dy;have h2:=(fv hg.rules).room;exact BA (by omega)
end Go.Proofs.YtpklefhdkkegiaaGreat

