/- Parts of a proof. No conditions. -/

import Derived.Test.YtpklefhdkkegiaaGreatG13
set_option linter.unusedSimpArgs false
set_option linter.unusedVariables false
namespace Go.Proofs.YtpklefhdkkegiaaGreat
open Go
set_option maxRecDepth 100000
def aE (h:al) (k:Int):bh:=(h.cabins[k.toNat]?).getD default
def ew (h:al) (k:Int):Bool:=dH h && aj k 0 ((h.cabins.length:Int) - 1)
def fx (c:bh):Int:=c.ai.bg - c.ai.tied
theorem xO {h:al} {k:Int} (hk:aj k 0 ((h.cabins.length:Int) - 1)=true):∃i:Nat,∃hi:i<h.cabins.length,k=(i:Int)∧aE h (i:Int)=h.cabins[i]:=by
 obtain⟨h0,h1⟩:=bF hk;refine⟨k.toNat,by omega,by omega, ?_⟩;rw[aE,Int.toNat_natCast,List.getElem?_eq_getElem (by omega)]; rfl
structure ND (x:bA):Prop where
 total:1≤x.total∧x.total≤60
 free:0≤x.free∧x.free≤x.total
 held:0≤x.held∧x.held≤x.total
 bg:0≤x.bg∧x.bg≤x.total
 sum:x.free+x.held+x.bg=x.total
 tied:0≤x.tied∧x.tied≤x.bg
theorem qb {x:bA} (h:aZ x=true):ND x:=by
 simp only[aZ,Bool.and_eq_true,decide_eq_true_eq] at h;obtain⟨a,b,c,d,e,f⟩:=h;exact⟨bF a,bF b,bF c,bF d,e,bF f⟩
structure NG (h:al) (k:Nat) (c:bh):Prop where
 total:c.ai.total=h.rules.ai.getD k 0
 kD:aZ c.ai=true
 q :dg c.row=true
 w :bu c.spoke=true
 dy:((aV (bL (k:Int)) h.ae:Nat):Int)≤h.rules.room
 row:c.row=eN h.rules h.ae (k:Int) h.now
 pins:cB c.spoke=fJ h.ae (k:Int)
 held:c.ai.held=((aV (cg (k:Int)) h.ae:Nat):Int)
 tied:c.ai.tied=((aV (cu (k:Int)) h.ae:Nat):Int)
theorem HG.at_ {h:al} (hg:HG h) {k:Nat} (hk:k<h.cabins.length):NG h k h.cabins[k]:=by
 have hc:=hg.ah k _ (List.getElem?_eq_getElem hk);simp only[g_,fh,jT,Bool.and_eq_true,decide_eq_true_eq,beq_iff_eq] at hc;obtain⟨a,b,⟨c,d,e⟩,f,g,i,j⟩:=hc;exact⟨a,c,d,e,b,f,g,i,j⟩
theorem GS (h:al) (k:Int) (hk:ew h k=true) (x:Int) (hx:x=fx (aE h k)):Spec Tryz.prog 97 [dV h,iA k] (aM (iR fun _=>x)):=by
 refine aN aD Tryz.func97 rfl rfl (fr:=true) (fun _=>by kernel_rfl) fun P hP hA=> ?_;have hk:=Bool.and_eq_true_iff.1 hk;obtain⟨i,hi,rfl,e⟩:=xO hk.2;have hl:=qb ((iD.1 hk.1).at_ hi).kD;obtain⟨t0,t1⟩:=hl.total;obtain⟨s0,s1⟩:=hl.bg;obtain⟨u0,u1⟩:=hl.tied;cbv;refine⟨h.cabins[i],by simp,get_cast h.cabins hi, ?_⟩;cbv;refine⟨h.cabins[i],by simp,get_cast h.cabins hi, ?_⟩;cbv;refine Ar.exact (by(try simp only[nc] at *); omega) (by(try simp only[nc] at *); omega) ?_;cbv;refine⟨?_,trivial⟩;exact(hx.trans (by rw[e]; rfl)).symm
theorem GU (h:al) (k:Int) (hk:ew h k=true) (x:Int) (hx:x=fx (aE h k)):Spec Tryz.prog 104 [dV h,iA k] (aM (iR fun _=>x)):=by
 refine aN aD Tryz.func104 rfl rfl (fr:=true) (fun _=>by kernel_rfl) fun P hP hA=> ?_;have hk:=Bool.and_eq_true_iff.1 hk;obtain⟨i,hi,rfl,e⟩:=xO hk.2;have hl:=qb ((iD.1 hk.1).at_ hi).kD;obtain⟨t0,t1⟩:=hl.total;obtain⟨s0,s1⟩:=hl.bg;obtain⟨u0,u1⟩:=hl.tied;cbv;refine⟨h.cabins[i],by simp,get_cast h.cabins hi, ?_⟩;cbv;refine⟨h.cabins[i],by simp,get_cast h.cabins hi, ?_⟩;cbv;refine Ar.exact (by(try simp only[nc] at *); omega) (by(try simp only[nc] at *); omega) ?_;cbv;refine⟨?_,trivial⟩;exact(hx.trans (by rw[e]; rfl)).symm
end Go.Proofs.YtpklefhdkkegiaaGreat
namespace Go.Proofs.YtpklefhdkkegiaaGreat
open Go
set_option maxRecDepth 100000
def eO (h:al) (id:Int):ax:=(h.ae[(bq h.ae id).toNat]?).getD default
structure BC (h:al) (id:Int) (i:Nat) (c:Nat):Prop where
 lt:i<h.ae.length
 at_:bq h.ae id=(i:Int)
 aB:eO h id=h.ae[i]
 id:h.ae[i].id=id
 ok:bz h.rules h.ae[i] h.now=true
 ah:h.ae[i].ah=(c:Int)
 clt:c<h.cabins.length
 Rp:aE h (c:Int)=h.cabins[c]
theorem known {h:al} {id:Int} (hg:HG h) (hk:0≤bq h.ae id):∃i c,BC h id i c:=by
 rcases iC (fun p:ax=>p.id == id) h.ae with⟨e,_⟩ | ⟨i,hi,e,e1,_⟩
 · have:bq h.ae id = -1:=e;omega
 · have e:bq h.ae id=(i:Int):=e;have ok:=(hg.ae.ok _ (List.getElem_mem hi)).1;have GV:=ok;simp only[bz,Bool.and_eq_true] at GV;obtain⟨_,_,_,hc,_⟩:=GV;obtain⟨c0,c1⟩:=bF hc;have hl:=hg.iX;refine⟨i,h.ae[i].ah.toNat,hi,e, ?_,beq_iff_eq.1 e1,ok,by omega,by omega, ?_⟩
   · rw[eO,e,Int.toNat_natCast,List.getElem?_eq_getElem hi]; rfl
   · rw[aE,Int.toNat_natCast,List.getElem?_eq_getElem (by omega)]; rfl
end Go.Proofs.YtpklefhdkkegiaaGreat

