/- Parts of a proof. No conditions. -/

import Derived.Test.YtpklefhdkkegiaaGreatG16
import Derived.Test.YtpklefhdkkegiaaGreatG19
import Derived.Test.YtpklefhdkkegiaaGreatG07
import Derived.Test.YtpklefhdkkegiaaGreatG20
set_option linter.unusedSimpArgs false
set_option linter.unusedVariables false
namespace Go.Proofs.YtpklefhdkkegiaaGreat
open Go
set_option maxRecDepth 100000
theorem oI {h:al} {q:cf} (hv:bx h q=0):dH h=true∧aj q.kind 1 7=true∧dB q=true:=by
 cases h0:dH h with
 | false=>rw[B4 h0] at hv; cases hv
 | true=>
   cases h1:aj q.kind 1 7 with
   | false=>rw[B5 h0 h1] at hv; cases hv
   | true=>
     cases h2:dB q with
     | false=>rw[B6 h0 h1 h2] at hv; cases hv
     | true=>exact⟨rfl,rfl,rfl⟩
def oJ (k n:Int):cf:=⟨3,0,k,0,n,0⟩
def IE (h:al) (k:Int) (n df dh ds dt:Int):List bh:=h.cabins.set k.toNat {aE h k with ai:=bW (aE h k).ai n df dh ds dt}
def oK (h:al) (k n:Int):al:={h with cabins:=IE h k n 1 0 (-1) 0,todo:=fj h.todo k}
def tq (h:al) (k n:Int):al:=if bx h (oJ k n)=0 then oK h k n else h
theorem P7 {h:al} {k n:Int} (hv:bx h (oJ k n)=0):∃i:Nat,i<h.cabins.length∧k=(i:Int):=by
 obtain⟨h0,h1,h2⟩:=oI hv;rw[B9 h0 h2 rfl,BY] at hv;cases h3:gN h k with
 | false=>rw[if_pos (show gN h (oJ k n).ah=false from h3)] at hv; cases hv
 | true=>
   have:=bF h3;exact⟨k.toNat,by omega,by omega⟩
set_option maxHeartbeats 1000000 in
theorem P8 (h:al) (k n:Int) (hs:bJ h) (x:al) (hx:x=tq h k n) (c:Int) (hc:c=bx h (oJ k n)):Spec Tryz.prog 90 [dV h,iA k,iA n] (aM (.ba [(true,jq fun _=>x),(false,[.int .i64 fun _=>c])])):=by
 refine aN aD Tryz.func90 rfl rfl (fr:=true) (fun _=>by kernel_rfl) fun P hP hA=> ?_;cbv;refine ag.by hP (iE h hs) ?_;cbv;refine ag.by hP (jw h (oJ k n) hs c hc) ?_;cbv;refine Br.split (fun k0=> ?_) (fun k0=> ?_) <;> cbv
 · have k0:(c != 0)=true:=k0;have k0:¬c=0:=by simpa using k0
   obtain rfl:x=h:=hx.trans (if_neg (by rw[←hc]; exact k0))
   repeat' first | exact trivial | refine⟨rfl, ?_⟩ | fail
 have k0:(c != 0)=false:=k0;obtain rfl:c=0:=by simpa using k0
 obtain⟨i,hi,rfl⟩:=P7 hc.symm;obtain rfl:x=oK h (i:Int) n:=hx.trans (if_pos hc.symm);have oi:0≤(i:Int)∧(i:Int)<(h.cabins.length:Int):=by omega
 repeat' first
   | exact trivial
   | (refine Ob.mk (oi) ?_; cbv)
   | (refine ag.by hP (G0 (h.cabins.getD ((i:Int)).toNat default).ai n (bW (aE h (i:Int)).ai n 1 0 (-1) 0) rfl (bS (aE h (i:Int)).ai n 1 0 (-1) 0) rfl) ?_; cbv)
   | (refine Sv.mk (fun _=>(oK h (i:Int) n).cabins) (rfl) ?_; cbv)
   | (refine ag.by hP (rr h.todo (i:Int) hs.2.2.2.1 (fj h.todo (i:Int)) rfl) ?_; cbv)
   | (refine Pz.mk ?_; cbv) | (refine bp.mk ?_ (by kernel_rfl) ?_; rotate_left; cbv; rotate_right) | refine⟨rfl, ?_⟩ | refine And.intro ?_ ?_ | exact rfl | fail
def rF:cf:=⟨6,0,0,0,0,0⟩
def Cs (h:al) (k:Nat) (c:bh):bh:={c with row:=eN h.rules h.ae (k:Int) (h.now+1)}
def gP (h:al) (i:Nat):List bh:=h.cabins.mapIdx fun k c=>if k<i then Cs h k c else c
def jZ (h:al):Nat→List Int
 | 0=>h.todo
 | i+1=>if ju h (i:Int)>0 then fj (jZ h i) (i:Int) else jZ h i
def IF (h:al) (i:Nat):al:={h with now:=h.now+1,cabins:=gP h i,todo:=jZ h i}
def tu (h:al):al:=if bx h rF=0 then IF h h.cabins.length else h
theorem tv (h:al) (i:Nat):(gP h i).length=h.cabins.length:=by simp[gP]
theorem P9 (h:al):gP h 0=h.cabins:=by
 apply List.ext_getElem?;intro j;simp[gP]
theorem P_ (h:al) {i:Nat} (hi:i<h.cabins.length):(gP h i).getD i default=h.cabins[i]:=by
 rw[List.getD_eq_getElem?_getD,List.getElem?_eq_getElem (by rw[tv]; exact hi)];simp[gP]
theorem Qa (h:al) {i:Nat} (hi:i<h.cabins.length):(gP h i).set i (Cs h i ((gP h i).getD i default))=gP h (i+1):=by
 rw[P_ h hi];apply List.ext_getElem?;intro j;rw[List.getElem?_set,tv]
 by_cases e:i=j
 · subst e;rw[if_pos rfl,if_pos hi];simp[gP,hi]
 · rw [if_neg e];simp only[gP,List.getElem?_mapIdx];cases hj:h.cabins[j]? with
   | none=>rfl
   | some c=>
     simp only[Option.map_some]
     congr 1
     by_cases q:j<i
     · rw[if_pos q,if_pos (by omega)]
     · rw[if_neg q,if_neg (by omega)]
theorem xZ (l:List Int) (k:Int):(fj l k).length≤l.length+1:=by
 unfold fj; split
 · omega
 · simp
theorem Ct (h:al):∀i,(jZ h i).length≤h.todo.length+i
 | 0=>Nat.le_refl _
 | i + 1=>by
   have ih:=Ct h i;rw[jZ]; split
   · have:=xZ (jZ h i) (i:Int); omega
   · omega
theorem Qb (h:al) {i:Nat} (q:ju h (i:Int)>0):fj (jZ h i) (i:Int)=jZ h (i+1):=(if_pos q).symm
theorem Qc (h:al) {i:Nat} (q:¬ju h (i:Int)>0):jZ h i=jZ h (i+1):=(if_neg q).symm
set_option maxHeartbeats 2000000 in
theorem Qd (h:al) (hs:bJ h) (x:al) (hx:x=tu h) (c:Int) (hc:c=bx h rF):Spec Tryz.prog 93 [dV h] (aM (.ba [(true,jq fun _=>x),(false,[.int .i64 fun _=>c])])):=by
 have s1:=hs.1;have s2:=hs.2.1;have s4:h.todo.length≤1048576:=hs.2.2.2.1;refine aN aD Tryz.func93 rfl rfl (fr:=true) (fun _=>by kernel_rfl) fun P hP hA=> ?_;cbv;refine ag.by hP (iE h hs) ?_;cbv;refine ag.by hP (jw h rF hs c hc) ?_;cbv;refine Br.split (fun k0=> ?_) (fun k0=> ?_) <;> cbv
 · have k0:(c != 0)=true:=k0;have k0:¬c=0:=by simpa using k0
   obtain rfl:x=h:=hx.trans (if_neg (by rw[←hc]; exact k0))
   repeat' first | exact trivial | refine⟨rfl, ?_⟩ | fail
 have k0:(c != 0)=false:=k0;obtain rfl:c=0:=by simpa using k0
 obtain rfl:x=IF h h.cabins.length:=hx.trans (if_pos hc.symm);have hg:=iD.1 (oI hc.symm).1;have hn:=bF hg.now;have eJ:=hg.iX;have wS:=(fv hg.rules).len;refine Ar.exact (by(try simp only[nc] at *); omega) (by(try simp only[nc] at *); omega) ?_;cbv;refine aW.by (X:=Nat) (fun i=>[(2,pN 0),(4,pN 1),(22,nT fun _=>h.cabins.length),(23,nT fun _=>i)]) (fun i=>[(0, .box [.nil, .lf (.int .i64 fun _=>0), .lf (.int .i64 fun _=>0), .lf (.int .i64 fun _=>0), .lf (.int .i64 fun _=>0), .lf (.int .i64 fun _=>0), .lf (.int .i64 fun _=>0), .lf (.int .i64 fun _=>0), .lf (.int .i64 fun _=>0), .lf (.int .i64 fun _=>0), .lf (.int .i64 fun _=>0), .nil, .nil, .nil, .nil]),(1, .box [.own 2, .lf (.int .i64 fun _=>h.rules.cd), .lf (.int .i64 fun _=>h.rules.room), .lf (.int .i64 fun _=>h.rules.size), .lf (.int .i64 fun _=>h.rules.period), .lf (.int .i64 fun _=>h.rules.cC), .lf (.int .i64 fun _=>h.rules.rest), .lf (.int .i64 fun _=>h.rules.tries), .lf (.int .i64 fun _=>h.rules.bO), .lf (.int .i64 fun _=>h.now+1), .lf (.int .i64 fun _=>h.az), .own 3, .own 4, .own 5, .own 6]),(2,aK .int fun _=>h.rules.ai),(3,aK .aB fun _=>h.ae),(4,aK .ah fun _=>gP h i),(5,aK .int fun _=>jZ h i),(6,aK .int fun _=>h.aA)]) (fun i=>i≤h.cabins.length) (fun i _=>h.cabins.length - i) 0 (Nat.zero_le _) ?_ ?_
 · cbv
   repeat' first | exact trivial | refine⟨rfl, ?_⟩ | refine⟨(P9 h).symm, ?_⟩ | fail
 · intro i hi;have tl:=tv h i;cbv;refine Br.dec (fun h2=> ?_) (fun h2=> ?_) <;> cbv
   rotate_left
   · have h2:h.cabins.length≤i:=by simp[tv] at h2; omega
     obtain rfl:i=h.cabins.length:=Nat.le_antisymm hi h2
     repeat' first | exact trivial | refine⟨rfl, ?_⟩ | fail
   have h2:i<h.cabins.length:=by simpa [tv] using h2
   have q1:=H_ hg h2 (h.now+1);have oi:0≤(i:Int)∧(i:Int)<((gP h i).length:Int):=by omega
   have st:(gP h i).set ((i:Int)).toNat (Cs h i ((gP h i).getD ((i:Int)).toNat default))=gP h (i+1):=by rw[Int.toNat_natCast]; exact Qa h h2
   have lt:=Ct h i;have lf:=qo hg
   repeat' first
     | exact trivial
     | (refine ag.by hP (Gq h.rules h.ae (i:Int) (h.now+1) s1 s2 q1) ?_; cbv)
     | (refine Ob.mk (oi) ?_; cbv)
     | (refine Sv.mk (fun _=>gP h (i+1)) (st) ?_; cbv)
     | (refine ag.by hP (A6 h.ae (i:Int) s2) ?_; cbv)
     | (refine Pz.mk ?_; cbv) | (refine bp.mk ?_ (by kernel_rfl) ?_; rotate_left; cbv; rotate_right) | refine⟨rfl, ?_⟩ | refine And.intro ?_ ?_ | exact rfl | fail
   refine Br.dec (fun h3=> ?_) (fun h3=> ?_) <;> cbv
   · have h3:ju h (i:Int)>0:=h3;refine ag.by hP (rr (jZ h i) (i:Int) (by show _≤1048576; omega) (jZ h (i+1)) (Qb h h3).symm) ?_;cbv;refine Ar.exact (by(try simp only[nc] at *); omega) (by(try simp only[nc] at *); omega) ?_;cbv;refine aO.by (i+1) ?_ ?_ ?_
     · show h.cabins.length - (i+1)<h.cabins.length - i;omega
     · exact h2
     · cbv
       repeat' first | exact trivial | refine⟨rfl, ?_⟩ | fail
   · have h3:¬ju h (i:Int)>0:=h3;refine Ar.exact (by(try simp only[nc] at *); omega) (by(try simp only[nc] at *); omega) ?_;cbv;refine aO.by (i+1) ?_ ?_ ?_
     · show h.cabins.length - (i+1)<h.cabins.length - i;omega
     · exact h2
     · cbv
       repeat' first | exact trivial | refine⟨rfl, ?_⟩ | refine⟨Qc h h3, ?_⟩ | fail
end Go.Proofs.YtpklefhdkkegiaaGreat

