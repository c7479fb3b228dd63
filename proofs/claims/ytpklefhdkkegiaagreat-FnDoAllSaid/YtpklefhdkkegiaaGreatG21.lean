/- Parts of a proof. No conditions. -/

import Derived.Test.YtpklefhdkkegiaaGreatG16
import Derived.Test.YtpklefhdkkegiaaGreatG19
import Derived.Test.YtpklefhdkkegiaaGreatG07
import Derived.Test.YtpklefhdkkegiaaGreatG20
set_option linter.unusedSimpArgs false
set_option linter.unusedVariables false
namespace Go.Proofs.YtpklefhdkkegiaaGreat
open Go
set_option maxRecDepth 100000
theorem l4 {h:ai} {q:bS} (hv:aU h q=0):bU h=true∧ak q.kind 1 7=true∧eo q=true:=by
 cases h0:bU h with
 | false=>rw[yB h0] at hv; cases hv
 | true=>
   cases h1:ak q.kind 1 7 with
   | false=>rw[Fh h0 h1] at hv; cases hv
   | true=>
     cases h2:eo q with
     | false=>rw[Fi h0 h1 h2] at hv; cases hv
     | true=>exact⟨rfl,rfl,rfl⟩
def kN (k n:Int):bS:=⟨3,0,k,0,n,0⟩
def L4 (h:ai) (k:Int) (n df dh ds dt:Int):List ba:=h.cabins.set k.toNat {aB h k with seats:=bz (aB h k).seats n df dh ds dt}
def lp (h:ai) (k n:Int):ai:={h with cabins:=L4 h k n 1 0 (-1) 0,todo:=eD h.todo k}
def ot (h:ai) (k n:Int):ai:=if aU h (kN k n)=0 then lp h k n else h
theorem FC {h:ai} {k n:Int} (hv:aU h (kN k n)=0):∃i:Nat,i<h.cabins.length∧k=(i:Int):=by
 obtain⟨h0,h1,h2⟩:=l4 hv;rw[Ba h0 h2 rfl,yz] at hv;cases h3:iI h k with
 | false=>rw[if_pos (show iI h (kN k n).ag=false from h3)] at hv; cases hv
 | true=>
   have:=bD h3;exact⟨k.toNat,by omega,by omega⟩
set_option maxHeartbeats 1000000 in
theorem T3 (h:ai) (k:Nat) (hk:k<h.cabins.length) (n:Int) (ht:h.todo.length≤aN):bJ Tryz.prog 264 [nf h,nT fun _=>k,iA n] (nU h) (dx (kB fun _=>lp h (k:Int) n) []):=by
 have oi:0≤(k:Int)∧(k:Int)<(h.cabins.length:Int):=by omega
 refine fp au Tryz.func264 rfl rfl (fr:=true) (fun _=>by kernel_rfl) rfl rfl fun P hP hA hB=> ?_;cbv
 repeat' first
  | exact trivial
  | (refine Ob.mk (oi) ?_; cbv)
  | (refine af.by hP (Kz (h.cabins.getD ((k:Int)).toNat default).seats n (bz (aB h (k:Int)).seats n 1 0 (-1) 0) rfl (bG (aB h (k:Int)).seats n 1 0 (-1) 0) rfl) ?_; cbv)
  | (refine Sv.mk (fun _=>(lp h (k:Int) n).cabins) (rfl) ?_; cbv)
  | (refine af.by hP (sD h.todo (k:Int) ht (eD h.todo (k:Int)) rfl) ?_; cbv)
  | (refine Pz.mk ?_; cbv) | (refine aW.mk ?_ (by kernel_rfl) ?_; rotate_left; cbv; rotate_right) | refine⟨rfl, ?_⟩ | refine And.intro ?_ ?_ | exact rfl | fail
set_option maxHeartbeats 1000000 in
theorem T4 (h:ai) (k n:Int) (hs:a_ h) (x:ai) (hx:x=ot h k n) (c:Int) (hc:c=aU h (kN k n)):Spec Tryz.prog 223 [cG h,iA k,iA n] (aG (.aS [(true,fb fun _=>x),(false,[.int .i64 fun _=>c])])):=by
 refine aF au Tryz.func223 rfl rfl (fr:=true) (fun _=>by kernel_rfl) fun P hP hA=> ?_;cbv;refine af.by hP (kg h hs) ?_;cbv;refine af.by hP (iY h (kN k n) hs c hc) ?_;cbv;refine Br.split (fun k0=> ?_) (fun k0=> ?_) <;> cbv
 · have k0:(c != 0)=true:=k0;have k0:¬c=0:=by simpa using k0
   obtain rfl:x=h:=hx.trans (if_neg (by rw[←hc]; exact k0))
   repeat' first | exact trivial | refine⟨rfl, ?_⟩ | fail
 have k0:(c != 0)=false:=k0;obtain rfl:c=0:=by simpa using k0
 obtain⟨i,hi,rfl⟩:=FC hc.symm;obtain rfl:x=lp h (i:Int) n:=hx.trans (if_pos hc.symm);refine aD.by hP (T3 h i hi n hs.2.2.2.1) ?_;cbv
 repeat' first | exact trivial | refine⟨rfl, ?_⟩ | fail
set_option maxHeartbeats 1000000 in
theorem T5 (h:ai) (k n:Int) (hs:a_ h) (x:ai) (hx:x=ot h k n) (c:Int) (hc:c=aU h (kN k n)):Spec Tryz.prog 90 [cG h,iA k,iA n] (aG (.aS [(true,fb fun _=>x),(false,[.int .i64 fun _=>c])])):=by
 refine aF au Tryz.func90 rfl rfl (fr:=true) (fun _=>by kernel_rfl) fun P hP hA=> ?_;cbv;refine af.by hP (jI h hs) ?_;cbv;refine af.by hP (jH h (kN k n) hs c hc) ?_;cbv;refine Br.split (fun k0=> ?_) (fun k0=> ?_) <;> cbv
 · have k0:(c != 0)=true:=k0;have k0:¬c=0:=by simpa using k0
   obtain rfl:x=h:=hx.trans (if_neg (by rw[←hc]; exact k0))
   repeat' first | exact trivial | refine⟨rfl, ?_⟩ | fail
 have k0:(c != 0)=false:=k0;obtain rfl:c=0:=by simpa using k0
 obtain⟨i,hi,rfl⟩:=FC hc.symm;obtain rfl:x=lp h (i:Int) n:=hx.trans (if_pos hc.symm);have oi:0≤(i:Int)∧(i:Int)<(h.cabins.length:Int):=by omega
 repeat' first
   | exact trivial
   | (refine Ob.mk (oi) ?_; cbv)
   | (refine af.by hP (KA (h.cabins.getD ((i:Int)).toNat default).seats n (bz (aB h (i:Int)).seats n 1 0 (-1) 0) rfl (bG (aB h (i:Int)).seats n 1 0 (-1) 0) rfl) ?_; cbv)
   | (refine Sv.mk (fun _=>(lp h (i:Int) n).cabins) (rfl) ?_; cbv)
   | (refine af.by hP (tZ h.todo (i:Int) hs.2.2.2.1 (eD h.todo (i:Int)) rfl) ?_; cbv)
   | (refine Pz.mk ?_; cbv) | (refine aW.mk ?_ (by kernel_rfl) ?_; rotate_left; cbv; rotate_right) | refine⟨rfl, ?_⟩ | refine And.intro ?_ ?_ | exact rfl | fail
def ou:bS:=⟨6,0,0,0,0,0⟩
def Bo (h:ai) (k:Nat) (c:ba):ba:={c with row:=fK h.rules h.ae (k:Int) (h.now+1)}
def fW (h:ai) (i:Nat):List ba:=h.cabins.mapIdx fun k c=>if k<i then Bo h k c else c
def i_ (h:ai):Nat→List Int
 | 0=>h.todo
 | i+1=>if jG h (i:Int)>0 then eD (i_ h i) (i:Int) else i_ h i
def wg (h:ai) (i:Nat):ai:={h with now:=h.now+1,cabins:=fW h i,todo:=i_ h i}
def ov (h:ai):ai:=if aU h ou=0 then wg h h.cabins.length else h
theorem pQ (h:ai) (i:Nat):(fW h i).length=h.cabins.length:=by simp[fW]
theorem L5 (h:ai):fW h 0=h.cabins:=by
 apply List.ext_getElem?;intro j;simp[fW]
theorem T6 (h:ai) {i:Nat} (hi:i<h.cabins.length):(fW h i).getD i default=h.cabins[i]:=by
 rw[List.getD_eq_getElem?_getD,List.getElem?_eq_getElem (by rw[pQ]; exact hi)];simp[fW]
theorem L6 (h:ai) {i:Nat} (hi:i<h.cabins.length):(fW h i).set i (Bo h i ((fW h i).getD i default))=fW h (i+1):=by
 rw[T6 h hi];apply List.ext_getElem?;intro j;rw[List.getElem?_set,pQ]
 by_cases e:i=j
 · subst e;rw[if_pos rfl,if_pos hi];simp[fW,hi]
 · rw [if_neg e];simp only[fW,List.getElem?_mapIdx];cases hj:h.cabins[j]? with
   | none=>rfl
   | some c=>
     simp only[Option.map_some]
     congr 1
     by_cases q:j<i
     · rw[if_pos q,if_pos (by omega)]
     · rw[if_neg q,if_neg (by omega)]
theorem A6 (l:List Int) (k:Int):(eD l k).length≤l.length+1:=by
 unfold eD; split
 · omega
 · simp
theorem Bp (h:ai):∀i,(i_ h i).length≤h.todo.length+i
 | 0=>Nat.le_refl _
 | i + 1=>by
   have ih:=Bp h i;rw[i_]; split
   · have:=A6 (i_ h i) (i:Int); omega
   · omega
theorem L7 (h:ai) {i:Nat} (q:jG h (i:Int)>0):eD (i_ h i) (i:Int)=i_ h (i+1):=(if_pos q).symm
theorem L8 (h:ai) {i:Nat} (q:¬jG h (i:Int)>0):i_ h i=i_ h (i+1):=(if_neg q).symm
set_option maxHeartbeats 2000000 in
theorem T7 (h:ai) (hs:a_ h) (x:ai) (hx:x=ov h) (c:Int) (hc:c=aU h ou):Spec Tryz.prog 226 [cG h] (aG (.aS [(true,fb fun _=>x),(false,[.int .i64 fun _=>c])])):=by
 have s1:=hs.1;have s2:=hs.2.1;have s4:h.todo.length≤1048576:=hs.2.2.2.1;refine aF au Tryz.func226 rfl rfl (fr:=true) (fun _=>by kernel_rfl) fun P hP hA=> ?_;cbv;refine af.by hP (kg h hs) ?_;cbv;refine af.by hP (iY h ou hs c hc) ?_;cbv;refine Br.split (fun k0=> ?_) (fun k0=> ?_) <;> cbv
 · have k0:(c != 0)=true:=k0;have k0:¬c=0:=by simpa using k0
   obtain rfl:x=h:=hx.trans (if_neg (by rw[←hc]; exact k0))
   repeat' first | exact trivial | refine⟨rfl, ?_⟩ | fail
 have k0:(c != 0)=false:=k0;obtain rfl:c=0:=by simpa using k0
 obtain rfl:x=wg h h.cabins.length:=hx.trans (if_pos hc.symm);have hg:=dy.1 (l4 hc.symm).1;have hn:=bD hg.now;have fA:=hg.fL;have xc:=(eB hg.rules).len;refine Ar.exact (by(try simp only[nc] at *); omega) (by(try simp only[nc] at *); omega) ?_;cbv;refine aR.by (X:=Nat) (fun i=>[(2,pN 0),(4,pN 1),(6,nT fun _=>i)]) (fun i=>[(0, .box [.nil, .lf (.int .i64 fun _=>0), .lf (.int .i64 fun _=>0), .lf (.int .i64 fun _=>0), .lf (.int .i64 fun _=>0), .lf (.int .i64 fun _=>0), .lf (.int .i64 fun _=>0), .lf (.int .i64 fun _=>0), .lf (.int .i64 fun _=>0), .lf (.int .i64 fun _=>0), .lf (.int .i64 fun _=>0), .nil, .nil, .nil, .nil]),(1, .box [.own 2, .lf (.int .i64 fun _=>h.rules.bX), .lf (.int .i64 fun _=>h.rules.room), .lf (.int .i64 fun _=>h.rules.size), .lf (.int .i64 fun _=>h.rules.period), .lf (.int .i64 fun _=>h.rules.bE), .lf (.int .i64 fun _=>h.rules.rest), .lf (.int .i64 fun _=>h.rules.tries), .lf (.int .i64 fun _=>h.rules.bm), .lf (.int .i64 fun _=>h.now+1), .lf (.int .i64 fun _=>h.aA), .own 3, .own 4, .own 5, .own 6]),(2,aH .int fun _=>h.rules.seats),(3,aH .aE fun _=>h.ae),(4,aH .ag fun _=>fW h i),(5,aH .int fun _=>i_ h i),(6,aH .int fun _=>h.aq)]) (fun i=>i≤h.cabins.length) (fun i _=>h.cabins.length - i) 0 (Nat.zero_le _) ?_ ?_
 · cbv
   repeat' first | exact trivial | refine⟨rfl, ?_⟩ | refine⟨(L5 h).symm, ?_⟩ | fail
 · intro i hi;have tl:=pQ h i;cbv;refine Br.dec (fun h2=> ?_) (fun h2=> ?_) <;> cbv
   rotate_left
   · have h2:h.cabins.length≤i:=by simp[pQ] at h2; omega
     obtain rfl:i=h.cabins.length:=Nat.le_antisymm hi h2
     repeat' first | exact trivial | refine⟨rfl, ?_⟩ | fail
   have h2:i<h.cabins.length:=by simpa [pQ] using h2
   have q1:=Fq hg h2 (h.now+1);have oi:0≤(i:Int)∧(i:Int)<((fW h i).length:Int):=by omega
   have st:(fW h i).set ((i:Int)).toNat (Bo h i ((fW h i).getD ((i:Int)).toNat default))=fW h (i+1):=by rw[Int.toNat_natCast]; exact L6 h h2
   have lt:=Bp h i;have lf:=qO hg
   repeat' first
     | exact trivial
     | (refine af.by hP (Eu h.rules h.ae (i:Int) (h.now+1) s1 s2) ?_; cbv)
     | (refine Ob.mk (oi) ?_; cbv)
     | (refine Sv.mk (fun _=>fW h (i+1)) (st) ?_; cbv)
     | (refine af.by hP (AB h.ae (i:Int) s2) ?_; cbv)
     | (refine Pz.mk ?_; cbv) | (refine aW.mk ?_ (by kernel_rfl) ?_; rotate_left; cbv; rotate_right) | refine⟨rfl, ?_⟩ | refine And.intro ?_ ?_ | exact rfl | fail
   refine Br.dec (fun h3=> ?_) (fun h3=> ?_) <;> cbv
   · have h3:jG h (i:Int)>0:=h3;refine af.by hP (sD (i_ h i) (i:Int) (by show _≤1048576; omega) (i_ h (i+1)) (L7 h h3).symm) ?_;cbv;refine Ar.exact (by(try simp only[nc] at *); omega) (by(try simp only[nc] at *); omega) ?_;cbv;refine aL.by (i+1) ?_ ?_ ?_
     · show h.cabins.length - (i+1)<h.cabins.length - i;omega
     · exact h2
     · cbv
       repeat' first | exact trivial | refine⟨rfl, ?_⟩ | fail
   · have h3:¬jG h (i:Int)>0:=h3;refine Ar.exact (by(try simp only[nc] at *); omega) (by(try simp only[nc] at *); omega) ?_;cbv;refine aL.by (i+1) ?_ ?_ ?_
     · show h.cabins.length - (i+1)<h.cabins.length - i;omega
     · exact h2
     · cbv
       repeat' first | exact trivial | refine⟨rfl, ?_⟩ | refine⟨L8 h h3, ?_⟩ | fail
set_option maxHeartbeats 2000000 in
theorem T8 (h:ai) (hs:a_ h) (x:ai) (hx:x=ov h) (c:Int) (hc:c=aU h ou):Spec Tryz.prog 93 [cG h] (aG (.aS [(true,fb fun _=>x),(false,[.int .i64 fun _=>c])])):=by
 have s1:=hs.1;have s2:=hs.2.1;have s4:h.todo.length≤1048576:=hs.2.2.2.1;refine aF au Tryz.func93 rfl rfl (fr:=true) (fun _=>by kernel_rfl) fun P hP hA=> ?_;cbv;refine af.by hP (jI h hs) ?_;cbv;refine af.by hP (jH h ou hs c hc) ?_;cbv;refine Br.split (fun k0=> ?_) (fun k0=> ?_) <;> cbv
 · have k0:(c != 0)=true:=k0;have k0:¬c=0:=by simpa using k0
   obtain rfl:x=h:=hx.trans (if_neg (by rw[←hc]; exact k0))
   repeat' first | exact trivial | refine⟨rfl, ?_⟩ | fail
 have k0:(c != 0)=false:=k0;obtain rfl:c=0:=by simpa using k0
 obtain rfl:x=wg h h.cabins.length:=hx.trans (if_pos hc.symm);have hg:=dy.1 (l4 hc.symm).1;have hn:=bD hg.now;have fA:=hg.fL;have xc:=(eB hg.rules).len;refine Ar.exact (by(try simp only[nc] at *); omega) (by(try simp only[nc] at *); omega) ?_;cbv;refine aR.by (X:=Nat) (fun i=>[(2,pN 0),(4,pN 1),(22,nT fun _=>h.cabins.length),(23,nT fun _=>i)]) (fun i=>[(0, .box [.nil, .lf (.int .i64 fun _=>0), .lf (.int .i64 fun _=>0), .lf (.int .i64 fun _=>0), .lf (.int .i64 fun _=>0), .lf (.int .i64 fun _=>0), .lf (.int .i64 fun _=>0), .lf (.int .i64 fun _=>0), .lf (.int .i64 fun _=>0), .lf (.int .i64 fun _=>0), .lf (.int .i64 fun _=>0), .nil, .nil, .nil, .nil]),(1, .box [.own 2, .lf (.int .i64 fun _=>h.rules.bX), .lf (.int .i64 fun _=>h.rules.room), .lf (.int .i64 fun _=>h.rules.size), .lf (.int .i64 fun _=>h.rules.period), .lf (.int .i64 fun _=>h.rules.bE), .lf (.int .i64 fun _=>h.rules.rest), .lf (.int .i64 fun _=>h.rules.tries), .lf (.int .i64 fun _=>h.rules.bm), .lf (.int .i64 fun _=>h.now+1), .lf (.int .i64 fun _=>h.aA), .own 3, .own 4, .own 5, .own 6]),(2,aH .int fun _=>h.rules.seats),(3,aH .aE fun _=>h.ae),(4,aH .ag fun _=>fW h i),(5,aH .int fun _=>i_ h i),(6,aH .int fun _=>h.aq)]) (fun i=>i≤h.cabins.length) (fun i _=>h.cabins.length - i) 0 (Nat.zero_le _) ?_ ?_
 · cbv
   repeat' first | exact trivial | refine⟨rfl, ?_⟩ | refine⟨(L5 h).symm, ?_⟩ | fail
 · intro i hi;have tl:=pQ h i;cbv;refine Br.dec (fun h2=> ?_) (fun h2=> ?_) <;> cbv
   rotate_left
   · have h2:h.cabins.length≤i:=by simp[pQ] at h2; omega
     obtain rfl:i=h.cabins.length:=Nat.le_antisymm hi h2
     repeat' first | exact trivial | refine⟨rfl, ?_⟩ | fail
   have h2:i<h.cabins.length:=by simpa [pQ] using h2
   have q1:=Fq hg h2 (h.now+1);have oi:0≤(i:Int)∧(i:Int)<((fW h i).length:Int):=by omega
   have st:(fW h i).set ((i:Int)).toNat (Bo h i ((fW h i).getD ((i:Int)).toNat default))=fW h (i+1):=by rw[Int.toNat_natCast]; exact L6 h h2
   have lt:=Bp h i;have lf:=qO hg
   repeat' first
     | exact trivial
     | (refine af.by hP (J4 h.rules h.ae (i:Int) (h.now+1) s1 s2 q1) ?_; cbv)
     | (refine Ob.mk (oi) ?_; cbv)
     | (refine Sv.mk (fun _=>fW h (i+1)) (st) ?_; cbv)
     | (refine af.by hP (D_ h.ae (i:Int) s2) ?_; cbv)
     | (refine Pz.mk ?_; cbv) | (refine aW.mk ?_ (by kernel_rfl) ?_; rotate_left; cbv; rotate_right) | refine⟨rfl, ?_⟩ | refine And.intro ?_ ?_ | exact rfl | fail
   refine Br.dec (fun h3=> ?_) (fun h3=> ?_) <;> cbv
   · have h3:jG h (i:Int)>0:=h3;refine af.by hP (tZ (i_ h i) (i:Int) (by show _≤1048576; omega) (i_ h (i+1)) (L7 h h3).symm) ?_;cbv;refine Ar.exact (by(try simp only[nc] at *); omega) (by(try simp only[nc] at *); omega) ?_;cbv;refine aL.by (i+1) ?_ ?_ ?_
     · show h.cabins.length - (i+1)<h.cabins.length - i;omega
     · exact h2
     · cbv
       repeat' first | exact trivial | refine⟨rfl, ?_⟩ | fail
   · have h3:¬jG h (i:Int)>0:=h3;refine Ar.exact (by(try simp only[nc] at *); omega) (by(try simp only[nc] at *); omega) ?_;cbv;refine aL.by (i+1) ?_ ?_ ?_
     · show h.cabins.length - (i+1)<h.cabins.length - i;omega
     · exact h2
     · cbv
       repeat' first | exact trivial | refine⟨rfl, ?_⟩ | refine⟨L8 h h3, ?_⟩ | fail
end Go.Proofs.YtpklefhdkkegiaaGreat

