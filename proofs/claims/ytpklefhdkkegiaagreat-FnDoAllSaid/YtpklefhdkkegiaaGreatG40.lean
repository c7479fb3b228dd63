/- Parts of a proof. No conditions. -/

import Derived.Test.YtpklefhdkkegiaaGreatGRetX
import Derived.Test.YtpklefhdkkegiaaGreatG04
import Derived.Test.YtpklefhdkkegiaaGreatG06
import Derived.Test.YtpklefhdkkegiaaGreatG05
set_option linter.unusedSimpArgs false
set_option linter.unusedVariables false
namespace Go.Proofs.YtpklefhdkkegiaaGreat
open Go
set_option maxRecDepth 100000
def dI (code:List UInt8) (i:Int):Prop:=0≤i∧i≤code.length
def f_ (code:List UInt8) (i h:Int):List (Nat × an):=[(0, .box [.own 1, .lf (.int .i64 fun _=>i), .lf (.int .i64 fun _=>h)]),(1, .view .byte fun _=>code)]
def Ql (i h:Int):List (Nat × dQ):=[(0, .box [.nm 1, .int .i64 fun _=>i, .int .i64 fun _=>h]),(1, .vw)]
def cP:V:= .c (.ptr 0 0)
def cJ {α:Type} (code:List UInt8) (φ:α→Prop) (s:α→dg):V→List (Nat × an)→Prop:=pf (α × Int × Int) (fun x=>φ x.1∧dI code x.2.1) (fun x=>s x.1) (fun x=>Ql x.2.1 x.2.2)
theorem Ar.any {k:IntKind} {t:Unit→Int} {K:(Unit→Int)→Prop} (h:∀u:Int,K fun _=>u):Ar k t K:=⟨fun _=>k.wrap (t ()),rfl,h _⟩
theorem Ar.sat {k:IntKind} {t:Unit→Int} {K:(Unit→Int)→Prop} (φ:Int→Prop) (zQ:φ (k.wrap (t ()))) (h:∀u:Int,φ u→K fun _=>u):Ar k t K:=⟨fun _=>k.wrap (t ()),rfl,h _ zQ⟩
theorem Ar.wr {k:IntKind} {t:Unit→Int} {K:(Unit→Int)→Prop} (h:K fun _=>k.wrap (t ())):Ar k t K:=⟨fun _=>k.wrap (t ()),rfl,h⟩
theorem Jt (a:Int):0≤IntKind.i64.wrap (((BitVec.ofInt 64 a &&& BitVec.ofInt 64 255).toNat:Nat):Int)∧IntKind.i64.wrap (((BitVec.ofInt 64 a &&& BitVec.ofInt 64 255).toNat:Nat):Int)≤255:=by
 have h:(BitVec.ofInt 64 a &&& BitVec.ofInt 64 255).toNat≤255:=by
  rw[BitVec.toNat_and];exact Nat.le_trans Nat.and_le_right (by decide)
 rw[qX (tc.2 ⟨by omega,by omega⟩)];omega
theorem xN (code:List UInt8) (i h:Int) (hi:dI code i) (hc:code.length≤aN):bJ Tryz.prog 158 [cP] (f_ code i h) (cJ code (fun x:Int=>0≤x∧x≤255) fun x=>iR fun _=>x):=by
 have hc:code.length≤1048576:=hc;obtain⟨i0,i1⟩:=hi;obtain⟨j,rfl⟩:∃j:Nat,i=j:=⟨i.toNat,by omega⟩;unfold cJ;refine eP (pk:=[0,1]) au Tryz.func158 rfl rfl (fr:=true) (fun _=>by kernel_rfl) (fun _=>rfl) rfl rfl fun P hP hA hB=> ?_;cbv;refine Ar.any fun u1=> ?_;cbv;refine Ar.any fun u2=> ?_;cbv;refine⟨by decide, ?_⟩;cbv;refine Ar.any fun u3=> ?_;cbv;refine⟨by decide, ?_⟩;cbv;refine Ar.any fun u4=> ?_;cbv;refine Ar.any fun u5=> ?_;cbv;refine Ar.sat (fun u=>0≤u∧u≤255) (Jt u5) fun u6 h6=> ?_;cbv;refine Br.dec (fun h7=> ?_) (fun h7=> ?_) <;> cbv
 · have h7:j<code.length:=by simpa using h7
   refine⟨code[j],by simp,get_cast code h7, ?_⟩;cbv;refine Ar.any fun u7=> ?_;cbv;refine Ar.sat (fun u=>0≤u∧u≤255) (Jt u7) fun u8 h8=> ?_;cbv;refine Ar.exact ?_ ?_ ?_
   · show -9223372036854775808≤(j:Int)+1;omega
   · show(j:Int)+1≤9223372036854775807;omega
   cbv;refine⟨(u8,(j:Int)+1,u2),⟨h8,by show 0≤(j:Int)+1; omega,by show(j:Int)+1≤code.length; omega⟩, ?_⟩;cbv
   repeat' first | exact trivial | refine⟨rfl, ?_⟩ | fail
 · refine⟨(u6,(j:Int),u2),⟨h6,i0,i1⟩, ?_⟩;cbv
   repeat' first | exact trivial | refine⟨rfl, ?_⟩ | fail
def Below (n x:Int):Prop:=0≤x∧(x<n∨x=0)
theorem Av {x n:Int} (hx:0≤x) (hn:0<n):Below n (x.tmod n):=
 ⟨Int.tmod_nonneg _ hx, .inl (Int.tmod_lt_of_pos _ hn)⟩
theorem cT (code:List UInt8) (i h n:Int) (hi:dI code i) (hc:code.length≤aN):bJ Tryz.prog 85 [cP,iA n] (f_ code i h) (cJ code (fun x:Int=>0≤x∧(x<n∨x=0)) fun x=>iR fun _=>x):=by
 unfold cJ;refine eP (pk:=[0,1]) au Tryz.func85 rfl rfl (fr:=true) (fun _=>by kernel_rfl) (fun _=>rfl) rfl rfl fun P hP hA hB=> ?_;cbv;refine Br.dec (fun h1=> ?_) (fun h1=> ?_) <;> cbv
 · refine⟨(0,i,h),⟨⟨Int.le_refl 0, .inr rfl⟩,hi⟩, ?_⟩;cbv
   repeat' first | exact trivial | refine⟨rfl, ?_⟩ | fail
 have h1:¬n≤0:=h1;refine Br.dec (fun h2=> ?_) (fun h2=> ?_) <;> cbv
 · refine aD.ex hP (xN code i h hi hc) fun⟨b,i2,h2⟩ ⟨hb,aw⟩=> ?_;cbv;have hb:0≤b∧b≤255:=hb;refine⟨by show¬n=0; omega, ?_⟩;cbv;refine⟨(b.tmod n,i2,h2),⟨Av hb.1 (by omega),aw⟩, ?_⟩;cbv
   repeat' first | exact trivial | refine⟨rfl, ?_⟩ | fail
 · refine aD.ex hP (xN code i h hi hc) fun⟨b,i2,h2⟩ ⟨hb,aw⟩=> ?_;cbv;have hb:0≤b∧b≤255:=hb;refine aD.ex hP (xN code i2 h2 aw hc) fun⟨b2,i3,h3⟩ ⟨eh,pj⟩=> ?_;cbv;have eh:0≤b2∧b2≤255:=eh;refine aD.ex hP (xN code i3 h3 pj hc) fun⟨b3,i4,h4⟩ ⟨ek,vG⟩=> ?_;cbv;have ek:0≤b3∧b3≤255:=ek;refine aD.ex hP (xN code i4 h4 vG hc) fun⟨b4,i5,h5⟩ ⟨sr,Qm⟩=> ?_;cbv;have sr:0≤b4∧b4≤255:=sr;refine Ar.exact (by show -9223372036854775808≤b*16777216; omega) (by show b*16777216≤9223372036854775807; omega) ?_;cbv;refine Ar.exact (by show -9223372036854775808≤b2*65536; omega) (by show b2*65536≤9223372036854775807; omega) ?_;cbv;refine Ar.exact (by show -9223372036854775808≤b*16777216+b2*65536; omega) (by show b*16777216+b2*65536≤9223372036854775807; omega) ?_;cbv;refine Ar.exact (by show -9223372036854775808≤b3*256; omega) (by show b3*256≤9223372036854775807; omega) ?_;cbv;refine Ar.exact (by show -9223372036854775808≤b*16777216+b2*65536+b3*256; omega) (by show b*16777216+b2*65536+b3*256≤9223372036854775807; omega) ?_;cbv;refine Ar.exact (by show -9223372036854775808≤b*16777216+b2*65536+b3*256+b4; omega) (by show b*16777216+b2*65536+b3*256+b4≤9223372036854775807; omega) ?_;cbv;refine⟨by show¬n=0; omega, ?_⟩;cbv;refine⟨((b*16777216+b2*65536+b3*256+b4).tmod n,i5,h5),⟨Av (by omega) (by omega),Qm⟩, ?_⟩;cbv
   repeat' first | exact trivial | refine⟨rfl, ?_⟩ | fail
theorem eQ (code:List UInt8) (i h:Int) (l:List Int) (hl:0<l.length) (hi:dI code i) (hc:code.length≤aN):bJ Tryz.prog 100 [cP,lA .int l] (f_ code i h) (cJ code (fun x:Int=>x∈l) fun x=>iR fun _=>x):=by
 unfold cJ;refine eP (pk:=[0,1]) au Tryz.func100 rfl rfl (fr:=true) (fun _=>by kernel_rfl) (fun _=>rfl) rfl rfl fun P hP hA hB=> ?_;cbv;refine aD.ex hP (cT code i h l.length hi hc) fun⟨b,i2,h2⟩ ⟨hb,aw⟩=> ?_;cbv;have hb:Below l.length b:=hb;obtain⟨rE,rW⟩:=hb;obtain⟨k,rfl⟩:∃k:Nat,b=k:=⟨b.toNat,by omega⟩;have hk:k<l.length:=by omega
 obtain⟨v,hv⟩:∃v,v=l[k]:=⟨_,rfl⟩;refine⟨v,by simp,by rw[hv]; exact get_cast l hk, ?_⟩;cbv;refine⟨(v,i2,h2),⟨by rw[hv]; exact List.getElem_mem hk,aw⟩, ?_⟩;cbv
 repeat' first | exact trivial | refine⟨rfl, ?_⟩ | fail
theorem Qn {α:Type} {l:List α} {i:Nat} (h:i<l.length):l.take (i+1)=l.take i ++ [l[i]]:=by
 rw[List.take_add_one,List.getElem?_eq_getElem h];rfl
def DY (h:Int) (b:UInt8):Int:=IntKind.i64.wrap (((BitVec.ofInt 64 (IntKind.i64.wrap (IntKind.i64.wrap (IntKind.i64.wrap (h*131)+(b.toNat:Int))+7)) &&& BitVec.ofInt 64 1073741823).toNat:Nat):Int)
def su (code:List UInt8) (i:Nat):Int:=(code.take i).foldl DY (28285+code.length)
theorem xO (code:List UInt8) (hc:code.length≤aN):bJ Tryz.prog 45 [.c (.own 0)] [(0, .view .byte fun _=>code)] (Aq (.c (.ptr 100 0)) [(0, .vw),(100, .box [.nm 0, .int .i64 fun _=>0, .int .i64 fun _=>su code (min code.length 4000)])]):=by
 have hc:code.length≤1048576:=hc;refine Jq au Tryz.func45 rfl rfl (fr:=true) (fun _=>by kernel_rfl) rfl rfl fun P hP hA hB=> ?_;cbv;refine Ar.exact (by show -9223372036854775808≤28285+(code.length:Int); omega) (by show 28285+(code.length:Int)≤9223372036854775807; omega) ?_;cbv;refine aR.by (X:=Nat × Int) (fun p=>[(0,oN 0),(3,iT fun _=>p.2),(4,nT fun _=>p.1)]) (fun p=>[(0, .view .byte fun _=>code)]) (fun p=>p.1≤code.length∧p.1≤4000∧p.2=su code p.1) (fun p _=>4000 - p.1) (0,28285+code.length) ⟨Nat.zero_le _,Nat.zero_le _,rfl⟩ ?_ ?_
 · cbv
   repeat' first | exact trivial | refine⟨rfl, ?_⟩ | fail
 · rintro ⟨i,y⟩ ⟨hi,aw,hy⟩
   have hi:i≤code.length:=hi;have aw:i≤4000:=aw;have hy:y=su code i:=hy;cbv;refine Br.dec (fun h1=> ?_) (fun h1=> ?_) <;> cbv
   · have h1:i<code.length:=by simpa using h1
     refine Br.dec (fun h2=> ?_) (fun h2=> ?_) <;> cbv
     · have h2:(i:Int)<4000:=h2;have h2:i<4000:=by omega
       refine Ar.wr ?_;cbv;obtain⟨b,hb⟩:∃b,b=code[i]:=⟨_,rfl⟩;refine⟨b,by simp,by rw[hb]; exact get_cast code h1, ?_⟩;cbv;refine Ar.wr ?_;cbv;refine Ar.wr ?_;cbv;refine Ar.wr ?_;cbv;refine Ar.exact (by show -9223372036854775808≤(i:Int)+1; omega) (by show(i:Int)+1≤9223372036854775807; omega) ?_;cbv;refine aL.by (i+1,DY y b) ?_ ?_ ?_
       · show 4000 - (i+1)<4000 - i;omega
       · refine⟨h1,h2, ?_⟩;show DY y b=su code (i+1);rw[su,Qn h1,List.foldl_append,hb,hy];rfl
       · cbv
         repeat' first | exact trivial | refine⟨rfl, ?_⟩ | fail
     · have h2:¬(i:Int)<4000:=h2;have e:min code.length 4000=i:=by omega
       refine⟨rfl,⟨?_,trivial⟩⟩;show y=su code (min code.length 4000);rw[e];exact hy
   · have h1:¬i<code.length:=by simpa using h1
     have e:min code.length 4000=i:=by omega
     refine⟨rfl,⟨?_,trivial⟩⟩;show y=su code (min code.length 4000);rw[e];exact hy
def qD (r:bn):Prop:=(1≤r.bX∧r.bX≤5)∧(2≤r.room∧r.room≤10)∧(1≤r.size∧r.size≤6)∧(1≤r.period∧r.period≤5)∧(1≤r.bE∧r.bE≤4)∧(0≤r.rest∧r.rest≤3)∧(1≤r.tries∧r.tries≤4)∧(1≤r.bm∧r.bm≤3)∧(1≤r.seats.length∧r.seats.length≤3)∧∀x∈r.seats,2≤x∧x≤13
theorem mm {n x:Int} (h:Below n x) (hn:0<n):0≤x∧x≤n - 1:=by
 obtain⟨h0,h1⟩:=h;omega
theorem DZ (code:List UInt8) (i h:Int) (hi:dI code i) (hc:code.length≤aN):bJ Tryz.prog 108 [cP] (f_ code i h) (cJ code qD fun r=>xM fun _=>r):=by
 unfold cJ;refine eP (pk:=[0,1]) au Tryz.func108 rfl rfl (fr:=true) (fun _=>by kernel_rfl) (fun _=>rfl) rfl rfl fun P hP hA hB=> ?_;cbv;refine aD.ex hP (cT code i h 5 hi hc) fun⟨x1,i1,h1⟩ ⟨b1,c1⟩=> ?_;cbv;have b1:=mm (n:=5) (x:=x1) b1 (by decide);refine Ar.exact (by show -9223372036854775808≤1+x1; omega) (by show 1+x1≤9223372036854775807; omega) ?_;cbv;refine aD.ex hP (cT code i1 h1 9 c1 hc) fun⟨x2,i2,h2⟩ ⟨b2,c2⟩=> ?_;cbv;have b2:=mm (n:=9) (x:=x2) b2 (by decide);refine Ar.exact (by show -9223372036854775808≤2+x2; omega) (by show 2+x2≤9223372036854775807; omega) ?_;cbv;refine aD.ex hP (cT code i2 h2 6 c2 hc) fun⟨x3,i3,h3⟩ ⟨b3,c3⟩=> ?_;cbv;have b3:=mm (n:=6) (x:=x3) b3 (by decide);refine Ar.exact (by show -9223372036854775808≤1+x3; omega) (by show 1+x3≤9223372036854775807; omega) ?_;cbv;refine aD.ex hP (cT code i3 h3 5 c3 hc) fun⟨x4,i4,h4⟩ ⟨b4,c4⟩=> ?_;cbv;have b4:=mm (n:=5) (x:=x4) b4 (by decide);refine Ar.exact (by show -9223372036854775808≤1+x4; omega) (by show 1+x4≤9223372036854775807; omega) ?_;cbv;refine aD.ex hP (cT code i4 h4 4 c4 hc) fun⟨x5,i5,h5⟩ ⟨b5,c5⟩=> ?_;cbv;have b5:=mm (n:=4) (x:=x5) b5 (by decide);refine Ar.exact (by show -9223372036854775808≤1+x5; omega) (by show 1+x5≤9223372036854775807; omega) ?_;cbv;refine aD.ex hP (cT code i5 h5 4 c5 hc) fun⟨x6,i6,h6⟩ ⟨b6,c6⟩=> ?_;cbv;have b6:=mm (n:=4) (x:=x6) b6 (by decide);refine aD.ex hP (cT code i6 h6 4 c6 hc) fun⟨x7,i7,h7⟩ ⟨b7,c7⟩=> ?_;cbv;have b7:=mm (n:=4) (x:=x7) b7 (by decide);refine Ar.exact (by show -9223372036854775808≤1+x7; omega) (by show 1+x7≤9223372036854775807; omega) ?_;cbv;refine aD.ex hP (cT code i7 h7 3 c7 hc) fun⟨x8,i8,h8⟩ ⟨b8,c8⟩=> ?_;cbv;have b8:=mm (n:=3) (x:=x8) b8 (by decide);refine Ar.exact (by show -9223372036854775808≤1+x8; omega) (by show 1+x8≤9223372036854775807; omega) ?_;cbv;refine aD.ex hP (cT code i8 h8 3 c8 hc) fun⟨x9,i9,h9⟩ ⟨b9,c9⟩=> ?_;cbv;have b9:=mm (n:=3) (x:=x9) b9 (by decide);refine Ar.exact (by show -9223372036854775808≤1+x9; omega) (by show 1+x9≤9223372036854775807; omega) ?_;cbv;obtain⟨m,hm⟩:∃m:Nat,1+x9=m:=⟨(1+x9).toNat,by omega⟩;have Qo:1≤m∧m≤3:=by omega
 refine aR.by (X:=List Int × Nat × Int × Int) (fun p=>[(0,pN 0),(2,pN 2),(3,pN 3),(4,iT fun _=>1+x9),(5,nT fun _=>p.2.1)]) (fun p=>[(0, .box [.own 1, .lf (.int .i64 fun _=>p.2.2.1), .lf (.int .i64 fun _=>p.2.2.2)]),(1, .view .byte fun _=>code),(2, .box [.nil, .lf (.int .i64 fun _=>0), .lf (.int .i64 fun _=>0), .lf (.int .i64 fun _=>0), .lf (.int .i64 fun _=>0), .lf (.int .i64 fun _=>0), .lf (.int .i64 fun _=>0), .lf (.int .i64 fun _=>0), .lf (.int .i64 fun _=>0)]),(3, .box [.own 4, .lf (.int .i64 fun _=>1+x1), .lf (.int .i64 fun _=>2+x2), .lf (.int .i64 fun _=>1+x3), .lf (.int .i64 fun _=>1+x4), .lf (.int .i64 fun _=>1+x5), .lf (.int .i64 fun _=>x6), .lf (.int .i64 fun _=>1+x7), .lf (.int .i64 fun _=>1+x8)]),(4,aH .int fun _=>p.1)]) (fun p=>p.2.1≤m∧p.1.length=p.2.1∧(∀x∈p.1,2≤x∧x≤13)∧dI code p.2.2.1) (fun p _=>m - p.2.1) ([],0,i9,h9) ⟨Nat.zero_le _,rfl,(fun x hx=>by cases hx),c9⟩ ?_ ?_
 · cbv
   repeat' first | exact trivial | refine⟨rfl, ?_⟩ | fail
 · rintro ⟨l,k,j,g⟩ ⟨hk,hl,hx,hj⟩
   have hk:k≤m:=hk;have hl:l.length=k:=hl;have hx:∀x∈l,2≤x∧x≤13:=hx;have hj:dI code j:=hj;cbv;refine Br.dec (fun bI=> ?_) (fun bI=> ?_) <;> cbv
   · have bI:(k:Int)<1+x9:=bI;have bI:k<m:=by rw[hm] at bI; exact Int.ofNat_lt.1 bI
     have zB:(k:Int)≤3:=Int.ofNat_le.2 (Nat.le_trans hk Qo.2);have Wq:l.length≤3:=by omega
     have ob:(l.length+1)*8≤140737488355328:=by omega
     repeat' first
       | (refine aD.ex hP (cT code j g 12 hj hc) ?_; rintro⟨x,j2,g2⟩ ⟨Ju,Gs⟩; have Ju:=mm (n:=12) (x:=x) Ju (by decide); cbv)
       | (refine Ar.exact (by show -9223372036854775808≤2+x; omega) (by show 2+x≤9223372036854775807; omega) ?_; cbv)
       | (refine Ob.mk ob ?_; cbv)
       | (refine Pz.mk ?_; cbv)
       | exact rfl
       | refine And.intro ?_ ?_
       | fail
     all_goals
       refine Ar.exact (Int.le_trans (by decide) (Int.le_add_of_nonneg_left (Int.natCast_nonneg k):(1:Int)≤(k:Int)+1)) (Int.le_trans (Int.add_le_add_right zB 1:(k:Int)+1≤3+1) (by decide)) ?_;cbv;refine aL.by (l ++ [2+x],k+1,j2,g2) ?_ ?_ ?_
       · show m - (k+1)<m - k;omega
       · refine⟨bI,by rw[List.length_append,hl]; rfl,fun y hy=> ?_,Gs⟩;rcases List.mem_append.1 hy with hy | hy
         · exact hx y hy
         · cases List.mem_singleton.1 hy;omega
       · cbv
         repeat' first | exact trivial | refine⟨rfl, ?_⟩ | fail
   · have bI:¬(k:Int)<1+x9:=bI;have bI:m≤k:=by rw[hm] at bI; exact Int.ofNat_le.1 (Int.not_lt.1 bI)
     refine⟨(⟨l,1+x1,2+x2,1+x3,1+x4,1+x5,x6,1+x7,1+x8⟩,j,g),⟨?_,hj⟩, ?_⟩
     · have hq:1≤l.length∧l.length≤3:=by omega
       refine⟨?_, ?_, ?_, ?_, ?_, ?_, ?_, ?_,hq,hx⟩
       all_goals dsimp only
       all_goals omega
     · cbv
       repeat' first | exact trivial | refine⟨rfl, ?_⟩ | fail
theorem Qp (code:List UInt8) (i h:Int) (hi:dI code i) (hc:code.length≤aN):bJ Tryz.prog 44 [cP] (f_ code i h) (cJ code (fun r:bn=>r.seats.length≤5) fun r=>xM fun _=>r):=by
 unfold cJ;refine eP (pk:=[0,1]) au Tryz.func44 rfl rfl (fr:=true) (fun _=>by kernel_rfl) (fun _=>rfl) rfl rfl fun P hP hA hB=> ?_;cbv;refine aD.ex hP (DZ code i h hi hc) fun⟨r,i1,h1⟩ ⟨b1,c1⟩=> ?_;cbv;have hr:r.seats.length≤3:=b1.2.2.2.2.2.2.2.2.1.2;refine aD.ex hP (eQ code i1 h1 [0, -1,61,13,11,9,7,6,5,4,9223372036854775807, -9223372036854775808] (by decide:0<12) c1 hc) fun⟨x,i2,h2⟩ ⟨b2,c2⟩=> ?_;cbv;refine aD.ex hP (cT code i2 h2 20 c2 hc) fun⟨y,i3,h3⟩ ⟨b3,c3⟩=> ?_;cbv;have ob:(r.seats.length+1)*8≤140737488355328:=by omega
 repeat' first
   | (refine Br.dec (fun hb=> ?_) (fun hb=> ?_) <;> cbv)
   | (refine Ob.mk ob ?_; cbv)
   | (refine Pz.mk ?_; cbv)
   | fail
 · obtain⟨s,hs⟩:∃s,s=r.seats ++ [x]:=⟨_,rfl⟩;refine⟨({r with seats:=s},i3,h3),⟨by show s.length≤5; rw[hs,List.length_append]; show r.seats.length+1≤5; omega,c3⟩, ?_⟩;cbv
   repeat' first | exact trivial | refine⟨rfl, ?_⟩ | refine⟨hs, ?_⟩ | refine⟨hs.symm, ?_⟩ | fail
 · refine⟨({r with bX:=x},i3,h3),⟨Nat.le_trans hr (by decide),c3⟩, ?_⟩;cbv
   repeat' first | exact trivial | refine⟨rfl, ?_⟩ | fail
 · refine⟨({r with room:=x},i3,h3),⟨Nat.le_trans hr (by decide),c3⟩, ?_⟩;cbv
   repeat' first | exact trivial | refine⟨rfl, ?_⟩ | fail
 · refine⟨({r with size:=x},i3,h3),⟨Nat.le_trans hr (by decide),c3⟩, ?_⟩;cbv
   repeat' first | exact trivial | refine⟨rfl, ?_⟩ | fail
 · refine⟨({r with period:=x},i3,h3),⟨Nat.le_trans hr (by decide),c3⟩, ?_⟩;cbv
   repeat' first | exact trivial | refine⟨rfl, ?_⟩ | fail
 · refine⟨({r with bE:=x},i3,h3),⟨Nat.le_trans hr (by decide),c3⟩, ?_⟩;cbv
   repeat' first | exact trivial | refine⟨rfl, ?_⟩ | fail
 · refine⟨({r with rest:=x},i3,h3),⟨Nat.le_trans hr (by decide),c3⟩, ?_⟩;cbv
   repeat' first | exact trivial | refine⟨rfl, ?_⟩ | fail
 · refine⟨({r with tries:=x},i3,h3),⟨Nat.le_trans hr (by decide),c3⟩, ?_⟩;cbv
   repeat' first | exact trivial | refine⟨rfl, ?_⟩ | fail
 · refine⟨({r with bm:=x},i3,h3),⟨Nat.le_trans hr (by decide),c3⟩, ?_⟩;cbv
   repeat' first | exact trivial | refine⟨rfl, ?_⟩ | fail
 · refine aD.ex hP (cT code i3 h3 6 c3 hc) fun⟨z,i4,h4⟩ ⟨b4,c4⟩=> ?_;cbv;have b4:=mm (n:=6) (x:=z) b4 (by decide);refine⟨⟨by decide,b4.1,by show z≤5; omega⟩, ?_⟩;cbv;obtain⟨s,hs⟩:∃s,s=([60,1,2,3,4]:List Int).take z.toNat:=⟨_,rfl⟩;refine⟨({r with seats:=s},i4,h4),⟨by show s.length≤5; rw[hs,List.length_take]; exact Nat.min_le_right _ 5,c4⟩, ?_⟩;cbv
   repeat' first | exact trivial | refine⟨rfl, ?_⟩ | refine⟨hs, ?_⟩ | refine⟨hs.symm, ?_⟩ | fail
 · refine⟨(r,i3,h3),⟨Nat.le_trans hr (by decide),c3⟩, ?_⟩;cbv
   repeat' first | exact trivial | refine⟨rfl, ?_⟩ | fail
end Go.Proofs.YtpklefhdkkegiaaGreat

