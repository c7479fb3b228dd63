/- Parts of a proof. No conditions. -/

import Derived.Test.YtpklefhdkkegiaaGreatGRetX
import Derived.Test.YtpklefhdkkegiaaGreatG04
import Derived.Test.YtpklefhdkkegiaaGreatG06
import Derived.Test.YtpklefhdkkegiaaGreatG05
set_option linter.unusedSimpArgs false
set_option linter.unusedVariables false
namespace Go.Proofs.YtpklefhdkkegiaaGreat
open Go
set_option maxRecDepth 100000
def dW (code:List UInt8) (i:Int):Prop:=0≤i∧i≤code.length
def fU (code:List UInt8) (i h:Int):List (Nat × ak):=[(0, .box [.own 1, .lf (.int .i64 fun _=>i), .lf (.int .i64 fun _=>h)]),(1, .view .byte fun _=>code)]
def Mi (i h:Int):List (Nat × dw):=[(0, .box [.nm 1, .int .i64 fun _=>i, .int .i64 fun _=>h]),(1, .vw)]
def cP:V:= .c (.ptr 0 0)
def cJ {α:Type} (code:List UInt8) (φ:α→Prop) (s:α→cN):V→List (Nat × ak)→Prop:=u9 (α × Int × Int) (fun x=>φ x.1∧dW code x.2.1) (fun x=>s x.1) (fun x=>Mi x.2.1 x.2.2)
theorem Ar.any {k:IntKind} {t:Unit→Int} {K:(Unit→Int)→Prop} (h:∀u:Int,K fun _=>u):Ar k t K:=⟨fun _=>k.wrap (t ()),rfl,h _⟩
theorem Ar.sat {k:IntKind} {t:Unit→Int} {K:(Unit→Int)→Prop} (φ:Int→Prop) (w6:φ (k.wrap (t ()))) (h:∀u:Int,φ u→K fun _=>u):Ar k t K:=⟨fun _=>k.wrap (t ()),rfl,h _ w6⟩
theorem Ar.wr {k:IntKind} {t:Unit→Int} {K:(Unit→Int)→Prop} (h:K fun _=>k.wrap (t ())):Ar k t K:=⟨fun _=>k.wrap (t ()),rfl,h⟩
theorem FK (a:Int):0≤IntKind.i64.wrap (((BitVec.ofInt 64 a &&& BitVec.ofInt 64 255).toNat:Nat):Int)∧IntKind.i64.wrap (((BitVec.ofInt 64 a &&& BitVec.ofInt 64 255).toNat:Nat):Int)≤255:=by
 have h:(BitVec.ofInt 64 a &&& BitVec.ofInt 64 255).toNat≤255:=by
  rw[BitVec.toNat_and];exact Nat.le_trans Nat.and_le_right (by decide)
 rw[oR (qC.2 ⟨by omega,by omega⟩)];omega
theorem vh (code:List UInt8) (i h:Int) (hi:dW code i) (hc:code.length≤aS):bY Tryz.prog 158 [cP] (fU code i h) (cJ code (fun x:Int=>0≤x∧x≤255) fun x=>iR fun _=>x):=by
 have hc:code.length≤1048576:=hc;obtain⟨i0,i1⟩:=hi;obtain⟨j,rfl⟩:∃j:Nat,i=j:=⟨i.toNat,by omega⟩;unfold cJ;refine fu (pk:=[0,1]) aD Tryz.func158 rfl rfl (fr:=true) (fun _=>by kernel_rfl) (fun _=>rfl) rfl rfl fun P hP hA hB=> ?_;cbv;refine Ar.any fun u1=> ?_;cbv;refine Ar.any fun u2=> ?_;cbv;refine⟨by decide, ?_⟩;cbv;refine Ar.any fun u3=> ?_;cbv;refine⟨by decide, ?_⟩;cbv;refine Ar.any fun u4=> ?_;cbv;refine Ar.any fun u5=> ?_;cbv;refine Ar.sat (fun u=>0≤u∧u≤255) (FK u5) fun u6 h6=> ?_;cbv;refine Br.dec (fun h7=> ?_) (fun h7=> ?_) <;> cbv
 · have h7:j<code.length:=by simpa using h7
   refine⟨code[j],by simp,get_cast code h7, ?_⟩;cbv;refine Ar.any fun u7=> ?_;cbv;refine Ar.sat (fun u=>0≤u∧u≤255) (FK u7) fun u8 h8=> ?_;cbv;refine Ar.exact ?_ ?_ ?_
   · show -9223372036854775808≤(j:Int)+1;omega
   · show(j:Int)+1≤9223372036854775807;omega
   cbv;refine⟨(u8,(j:Int)+1,u2),⟨h8,by show 0≤(j:Int)+1; omega,by show(j:Int)+1≤code.length; omega⟩, ?_⟩;cbv
   repeat' first | exact trivial | refine⟨rfl, ?_⟩ | fail
 · refine⟨(u6,(j:Int),u2),⟨h6,i0,i1⟩, ?_⟩;cbv
   repeat' first | exact trivial | refine⟨rfl, ?_⟩ | fail
def Below (n x:Int):Prop:=0≤x∧(x<n∨x=0)
theorem FL {x n:Int} (hx:0≤x) (hn:0<n):Below n (x.tmod n):=
 ⟨Int.tmod_nonneg _ hx, .inl (Int.tmod_lt_of_pos _ hn)⟩
theorem cY (code:List UInt8) (i h n:Int) (hi:dW code i) (hc:code.length≤aS):bY Tryz.prog 85 [cP,iA n] (fU code i h) (cJ code (fun x:Int=>0≤x∧(x<n∨x=0)) fun x=>iR fun _=>x):=by
 unfold cJ;refine fu (pk:=[0,1]) aD Tryz.func85 rfl rfl (fr:=true) (fun _=>by kernel_rfl) (fun _=>rfl) rfl rfl fun P hP hA hB=> ?_;cbv;refine Br.dec (fun h1=> ?_) (fun h1=> ?_) <;> cbv
 · refine⟨(0,i,h),⟨⟨Int.le_refl 0, .inr rfl⟩,hi⟩, ?_⟩;cbv
   repeat' first | exact trivial | refine⟨rfl, ?_⟩ | fail
 have h1:¬n≤0:=h1;refine Br.dec (fun h2=> ?_) (fun h2=> ?_) <;> cbv
 · refine aJ.ex hP (vh code i h hi hc) fun⟨b,i2,h2⟩ ⟨hb,aC⟩=> ?_;cbv;have hb:0≤b∧b≤255:=hb;refine⟨by show¬n=0; omega, ?_⟩;cbv;refine⟨(b.tmod n,i2,h2),⟨FL hb.1 (by omega),aC⟩, ?_⟩;cbv
   repeat' first | exact trivial | refine⟨rfl, ?_⟩ | fail
 · refine aJ.ex hP (vh code i h hi hc) fun⟨b,i2,h2⟩ ⟨hb,aC⟩=> ?_;cbv;have hb:0≤b∧b≤255:=hb;refine aJ.ex hP (vh code i2 h2 aC hc) fun⟨b2,i3,h3⟩ ⟨dN,m3⟩=> ?_;cbv;have dN:0≤b2∧b2≤255:=dN;refine aJ.ex hP (vh code i3 h3 m3 hc) fun⟨b3,i4,h4⟩ ⟨gk,sK⟩=> ?_;cbv;have gk:0≤b3∧b3≤255:=gk;refine aJ.ex hP (vh code i4 h4 sK hc) fun⟨b4,i5,h5⟩ ⟨lq,Mj⟩=> ?_;cbv;have lq:0≤b4∧b4≤255:=lq;refine Ar.exact (by show -9223372036854775808≤b*16777216; omega) (by show b*16777216≤9223372036854775807; omega) ?_;cbv;refine Ar.exact (by show -9223372036854775808≤b2*65536; omega) (by show b2*65536≤9223372036854775807; omega) ?_;cbv;refine Ar.exact (by show -9223372036854775808≤b*16777216+b2*65536; omega) (by show b*16777216+b2*65536≤9223372036854775807; omega) ?_;cbv;refine Ar.exact (by show -9223372036854775808≤b3*256; omega) (by show b3*256≤9223372036854775807; omega) ?_;cbv;refine Ar.exact (by show -9223372036854775808≤b*16777216+b2*65536+b3*256; omega) (by show b*16777216+b2*65536+b3*256≤9223372036854775807; omega) ?_;cbv;refine Ar.exact (by show -9223372036854775808≤b*16777216+b2*65536+b3*256+b4; omega) (by show b*16777216+b2*65536+b3*256+b4≤9223372036854775807; omega) ?_;cbv;refine⟨by show¬n=0; omega, ?_⟩;cbv;refine⟨((b*16777216+b2*65536+b3*256+b4).tmod n,i5,h5),⟨FL (by omega) (by omega),Mj⟩, ?_⟩;cbv
   repeat' first | exact trivial | refine⟨rfl, ?_⟩ | fail
theorem fe (code:List UInt8) (i h:Int) (l:List Int) (hl:0<l.length) (hi:dW code i) (hc:code.length≤aS):bY Tryz.prog 100 [cP,lA .int l] (fU code i h) (cJ code (fun x:Int=>x∈l) fun x=>iR fun _=>x):=by
 unfold cJ;refine fu (pk:=[0,1]) aD Tryz.func100 rfl rfl (fr:=true) (fun _=>by kernel_rfl) (fun _=>rfl) rfl rfl fun P hP hA hB=> ?_;cbv;refine aJ.ex hP (cY code i h l.length hi hc) fun⟨b,i2,h2⟩ ⟨hb,aC⟩=> ?_;cbv;have hb:Below l.length b:=hb;obtain⟨pd,k_⟩:=hb;obtain⟨k,rfl⟩:∃k:Nat,b=k:=⟨b.toNat,by omega⟩;have hk:k<l.length:=by omega
 obtain⟨v,hv⟩:∃v,v=l[k]:=⟨_,rfl⟩;refine⟨v,by simp,by rw[hv]; exact get_cast l hk, ?_⟩;cbv;refine⟨(v,i2,h2),⟨by rw[hv]; exact List.getElem_mem hk,aC⟩, ?_⟩;cbv
 repeat' first | exact trivial | refine⟨rfl, ?_⟩ | fail
theorem Mk {α:Type} {l:List α} {i:Nat} (h:i<l.length):l.take (i+1)=l.take i ++ [l[i]]:=by
 rw[List.take_add_one,List.getElem?_eq_getElem h];rfl
def AY (h:Int) (b:UInt8):Int:=IntKind.i64.wrap (((BitVec.ofInt 64 (IntKind.i64.wrap (IntKind.i64.wrap (IntKind.i64.wrap (h*131)+(b.toNat:Int))+7)) &&& BitVec.ofInt 64 1073741823).toNat:Nat):Int)
def rj (code:List UInt8) (i:Nat):Int:=(code.take i).foldl AY (28285+code.length)
theorem Ml (code:List UInt8) (hc:code.length≤aS):bY Tryz.prog 45 [.c (.own 0)] [(0, .view .byte fun _=>code)] (AV (.c (.ptr 100 0)) [(0, .vw),(100, .box [.nm 0, .int .i64 fun _=>0, .int .i64 fun _=>rj code (min code.length 4000)])]):=by
 have hc:code.length≤1048576:=hc;refine Ma aD Tryz.func45 rfl rfl (fr:=true) (fun _=>by kernel_rfl) rfl rfl fun P hP hA hB=> ?_;cbv;refine Ar.exact (by show -9223372036854775808≤28285+(code.length:Int); omega) (by show 28285+(code.length:Int)≤9223372036854775807; omega) ?_;cbv;refine aW.by (X:=Nat × Int) (fun p=>[(0,oN 0),(3,iT fun _=>p.2),(4,nT fun _=>p.1)]) (fun p=>[(0, .view .byte fun _=>code)]) (fun p=>p.1≤code.length∧p.1≤4000∧p.2=rj code p.1) (fun p _=>4000 - p.1) (0,28285+code.length) ⟨Nat.zero_le _,Nat.zero_le _,rfl⟩ ?_ ?_
 · cbv
   repeat' first | exact trivial | refine⟨rfl, ?_⟩ | fail
 · rintro ⟨i,y⟩ ⟨hi,aC,hy⟩
   have hi:i≤code.length:=hi;have aC:i≤4000:=aC;have hy:y=rj code i:=hy;cbv;refine Br.dec (fun h1=> ?_) (fun h1=> ?_) <;> cbv
   · have h1:i<code.length:=by simpa using h1
     refine Br.dec (fun h2=> ?_) (fun h2=> ?_) <;> cbv
     · have h2:(i:Int)<4000:=h2;have h2:i<4000:=by omega
       refine Ar.wr ?_;cbv;obtain⟨b,hb⟩:∃b,b=code[i]:=⟨_,rfl⟩;refine⟨b,by simp,by rw[hb]; exact get_cast code h1, ?_⟩;cbv;refine Ar.wr ?_;cbv;refine Ar.wr ?_;cbv;refine Ar.wr ?_;cbv;refine Ar.exact (by show -9223372036854775808≤(i:Int)+1; omega) (by show(i:Int)+1≤9223372036854775807; omega) ?_;cbv;refine aO.by (i+1,AY y b) ?_ ?_ ?_
       · show 4000 - (i+1)<4000 - i;omega
       · refine⟨h1,h2, ?_⟩;show AY y b=rj code (i+1);rw[rj,Mk h1,List.foldl_append,hb,hy];rfl
       · cbv
         repeat' first | exact trivial | refine⟨rfl, ?_⟩ | fail
     · have h2:¬(i:Int)<4000:=h2;have e:min code.length 4000=i:=by omega
       refine⟨rfl,⟨?_,trivial⟩⟩;show y=rj code (min code.length 4000);rw[e];exact hy
   · have h1:¬i<code.length:=by simpa using h1
     have e:min code.length 4000=i:=by omega
     refine⟨rfl,⟨?_,trivial⟩⟩;show y=rj code (min code.length 4000);rw[e];exact hy
def pZ (r:br):Prop:=(1≤r.cd∧r.cd≤5)∧(2≤r.room∧r.room≤10)∧(1≤r.size∧r.size≤6)∧(1≤r.period∧r.period≤5)∧(1≤r.cC∧r.cC≤4)∧(0≤r.rest∧r.rest≤3)∧(1≤r.tries∧r.tries≤4)∧(1≤r.bO∧r.bO≤3)∧(1≤r.ai.length∧r.ai.length≤3)∧∀x∈r.ai,2≤x∧x≤13
theorem m4 {n x:Int} (h:Below n x) (hn:0<n):0≤x∧x≤n - 1:=by
 obtain⟨h0,h1⟩:=h;omega
theorem Mm (code:List UInt8) (i h:Int) (hi:dW code i) (hc:code.length≤aS):bY Tryz.prog 108 [cP] (fU code i h) (cJ code pZ fun r=>AX fun _=>r):=by
 unfold cJ;refine fu (pk:=[0,1]) aD Tryz.func108 rfl rfl (fr:=true) (fun _=>by kernel_rfl) (fun _=>rfl) rfl rfl fun P hP hA hB=> ?_;cbv;refine aJ.ex hP (cY code i h 5 hi hc) fun⟨x1,i1,h1⟩ ⟨b1,c1⟩=> ?_;cbv;have b1:=m4 (n:=5) (x:=x1) b1 (by decide);refine Ar.exact (by show -9223372036854775808≤1+x1; omega) (by show 1+x1≤9223372036854775807; omega) ?_;cbv;refine aJ.ex hP (cY code i1 h1 9 c1 hc) fun⟨x2,i2,h2⟩ ⟨b2,c2⟩=> ?_;cbv;have b2:=m4 (n:=9) (x:=x2) b2 (by decide);refine Ar.exact (by show -9223372036854775808≤2+x2; omega) (by show 2+x2≤9223372036854775807; omega) ?_;cbv;refine aJ.ex hP (cY code i2 h2 6 c2 hc) fun⟨x3,i3,h3⟩ ⟨b3,c3⟩=> ?_;cbv;have b3:=m4 (n:=6) (x:=x3) b3 (by decide);refine Ar.exact (by show -9223372036854775808≤1+x3; omega) (by show 1+x3≤9223372036854775807; omega) ?_;cbv;refine aJ.ex hP (cY code i3 h3 5 c3 hc) fun⟨x4,i4,h4⟩ ⟨b4,c4⟩=> ?_;cbv;have b4:=m4 (n:=5) (x:=x4) b4 (by decide);refine Ar.exact (by show -9223372036854775808≤1+x4; omega) (by show 1+x4≤9223372036854775807; omega) ?_;cbv;refine aJ.ex hP (cY code i4 h4 4 c4 hc) fun⟨x5,i5,h5⟩ ⟨b5,c5⟩=> ?_;cbv;have b5:=m4 (n:=4) (x:=x5) b5 (by decide);refine Ar.exact (by show -9223372036854775808≤1+x5; omega) (by show 1+x5≤9223372036854775807; omega) ?_;cbv;refine aJ.ex hP (cY code i5 h5 4 c5 hc) fun⟨x6,i6,h6⟩ ⟨b6,c6⟩=> ?_;cbv;have b6:=m4 (n:=4) (x:=x6) b6 (by decide);refine aJ.ex hP (cY code i6 h6 4 c6 hc) fun⟨x7,i7,h7⟩ ⟨b7,c7⟩=> ?_;cbv;have b7:=m4 (n:=4) (x:=x7) b7 (by decide);refine Ar.exact (by show -9223372036854775808≤1+x7; omega) (by show 1+x7≤9223372036854775807; omega) ?_;cbv;refine aJ.ex hP (cY code i7 h7 3 c7 hc) fun⟨x8,i8,h8⟩ ⟨b8,c8⟩=> ?_;cbv;have b8:=m4 (n:=3) (x:=x8) b8 (by decide);refine Ar.exact (by show -9223372036854775808≤1+x8; omega) (by show 1+x8≤9223372036854775807; omega) ?_;cbv;refine aJ.ex hP (cY code i8 h8 3 c8 hc) fun⟨x9,i9,h9⟩ ⟨b9,c9⟩=> ?_;cbv;have b9:=m4 (n:=3) (x:=x9) b9 (by decide);refine Ar.exact (by show -9223372036854775808≤1+x9; omega) (by show 1+x9≤9223372036854775807; omega) ?_;cbv;obtain⟨m,hm⟩:∃m:Nat,1+x9=m:=⟨(1+x9).toNat,by omega⟩;have Mn:1≤m∧m≤3:=by omega
 refine aW.by (X:=List Int × Nat × Int × Int) (fun p=>[(0,pN 0),(2,pN 2),(3,pN 3),(4,iT fun _=>1+x9),(5,nT fun _=>p.2.1)]) (fun p=>[(0, .box [.own 1, .lf (.int .i64 fun _=>p.2.2.1), .lf (.int .i64 fun _=>p.2.2.2)]),(1, .view .byte fun _=>code),(2, .box [.nil, .lf (.int .i64 fun _=>0), .lf (.int .i64 fun _=>0), .lf (.int .i64 fun _=>0), .lf (.int .i64 fun _=>0), .lf (.int .i64 fun _=>0), .lf (.int .i64 fun _=>0), .lf (.int .i64 fun _=>0), .lf (.int .i64 fun _=>0)]),(3, .box [.own 4, .lf (.int .i64 fun _=>1+x1), .lf (.int .i64 fun _=>2+x2), .lf (.int .i64 fun _=>1+x3), .lf (.int .i64 fun _=>1+x4), .lf (.int .i64 fun _=>1+x5), .lf (.int .i64 fun _=>x6), .lf (.int .i64 fun _=>1+x7), .lf (.int .i64 fun _=>1+x8)]),(4,aK .int fun _=>p.1)]) (fun p=>p.2.1≤m∧p.1.length=p.2.1∧(∀x∈p.1,2≤x∧x≤13)∧dW code p.2.2.1) (fun p _=>m - p.2.1) ([],0,i9,h9) ⟨Nat.zero_le _,rfl,(fun x hx=>by cases hx),c9⟩ ?_ ?_
 · cbv
   repeat' first | exact trivial | refine⟨rfl, ?_⟩ | fail
 · rintro ⟨l,k,j,g⟩ ⟨hk,hl,hx,hj⟩
   have hk:k≤m:=hk;have hl:l.length=k:=hl;have hx:∀x∈l,2≤x∧x≤13:=hx;have hj:dW code j:=hj;cbv;refine Br.dec (fun bn=> ?_) (fun bn=> ?_) <;> cbv
   · have bn:(k:Int)<1+x9:=bn;have bn:k<m:=by rw[hm] at bn; exact Int.ofNat_lt.1 bn
     have wM:(k:Int)≤3:=Int.ofNat_le.2 (Nat.le_trans hk Mn.2);have Re:l.length≤3:=by omega
     have ob:(l.length+1)*8≤140737488355328:=by omega
     repeat' first
       | (refine aJ.ex hP (cY code j g 12 hj hc) ?_; rintro⟨x,j2,g2⟩ ⟨FM,CP⟩; have FM:=m4 (n:=12) (x:=x) FM (by decide); cbv)
       | (refine Ar.exact (by show -9223372036854775808≤2+x; omega) (by show 2+x≤9223372036854775807; omega) ?_; cbv)
       | (refine Ob.mk ob ?_; cbv)
       | (refine Pz.mk ?_; cbv)
       | exact rfl
       | refine And.intro ?_ ?_
       | fail
     all_goals
       refine Ar.exact (Int.le_trans (by decide) (Int.le_add_of_nonneg_left (Int.natCast_nonneg k):(1:Int)≤(k:Int)+1)) (Int.le_trans (Int.add_le_add_right wM 1:(k:Int)+1≤3+1) (by decide)) ?_;cbv;refine aO.by (l ++ [2+x],k+1,j2,g2) ?_ ?_ ?_
       · show m - (k+1)<m - k;omega
       · refine⟨bn,by rw[List.length_append,hl]; rfl,fun y hy=> ?_,CP⟩;rcases List.mem_append.1 hy with hy | hy
         · exact hx y hy
         · cases List.mem_singleton.1 hy;omega
       · cbv
         repeat' first | exact trivial | refine⟨rfl, ?_⟩ | fail
   · have bn:¬(k:Int)<1+x9:=bn;have bn:m≤k:=by rw[hm] at bn; exact Int.ofNat_le.1 (Int.not_lt.1 bn)
     refine⟨(⟨l,1+x1,2+x2,1+x3,1+x4,1+x5,x6,1+x7,1+x8⟩,j,g),⟨?_,hj⟩, ?_⟩
     · have hq:1≤l.length∧l.length≤3:=by omega
       refine⟨?_, ?_, ?_, ?_, ?_, ?_, ?_, ?_,hq,hx⟩
       all_goals dsimp only
       all_goals omega
     · cbv
       repeat' first | exact trivial | refine⟨rfl, ?_⟩ | fail
end Go.Proofs.YtpklefhdkkegiaaGreat

