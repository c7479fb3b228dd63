/- Parts of a proof. No conditions. -/

import Derived.Test.YtpklefhdkkegiaaGreatG06
import Derived.Test.YtpklefhdkkegiaaGreatG05
import Derived.Test.YtpklefhdkkegiaaGreatG07
import Derived.Test.YtpklefhdkkegiaaGreatG01
set_option linter.unusedSimpArgs false
set_option linter.unusedVariables false
namespace Go.Proofs.YtpklefhdkkegiaaGreat
open Go
set_option maxRecDepth 100000
def aX (x:bA):Bool:=ak x.total 1 60 && (ak x.free 0 x.total && (ak x.held 0 x.total && (ak x.bp 0 x.total && (decide (x.free+x.held+x.bp=x.total) && ak x.tied 0 x.bp))))
theorem Aw (x:bA) (b:Bool) (hb:b=aX x):Spec Tryz.prog 175 [iz x] (aG (bR fun _=>b)):=by
 refine aF au Tryz.func175 rfl rfl (fr:=true) (fun _=>by kernel_rfl) fun P hP hA=> ?_;cbv;refine af.by hP (dn x.total 1 60) ?_;cbv
 repeat (refine Pz.mk ?_; cbv)
 refine Br.split (fun h0=> ?_) (fun h0=> ?_) <;> (cbv; repeat (refine Pz.mk ?_; cbv))
 rotate_left
 · refine⟨?_,trivial⟩;have h0:ak x.total 1 60=false:=h0;simp[hb,aX,h0]
 have h0:ak x.total 1 60=true:=h0;have e0:=bD h0;refine af.by hP (dn x.free 0 x.total) ?_;cbv
 repeat (refine Pz.mk ?_; cbv)
 refine Br.split (fun h1=> ?_) (fun h1=> ?_) <;> (cbv; repeat (refine Pz.mk ?_; cbv))
 rotate_left
 · refine⟨?_,trivial⟩;have h1:ak x.free 0 x.total=false:=h1;simp[hb,aX,h0,h1]
 have h1:ak x.free 0 x.total=true:=h1;have e1:=bD h1;refine af.by hP (dn x.held 0 x.total) ?_;cbv
 repeat (refine Pz.mk ?_; cbv)
 refine Br.split (fun h2=> ?_) (fun h2=> ?_) <;> (cbv; repeat (refine Pz.mk ?_; cbv))
 rotate_left
 · refine⟨?_,trivial⟩;have h2:ak x.held 0 x.total=false:=h2;simp[hb,aX,h0,h1,h2]
 have h2:ak x.held 0 x.total=true:=h2;have e2:=bD h2;refine af.by hP (dn x.bp 0 x.total) ?_;cbv
 repeat (refine Pz.mk ?_; cbv)
 refine Br.split (fun h3=> ?_) (fun h3=> ?_) <;> (cbv; repeat (refine Pz.mk ?_; cbv))
 rotate_left
 · refine⟨?_,trivial⟩;have h3:ak x.bp 0 x.total=false:=h3;simp[hb,aX,h0,h1,h2,h3]
 have h3:ak x.bp 0 x.total=true:=h3;have e3:=bD h3;refine Ar.exact ?_ ?_ ?_
 · show -9223372036854775808≤x.free+x.held;omega
 · show x.free+x.held≤9223372036854775807;omega
 cbv;refine Ar.exact ?_ ?_ ?_
 · show -9223372036854775808≤x.free+x.held+x.bp;omega
 · show x.free+x.held+x.bp≤9223372036854775807;omega
 cbv;refine Br.split (fun h4=> ?_) (fun h4=> ?_) <;> (cbv; repeat (refine Pz.mk ?_; cbv))
 rotate_left
 · refine⟨?_,trivial⟩;have h4:(x.free+x.held+x.bp == x.total)=false:=h4;have h4:¬(x.free+x.held+x.bp=x.total):=by simpa using h4
   simp[hb,aX,h0,h1,h2,h3,h4]
 have h4:(x.free+x.held+x.bp == x.total)=true:=h4;have h4:x.free+x.held+x.bp=x.total:=by simpa using h4
 refine af.by hP (dn x.tied 0 x.bp) ?_;cbv
 repeat (refine Pz.mk ?_; cbv)
 refine⟨?_,trivial⟩;simp[hb,aX,h0,h1,h2,h3,h4]
theorem lM (x:bA) (b:Bool) (hb:b=aX x):Spec Tryz.prog 174 [iz x] (aG (bR fun _=>b)):=by
 refine aF au Tryz.func174 rfl rfl (fr:=true) (fun _=>by kernel_rfl) fun P hP hA=> ?_;cbv;refine af.by hP (di x.total 1 60) ?_;cbv
 repeat (refine Pz.mk ?_; cbv)
 refine Br.split (fun h0=> ?_) (fun h0=> ?_) <;> (cbv; repeat (refine Pz.mk ?_; cbv))
 rotate_left
 · refine⟨?_,trivial⟩;have h0:ak x.total 1 60=false:=h0;simp[hb,aX,h0]
 have h0:ak x.total 1 60=true:=h0;have e0:=bD h0;refine af.by hP (di x.free 0 x.total) ?_;cbv
 repeat (refine Pz.mk ?_; cbv)
 refine Br.split (fun h1=> ?_) (fun h1=> ?_) <;> (cbv; repeat (refine Pz.mk ?_; cbv))
 rotate_left
 · refine⟨?_,trivial⟩;have h1:ak x.free 0 x.total=false:=h1;simp[hb,aX,h0,h1]
 have h1:ak x.free 0 x.total=true:=h1;have e1:=bD h1;refine af.by hP (di x.held 0 x.total) ?_;cbv
 repeat (refine Pz.mk ?_; cbv)
 refine Br.split (fun h2=> ?_) (fun h2=> ?_) <;> (cbv; repeat (refine Pz.mk ?_; cbv))
 rotate_left
 · refine⟨?_,trivial⟩;have h2:ak x.held 0 x.total=false:=h2;simp[hb,aX,h0,h1,h2]
 have h2:ak x.held 0 x.total=true:=h2;have e2:=bD h2;refine af.by hP (di x.bp 0 x.total) ?_;cbv
 repeat (refine Pz.mk ?_; cbv)
 refine Br.split (fun h3=> ?_) (fun h3=> ?_) <;> (cbv; repeat (refine Pz.mk ?_; cbv))
 rotate_left
 · refine⟨?_,trivial⟩;have h3:ak x.bp 0 x.total=false:=h3;simp[hb,aX,h0,h1,h2,h3]
 have h3:ak x.bp 0 x.total=true:=h3;have e3:=bD h3;refine Ar.exact ?_ ?_ ?_
 · show -9223372036854775808≤x.free+x.held;omega
 · show x.free+x.held≤9223372036854775807;omega
 cbv;refine Ar.exact ?_ ?_ ?_
 · show -9223372036854775808≤x.free+x.held+x.bp;omega
 · show x.free+x.held+x.bp≤9223372036854775807;omega
 cbv;refine Br.split (fun h4=> ?_) (fun h4=> ?_) <;> (cbv; repeat (refine Pz.mk ?_; cbv))
 rotate_left
 · refine⟨?_,trivial⟩;have h4:(x.free+x.held+x.bp == x.total)=false:=h4;have h4:¬(x.free+x.held+x.bp=x.total):=by simpa using h4
   simp[hb,aX,h0,h1,h2,h3,h4]
 have h4:(x.free+x.held+x.bp == x.total)=true:=h4;have h4:x.free+x.held+x.bp=x.total:=by simpa using h4
 refine af.by hP (di x.tied 0 x.bp) ?_;cbv
 repeat (refine Pz.mk ?_; cbv)
 refine⟨?_,trivial⟩;simp[hb,aX,h0,h1,h2,h3,h4]
def iB (x:Unit→bA):List Sh:=[.int .i64 fun _=>(x ()).total, .int .i64 fun _=>(x ()).free, .int .i64 fun _=>(x ()).held, .int .i64 fun _=>(x ()).bp, .int .i64 fun _=>(x ()).tied]
def xP (x:Unit→ba):List Sh:=[.int .i64 fun _=>(x ()).seats.total, .int .i64 fun _=>(x ()).seats.free, .int .i64 fun _=>(x ()).seats.held, .int .i64 fun _=>(x ()).seats.bp, .int .i64 fun _=>(x ()).seats.tied, .own .aJ fun _=>(x ()).row, .own .cE fun _=>(x ()).spoke]
def nS (n:Int):bA:=⟨n,0,0,n,0⟩
def vH (n:Int):bA:=if ak n 1 60=true then nS n else default
def D0 (n:Int):ba:=⟨nS n,[],List.replicate 9 []⟩
def fH (n:Int):ba:=if ak n 1 60=true then D0 n else default
theorem D3 (n:Int):aX (nS n)=ak n 1 60:=by
 unfold aX nS ak;rw[Bool.eq_iff_iff];simp only[Bool.and_eq_true,decide_eq_true_eq];omega
theorem Qq (n:Int) (x:bA) (hx:x=vH n) (b:Bool) (hb:b=ak n 1 60):Spec Tryz.prog 257 [iA n] (aG (.aS [(true,iB fun _=>x),(false,[.bool fun _=>b])])):=by
 refine aF au Tryz.func257 rfl rfl (fr:=true) (fun _=>by kernel_rfl) fun P hP hA=> ?_;cbv;refine af.by hP (Aw (nS n) (ak n 1 60) (D3 n).symm) ?_;cbv;refine Br.split (fun h=> ?_) (fun h=> ?_) <;> cbv
 · have h:ak n 1 60=false:=by simpa using h
   obtain rfl:x=default:=hx.trans (if_neg (by rw[h]; simp));obtain rfl:b=false:=hb.trans h;exact⟨rfl,rfl,rfl,rfl,rfl,rfl,trivial⟩
 · have h:ak n 1 60=true:=by simpa using h
   obtain rfl:x=nS n:=hx.trans (if_pos h);obtain rfl:b=true:=hb.trans h;exact⟨rfl,rfl,rfl,rfl,rfl,rfl,trivial⟩
theorem Qr (n:Int) (x:bA) (hx:x=vH n) (b:Bool) (hb:b=ak n 1 60):Spec Tryz.prog 110 [iA n] (aG (.aS [(true,iB fun _=>x),(false,[.bool fun _=>b])])):=by
 refine aF au Tryz.func110 rfl rfl (fr:=true) (fun _=>by kernel_rfl) fun P hP hA=> ?_;cbv;refine af.by hP (lM (nS n) (ak n 1 60) (D3 n).symm) ?_;cbv;refine Br.split (fun h=> ?_) (fun h=> ?_) <;> cbv
 · have h:ak n 1 60=false:=by simpa using h
   obtain rfl:x=default:=hx.trans (if_neg (by rw[h]; simp));obtain rfl:b=false:=hb.trans h;exact⟨rfl,rfl,rfl,rfl,rfl,rfl,trivial⟩
 · have h:ak n 1 60=true:=by simpa using h
   obtain rfl:x=nS n:=hx.trans (if_pos h);obtain rfl:b=true:=hb.trans h;exact⟨rfl,rfl,rfl,rfl,rfl,rfl,trivial⟩
theorem Qs:Spec Tryz.prog 111 [] (aG (vF fun _=>List.replicate 9 [])):=by
 refine aF au Tryz.func111 rfl rfl (fr:=true) (fun _=>by kernel_rfl) fun P hP hA=> ?_;cbv;refine⟨by decide, ?_⟩;cbv;exact⟨rfl,trivial⟩
theorem D4:Spec Tryz.prog 256 [] (aG (vF fun _=>List.replicate 9 [])):=by
 refine aF au Tryz.func256 rfl rfl (fr:=true) (fun _=>by kernel_rfl) fun P hP hA=> ?_;cbv;refine aR.by (X:=Nat) (fun i=>[(0,pN 0),(1,pN 1),(2,nT fun _=>i)]) (fun i=>[(0, .box [.nil]),(1, .box [.own 2]),(2,aH .cE fun _=>List.replicate i [])]) (fun i=>i≤9) (fun i _=>9 - i) 0 (Nat.zero_le _) ?_ ?_
 · cbv
   repeat' first | exact trivial | refine⟨rfl, ?_⟩ | fail
 · intro i hi;cbv;refine Br.dec (fun h2=> ?_) (fun h2=> ?_) <;> cbv
   · have h2:(i:Int)<9:=h2;have h2:i<9:=by omega
     refine⟨?_, ?_⟩
     · show((List.replicate i ([]:List aC)).length+1)*24≤140737488355328;rw[List.length_replicate]; omega
     cbv;refine Ar.exact ?_ ?_ ?_
     · show -9223372036854775808≤(i:Int)+1;omega
     · show(i:Int)+1≤9223372036854775807;omega
     cbv;refine aL.by (i+1) ?_ ?_ ?_
     · show 9 - (i+1)<9 - i;omega
     · exact h2
     · cbv
       repeat' first | exact trivial | refine⟨rfl, ?_⟩ | fail
       refine⟨?_,trivial⟩;exact(List.replicate_succ' (n:=i) (a:=([]:List aC))).symm
   · have h2:¬(i:Int)<9:=h2;obtain rfl:i=9:=by omega
     repeat' first | exact trivial | refine⟨rfl, ?_⟩ | fail
theorem Qt (n:Int) (x:ba) (hx:x=fH n) (b:Bool) (hb:b=ak n 1 60):Spec Tryz.prog 216 [iA n] (aG (.aS [(true,xP fun _=>x),(false,[.bool fun _=>b])])):=by
 refine aF au Tryz.func216 rfl rfl (fr:=true) (fun _=>by kernel_rfl) fun P hP hA=> ?_;cbv;refine af.by hP (Qq n (vH n) rfl (ak n 1 60) rfl) ?_;cbv;refine Br.split (fun h=> ?_) (fun h=> ?_) <;> cbv
 · have h:ak n 1 60=false:=by simpa using h
   obtain rfl:x=default:=hx.trans (if_neg (by rw[h]; simp));obtain rfl:b=false:=hb.trans h;exact⟨rfl,rfl,rfl,rfl,rfl,rfl,rfl,rfl,trivial⟩
 · have h:ak n 1 60=true:=by simpa using h
   have e:vH n=nS n:=if_pos h;obtain rfl:x=D0 n:=hx.trans (if_pos h);obtain rfl:b=true:=hb.trans h;rw[e]
   repeat' first | exact trivial | (refine af.by hP D4 ?_; cbv) | refine⟨rfl, ?_⟩ | refine And.intro ?_ ?_ | fail
theorem Qu (n:Int) (x:ba) (hx:x=fH n) (b:Bool) (hb:b=ak n 1 60):Spec Tryz.prog 48 [iA n] (aG (.aS [(true,xP fun _=>x),(false,[.bool fun _=>b])])):=by
 refine aF au Tryz.func48 rfl rfl (fr:=true) (fun _=>by kernel_rfl) fun P hP hA=> ?_;cbv;refine af.by hP (Qr n (vH n) rfl (ak n 1 60) rfl) ?_;cbv;refine Br.split (fun h=> ?_) (fun h=> ?_) <;> cbv
 · have h:ak n 1 60=false:=by simpa using h
   obtain rfl:x=default:=hx.trans (if_neg (by rw[h]; simp));obtain rfl:b=false:=hb.trans h;exact⟨rfl,rfl,rfl,rfl,rfl,rfl,rfl,rfl,trivial⟩
 · have h:ak n 1 60=true:=by simpa using h
   have e:vH n=nS n:=if_pos h;obtain rfl:x=D0 n:=hx.trans (if_pos h);obtain rfl:b=true:=hb.trans h;rw[e];refine af.by hP (Qs) ?_;cbv
   repeat' first | exact trivial | refine⟨rfl, ?_⟩ | fail
def ca (x:bn):Bool:=ak x.seats.length 1 4 && (x.seats.all (fun y=>ak y 1 60) && (ak x.bX 1 5 && (ak x.room 1 10 && (ak x.size 1 6 && (ak x.period 1 12 && (ak x.bE 1 8 && (ak x.tries 1 4 && (ak x.bm 1 3 && ak x.rest 0 8))))))))
theorem Qv {α:Type} {a:List α} {i:Nat} (h:i<a.length):a.take (i+1)=a.take i ++ [a[i]]:=by
 rw[List.take_add_one,List.getElem?_eq_getElem h]; rfl
theorem Jv {p:Int→Bool} {a:List Int} {i:Nat} (h:i<a.length) (h1:∀y∈a.take i,p y=true) (h2:p a[i]=true):∀y∈a.take (i+1),p y=true:=by
 intro y hy;rw[Qv h,List.mem_append] at hy;rcases hy with hy | hy
 · exact h1 y hy
 · simp at hy; subst hy; exact h2
theorem Jw {p:Int→Bool} {a:List Int} {i:Nat} (h:i<a.length) (h2:p a[i]=false):a.all p=false:=by
 rw[List.all_eq_false];exact⟨a[i],List.getElem_mem _,by simp[h2]⟩
theorem Jx {p:Int→Bool} {a:List Int} {i:Nat} (h:a.length≤i) (h1:∀y∈a.take i,p y=true):a.all p=true:=by
 rw[List.take_of_length_le h] at h1;exact List.all_eq_true.2 h1
theorem xQ (x:bn) (hs:x.seats.length≤aN) (b:Bool) (hb:b=ca x):Spec Tryz.prog 14 [fG x] (aG (bR fun _=>b)):=by
 refine aF au Tryz.func14 rfl rfl (fr:=true) (fun _=>by kernel_rfl) fun P hP hA=> ?_;have hn:x.seats.length≤1048576:=hs;cbv;refine af.by hP (dn x.seats.length 1 4) ?_;cbv;refine Br.split (fun h0=> ?_) (fun h0=> ?_) <;> cbv
 · refine⟨?_,trivial⟩;have h0:ak x.seats.length 1 4=false:=by simpa using h0
   simp[hb,ca,h0]
 have h0:ak x.seats.length 1 4=true:=by simpa using h0
 refine af.by hP (dn x.bX 1 5) ?_;cbv;refine Br.split (fun h1=> ?_) (fun h1=> ?_) <;> cbv
 · refine⟨?_,trivial⟩;have h1:ak x.bX 1 5=false:=by simpa using h1
   simp[hb,ca,h0,h1]
 have h1:ak x.bX 1 5=true:=by simpa using h1
 refine af.by hP (dn x.room 1 10) ?_;cbv;refine Br.split (fun h2=> ?_) (fun h2=> ?_) <;> cbv
 · refine⟨?_,trivial⟩;have h2:ak x.room 1 10=false:=by simpa using h2
   simp[hb,ca,h0,h1,h2]
 have h2:ak x.room 1 10=true:=by simpa using h2
 refine af.by hP (dn x.size 1 6) ?_;cbv;refine Br.split (fun h3=> ?_) (fun h3=> ?_) <;> cbv
 · refine⟨?_,trivial⟩;have h3:ak x.size 1 6=false:=by simpa using h3
   simp[hb,ca,h0,h1,h2,h3]
 have h3:ak x.size 1 6=true:=by simpa using h3
 refine af.by hP (dn x.period 1 12) ?_;cbv;refine Br.split (fun h4=> ?_) (fun h4=> ?_) <;> cbv
 · refine⟨?_,trivial⟩;have h4:ak x.period 1 12=false:=by simpa using h4
   simp[hb,ca,h0,h1,h2,h3,h4]
 have h4:ak x.period 1 12=true:=by simpa using h4
 have g0:=h0;have g1:=h1;have g2:=h2;have g3:=h3;have g4:=h4;refine aR.by (X:=Nat) (fun i=>[(1,pN 0),(3,nT fun _=>i)]) (fun _=>[(0, .box [.lf (.list .int fun _=>x.seats), .lf (.int .i64 fun _=>x.bX), .lf (.int .i64 fun _=>x.room), .lf (.int .i64 fun _=>x.size), .lf (.int .i64 fun _=>x.period), .lf (.int .i64 fun _=>x.bE), .lf (.int .i64 fun _=>x.rest), .lf (.int .i64 fun _=>x.tries), .lf (.int .i64 fun _=>x.bm)])]) (fun i=>i≤x.seats.length∧∀y∈x.seats.take i,ak y 1 60=true) (fun i _=>x.seats.length - i) 0 ⟨Nat.zero_le _,by simp⟩ ?_ ?_
 · cbv
   repeat' first | exact trivial | refine⟨rfl, ?_⟩ | fail
 · intro i ⟨hi,ht⟩;cbv;refine Br.dec (fun h2=> ?_) (fun h2=> ?_) <;> cbv
   · have h2:(i:Int)<(x.seats.length:Int):=h2;have h2:i<x.seats.length:=by omega
     refine⟨x.seats[i],by simp,get_cast x.seats h2, ?_⟩;cbv;refine af.by hP (dn x.seats[i] 1 60) ?_;cbv;refine Br.split (fun h3=> ?_) (fun h3=> ?_) <;> cbv
     · refine⟨?_,trivial⟩;have h3:ak x.seats[i] 1 60=false:=by simpa using h3
       have h3:x.seats.all (fun y=>ak y 1 60)=false:=Jw (p:=fun y=>ak y 1 60) h2 h3;simp[hb,ca,g0,g1,g2,g3,g4,h3]
     have h3:ak x.seats[i] 1 60=true:=by simpa using h3
     refine Ar.exact ?_ ?_ ?_
     · show -9223372036854775808≤(i:Int)+1;omega
     · show(i:Int)+1≤9223372036854775807;omega
     cbv;refine aL.by (i+1) ?_ ?_ ?_
     · show x.seats.length - (i+1)<x.seats.length - i;omega
     · exact⟨h2,Jv (p:=fun y=>ak y 1 60) h2 ht h3⟩
     · cbv
       repeat' first | exact trivial | refine⟨rfl, ?_⟩ | fail
   have h2:¬(i:Int)<(x.seats.length:Int):=h2;have h2:x.seats.length≤i:=by omega
   have gL:x.seats.all (fun y=>ak y 1 60)=true:=Jx (p:=fun y=>ak y 1 60) h2 ht;refine af.by hP (dn x.bE 1 8) ?_;cbv;refine Br.split (fun k0=> ?_) (fun k0=> ?_) <;> cbv
   rotate_left
   · refine⟨?_,trivial⟩;have k0:ak x.bE 1 8=false:=by simpa using k0
     simp[hb,ca,g0,g1,g2,g3,g4,gL,k0]
   have k0:ak x.bE 1 8=true:=by simpa using k0
   refine af.by hP (dn x.rest 0 8) ?_;cbv;refine Br.split (fun k1=> ?_) (fun k1=> ?_) <;> cbv
   rotate_left
   · refine⟨?_,trivial⟩;have k1:ak x.rest 0 8=false:=by simpa using k1
     simp[hb,ca,g0,g1,g2,g3,g4,gL,k0,k1]
   have k1:ak x.rest 0 8=true:=by simpa using k1
   refine af.by hP (dn x.tries 1 4) ?_;cbv;refine Br.split (fun k2=> ?_) (fun k2=> ?_) <;> cbv
   rotate_left
   · refine⟨?_,trivial⟩;have k2:ak x.tries 1 4=false:=by simpa using k2
     simp[hb,ca,g0,g1,g2,g3,g4,gL,k0,k1,k2]
   have k2:ak x.tries 1 4=true:=by simpa using k2
   refine af.by hP (dn x.bm 1 3) ?_;cbv;refine⟨?_,trivial⟩;simp[hb,ca,g0,g1,g2,g3,g4,gL,k0,k1,k2]
theorem Ax (x:bn) (hs:x.seats.length≤aN) (b:Bool) (hb:b=ca x):Spec Tryz.prog 46 [fG x] (aG (bR fun _=>b)):=by
 refine aF au Tryz.func46 rfl rfl (fr:=true) (fun _=>by kernel_rfl) fun P hP hA=> ?_;have hn:x.seats.length≤1048576:=hs;cbv;refine af.by hP (di x.seats.length 1 4) ?_;cbv
 repeat (refine Pz.mk ?_; cbv)
 refine Br.split (fun h0=> ?_) (fun h0=> ?_) <;> (cbv; repeat (refine Pz.mk ?_; cbv))
 · refine⟨?_,trivial⟩;have h0:ak x.seats.length 1 4=false:=by simpa using h0
   simp[hb,ca,h0]
 have h0:ak x.seats.length 1 4=true:=by simpa using h0
 have g0:=h0;refine aR.by (X:=Nat) (fun i=>[(1,pN 0),(11,lT .int fun _=>x.seats),(12,nT fun _=>x.seats.length),(13,nT fun _=>i)]) (fun _=>[(0, .box [.lf (.list .int fun _=>x.seats), .lf (.int .i64 fun _=>x.bX), .lf (.int .i64 fun _=>x.room), .lf (.int .i64 fun _=>x.size), .lf (.int .i64 fun _=>x.period), .lf (.int .i64 fun _=>x.bE), .lf (.int .i64 fun _=>x.rest), .lf (.int .i64 fun _=>x.tries), .lf (.int .i64 fun _=>x.bm)])]) (fun i=>i≤x.seats.length∧∀y∈x.seats.take i,ak y 1 60=true) (fun i _=>x.seats.length - i) 0 ⟨Nat.zero_le _,by simp⟩ ?_ ?_
 · cbv
   repeat' first | exact trivial | refine⟨rfl, ?_⟩ | fail
 · intro i ⟨hi,ht⟩;cbv;refine Br.dec (fun h2=> ?_) (fun h2=> ?_) <;> (cbv; repeat (refine Pz.mk ?_; cbv))
   · have h2:(i:Int)<(x.seats.length:Int):=h2;have h2:i<x.seats.length:=by omega
     refine⟨x.seats[i],by simp,get_cast x.seats h2, ?_⟩;cbv;refine af.by hP (di x.seats[i] 1 60) ?_;cbv
     repeat (refine Pz.mk ?_; cbv)
     refine Br.split (fun h3=> ?_) (fun h3=> ?_) <;> (cbv; repeat (refine Pz.mk ?_; cbv))
     · refine⟨?_,trivial⟩;have h3:ak x.seats[i] 1 60=false:=by simpa using h3
       have h3:x.seats.all (fun y=>ak y 1 60)=false:=Jw (p:=fun y=>ak y 1 60) h2 h3;simp[hb,ca,g0,h3]
     have h3:ak x.seats[i] 1 60=true:=by simpa using h3
     refine Ar.exact ?_ ?_ ?_
     · show -9223372036854775808≤(i:Int)+1;omega
     · show(i:Int)+1≤9223372036854775807;omega
     cbv;refine aL.by (i+1) ?_ ?_ ?_
     · show x.seats.length - (i+1)<x.seats.length - i;omega
     · exact⟨h2,Jv (p:=fun y=>ak y 1 60) h2 ht h3⟩
     · cbv
       repeat' first | exact trivial | refine⟨rfl, ?_⟩ | fail
   have h2:¬(i:Int)<(x.seats.length:Int):=h2;have h2:x.seats.length≤i:=by omega
   have gL:x.seats.all (fun y=>ak y 1 60)=true:=Jx (p:=fun y=>ak y 1 60) h2 ht;refine af.by hP (di x.bX 1 5) ?_;cbv
   repeat (refine Pz.mk ?_; cbv)
   refine Br.split (fun k0=> ?_) (fun k0=> ?_) <;> (cbv; repeat (refine Pz.mk ?_; cbv))
   rotate_left
   · refine⟨?_,trivial⟩;have k0:ak x.bX 1 5=false:=by simpa using k0
     simp[hb,ca,g0,gL,k0]
   have k0:ak x.bX 1 5=true:=by simpa using k0
   refine af.by hP (di x.room 1 10) ?_;cbv
   repeat (refine Pz.mk ?_; cbv)
   refine Br.split (fun k1=> ?_) (fun k1=> ?_) <;> (cbv; repeat (refine Pz.mk ?_; cbv))
   rotate_left
   · refine⟨?_,trivial⟩;have k1:ak x.room 1 10=false:=by simpa using k1
     simp[hb,ca,g0,gL,k0,k1]
   have k1:ak x.room 1 10=true:=by simpa using k1
   refine af.by hP (di x.size 1 6) ?_;cbv
   repeat (refine Pz.mk ?_; cbv)
   refine Br.split (fun k2=> ?_) (fun k2=> ?_) <;> (cbv; repeat (refine Pz.mk ?_; cbv))
   rotate_left
   · refine⟨?_,trivial⟩;have k2:ak x.size 1 6=false:=by simpa using k2
     simp[hb,ca,g0,gL,k0,k1,k2]
   have k2:ak x.size 1 6=true:=by simpa using k2
   refine af.by hP (di x.period 1 12) ?_;cbv
   repeat (refine Pz.mk ?_; cbv)
   refine Br.split (fun k3=> ?_) (fun k3=> ?_) <;> (cbv; repeat (refine Pz.mk ?_; cbv))
   rotate_left
   · refine⟨?_,trivial⟩;have k3:ak x.period 1 12=false:=by simpa using k3
     simp[hb,ca,g0,gL,k0,k1,k2,k3]
   have k3:ak x.period 1 12=true:=by simpa using k3
   refine af.by hP (di x.bE 1 8) ?_;cbv
   repeat (refine Pz.mk ?_; cbv)
   refine Br.split (fun k4=> ?_) (fun k4=> ?_) <;> (cbv; repeat (refine Pz.mk ?_; cbv))
   rotate_left
   · refine⟨?_,trivial⟩;have k4:ak x.bE 1 8=false:=by simpa using k4
     simp[hb,ca,g0,gL,k0,k1,k2,k3,k4]
   have k4:ak x.bE 1 8=true:=by simpa using k4
   refine af.by hP (di x.tries 1 4) ?_;cbv
   repeat (refine Pz.mk ?_; cbv)
   refine Br.split (fun k5=> ?_) (fun k5=> ?_) <;> (cbv; repeat (refine Pz.mk ?_; cbv))
   rotate_left
   · refine⟨?_,trivial⟩;have k5:ak x.tries 1 4=false:=by simpa using k5
     simp[hb,ca,g0,gL,k0,k1,k2,k3,k4,k5]
   have k5:ak x.tries 1 4=true:=by simpa using k5
   refine af.by hP (di x.bm 1 3) ?_;cbv
   repeat (refine Pz.mk ?_; cbv)
   refine Br.split (fun k6=> ?_) (fun k6=> ?_) <;> (cbv; repeat (refine Pz.mk ?_; cbv))
   rotate_left
   · refine⟨?_,trivial⟩;have k6:ak x.bm 1 3=false:=by simpa using k6
     simp[hb,ca,g0,gL,k0,k1,k2,k3,k4,k5,k6]
   have k6:ak x.bm 1 3=true:=by simpa using k6
   refine af.by hP (di x.rest 0 8) ?_;cbv
   repeat (refine Pz.mk ?_; cbv)
   refine⟨?_,trivial⟩;simp[hb,ca,g0,gL,k0,k1,k2,k3,k4,k5,k6]
theorem Ay (a:List Int) (hn:a.length≤aN):Spec Tryz.prog 109 [lA .int a] (aG (lR .int fun _=>a)):=by
 refine aF au Tryz.func109 rfl rfl (fr:=true) (fun _=>by kernel_rfl) fun P hP hA=> ?_;have hn:a.length≤1048576:=hn;cbv;refine⟨?_, ?_⟩
 · show(0+a.length)*8≤140737488355328;omega
 cbv;exact⟨rfl,trivial⟩
theorem Jy (x:bn) (hs:x.seats.length≤aN):Spec Tryz.prog 47 [fG x] (aG (xM fun _=>x)):=by
 refine aF au Tryz.func47 rfl rfl (fr:=true) (fun _=>by kernel_rfl) fun P hP hA=> ?_;cbv;refine af.by hP (Ay x.seats hs) ?_;cbv;exact⟨rfl,rfl,rfl,rfl,rfl,rfl,rfl,rfl,rfl,trivial⟩
theorem D5 (x:bn) (hs:x.seats.length≤aN):Spec Tryz.prog 141 [fG x] (aG (xM fun _=>x)):=by
 refine aF au Tryz.func141 rfl rfl (fr:=true) (fun _=>by kernel_rfl) fun P hP hA=> ?_;have hn:x.seats.length≤1048576:=hs;cbv;refine⟨?_, ?_⟩
 · show(0+x.seats.length)*8≤140737488355328;omega
 cbv;exact⟨rfl,rfl,rfl,rfl,rfl,rfl,rfl,rfl,rfl,trivial⟩
structure Qw (x:bn):Prop where
 len:1≤x.seats.length∧x.seats.length≤4
 bX:1≤x.bX∧x.bX≤5
 room:1≤x.room∧x.room≤10
 size:1≤x.size∧x.size≤6
 period:1≤x.period∧x.period≤12
 bE:1≤x.bE∧x.bE≤8
 tries:1≤x.tries∧x.tries≤4
 bm:1≤x.bm∧x.bm≤3
 rest:0≤x.rest∧x.rest≤8
theorem eB {x:bn} (h:ca x=true):Qw x:=by
 simp only[ca,Bool.and_eq_true,List.all_eq_true] at h;obtain⟨h1,_,h2,h3,h4,h5,h6,h7,h8,h9⟩:=h;have h1:=bD h1;exact⟨by omega,bD h2,bD h3,bD h4,bD h5,bD h6,bD h7,bD h8,bD h9⟩
theorem pq (n sz:Int) (h0:0≤sz) (h1:sz≤9223372036854775807):Spec Tryz.prog 58 [iA n,iA sz] (aG (bR fun _=>ak n 0 (sz - 1))):=by
 have e:(fun _:Unit=>ak n 0 (sz - 1))=fun _=>(decide (0≤n) && decide (n<sz)):=by
  funext _
  unfold ak;rw[Bool.eq_iff_iff]; simp only[Bool.and_eq_true,decide_eq_true_eq]; omega
 rw[e];exact Jr n sz h0 h1
def bF (R:bn) (p:ax) (now:Int):Bool:=
 ca R && (ak now 0 1000000 && (ak p.id 1 999 && (ak p.ag 0 (R.seats.length - 1) && (ak p.al (-1) (R.seats.length - 1) && (!(p.al == p.ag) &&
  (ak p.aj 1 R.size && (ak p.aO 0 (R.bX - 1) && (ak p.since 0 now && (ak p.aA 1 1000000 && (ak p.asked 0 (R.tries - 1) &&
   ((p.st == 1 && ak p.dH 0 (now+R.rest)) || (p.st == 2 && ak p.dH 1 (now+R.bE)))))))))))))
theorem D6 (R:bn) (p:ax) (now:Int) (hs:R.seats.length≤aN) (b:Bool) (hb:b=bF R p now):Spec Tryz.prog 112 [fG R,eA .aE p,iA now] (aG (bR fun _=>b)):=by
 refine aF au Tryz.func112 rfl rfl (fr:=true) (fun _=>by kernel_rfl) fun P hP hA=> ?_;have hn:R.seats.length≤1048576:=hs;cbv;refine af.by hP (xQ R hs (ca R) rfl) ?_;cbv
 repeat (refine Pz.mk ?_; cbv)
 refine Br.split (fun h0=> ?_) (fun h0=> ?_) <;> (cbv; repeat (refine Pz.mk ?_; cbv))
 · refine⟨?_,trivial⟩;have h0:ca R=false:=by simpa using h0
   simp[hb,bF,h0]
 have h0:ca R=true:=by simpa using h0
 obtain⟨⟨a1,a2⟩,⟨b1,b2⟩,_,⟨d1,d2⟩,_,⟨f1,f2⟩,⟨g1,g2⟩,_,⟨i1,i2⟩⟩:=eB h0;refine af.by hP (dn now 0 1000000) ?_;cbv
 repeat (refine Pz.mk ?_; cbv)
 refine Br.split (fun h1=> ?_) (fun h1=> ?_) <;> (cbv; repeat (refine Pz.mk ?_; cbv))
 · refine⟨?_,trivial⟩;have h1:ak now 0 1000000=false:=by simpa using h1
   simp[hb,bF,h0,h1]
 have h1:ak now 0 1000000=true:=by simpa using h1
 obtain⟨n1,n2⟩:=bD h1;refine af.by hP (dn p.id 1 999) ?_;cbv
 repeat (refine Pz.mk ?_; cbv)
 refine Br.split (fun h2=> ?_) (fun h2=> ?_) <;> (cbv; repeat (refine Pz.mk ?_; cbv))
 · refine⟨?_,trivial⟩;have h2:ak p.id 1 999=false:=by simpa using h2
   simp[hb,bF,h0,h1,h2]
 have h2:ak p.id 1 999=true:=by simpa using h2
 refine Ar.exact ?_ ?_ ?_
 · show -9223372036854775808≤(R.seats.length:Int) - 1;omega
 · show(R.seats.length:Int) - 1≤9223372036854775807;omega
 cbv;refine af.by hP (dn p.ag 0 ((R.seats.length:Int) - 1)) ?_;cbv
 repeat (refine Pz.mk ?_; cbv)
 refine Br.split (fun h3=> ?_) (fun h3=> ?_) <;> (cbv; repeat (refine Pz.mk ?_; cbv))
 · refine⟨?_,trivial⟩;have h3:ak p.ag 0 ((R.seats.length:Int) - 1)=false:=by simpa using h3
   simp[hb,bF,h0,h1,h2,h3]
 have h3:ak p.ag 0 ((R.seats.length:Int) - 1)=true:=by simpa using h3
 refine Ar.exact ?_ ?_ ?_
 · show -9223372036854775808≤(R.seats.length:Int) - 1;omega
 · show(R.seats.length:Int) - 1≤9223372036854775807;omega
 cbv;refine af.by hP (dn p.al (-1) ((R.seats.length:Int) - 1)) ?_;cbv
 repeat (refine Pz.mk ?_; cbv)
 refine Br.split (fun h4=> ?_) (fun h4=> ?_) <;> (cbv; repeat (refine Pz.mk ?_; cbv))
 · refine⟨?_,trivial⟩;have h4:ak p.al (-1) ((R.seats.length:Int) - 1)=false:=by simpa using h4
   simp[hb,bF,h0,h1,h2,h3,h4]
 have h4:ak p.al (-1) ((R.seats.length:Int) - 1)=true:=by simpa using h4
 refine Br.split (fun h5=> ?_) (fun h5=> ?_) <;> (cbv; repeat (refine Pz.mk ?_; cbv))
 · refine⟨?_,trivial⟩;have h5:(p.al == p.ag)=true:=h5;simp[hb,bF,h0,h1,h2,h3,h4,h5]
 have h5:(!(p.al == p.ag))=true:=by simpa using h5
 refine af.by hP (dn p.aj 1 R.size) ?_;cbv
 repeat (refine Pz.mk ?_; cbv)
 refine Br.split (fun h6=> ?_) (fun h6=> ?_) <;> (cbv; repeat (refine Pz.mk ?_; cbv))
 · refine⟨?_,trivial⟩;have h6:ak p.aj 1 R.size=false:=by simpa using h6
   simp[hb,bF,h0,h1,h2,h3,h4,h5,h6]
 have h6:ak p.aj 1 R.size=true:=by simpa using h6
 refine Ar.exact ?_ ?_ ?_
 · show -9223372036854775808≤R.bX - 1;omega
 · show R.bX - 1≤9223372036854775807;omega
 cbv;refine af.by hP (dn p.aO 0 (R.bX - 1)) ?_;cbv
 repeat (refine Pz.mk ?_; cbv)
 refine Br.split (fun h7=> ?_) (fun h7=> ?_) <;> (cbv; repeat (refine Pz.mk ?_; cbv))
 · refine⟨?_,trivial⟩;have h7:ak p.aO 0 (R.bX - 1)=false:=by simpa using h7
   simp[hb,bF,h0,h1,h2,h3,h4,h5,h6,h7]
 have h7:ak p.aO 0 (R.bX - 1)=true:=by simpa using h7
 refine af.by hP (dn p.since 0 now) ?_;cbv
 repeat (refine Pz.mk ?_; cbv)
 refine Br.split (fun h8=> ?_) (fun h8=> ?_) <;> (cbv; repeat (refine Pz.mk ?_; cbv))
 · refine⟨?_,trivial⟩;have h8:ak p.since 0 now=false:=by simpa using h8
   simp[hb,bF,h0,h1,h2,h3,h4,h5,h6,h7,h8]
 have h8:ak p.since 0 now=true:=by simpa using h8
 refine af.by hP (dn p.aA 1 1000000) ?_;cbv
 repeat (refine Pz.mk ?_; cbv)
 refine Br.split (fun h9=> ?_) (fun h9=> ?_) <;> (cbv; repeat (refine Pz.mk ?_; cbv))
 · refine⟨?_,trivial⟩;have h9:ak p.aA 1 1000000=false:=by simpa using h9
   simp[hb,bF,h0,h1,h2,h3,h4,h5,h6,h7,h8,h9]
 have h9:ak p.aA 1 1000000=true:=by simpa using h9
 refine Ar.exact ?_ ?_ ?_
 · show -9223372036854775808≤R.tries - 1;omega
 · show R.tries - 1≤9223372036854775807;omega
 cbv;refine af.by hP (dn p.asked 0 (R.tries - 1)) ?_;cbv
 repeat (refine Pz.mk ?_; cbv)
 refine Br.split (fun bI=> ?_) (fun bI=> ?_) <;> (cbv; repeat (refine Pz.mk ?_; cbv))
 · refine⟨?_,trivial⟩;have bI:ak p.asked 0 (R.tries - 1)=false:=by simpa using bI
   simp[hb,bF,h0,h1,h2,h3,h4,h5,h6,h7,h8,h9,bI]
 have bI:ak p.asked 0 (R.tries - 1)=true:=by simpa using bI
 have e:b=((p.st == 1 && ak p.dH 0 (now+R.rest)) || (p.st == 2 && ak p.dH 1 (now+R.bE))):=by simp[hb,bF,h0,h1,h2,h3,h4,h5,h6,h7,h8,h9,bI]
 clear hb h0 h2 h3 h4 h5 h6 h7 h8 h9 bI
 repeat' first
   | (refine Ar.exact (t:=fun _=>now+R.rest) (by show -9223372036854775808≤now+R.rest; omega) (by show now+R.rest≤9223372036854775807; omega) ?_; cbv)
   | (refine Ar.exact (t:=fun _=>now+R.bE) (by show -9223372036854775808≤now+R.bE; omega) (by show now+R.bE≤9223372036854775807; omega) ?_; cbv)
   | (refine af.by hP (dn p.dH 0 (now+R.rest)) ?_; cbv)
   | (refine af.by hP (dn p.dH 1 (now+R.bE)) ?_; cbv)
   | (refine Br.split (fun h=> ?_) (fun h=> ?_) <;> cbv)
 all_goals refine⟨?_,trivial⟩
 all_goals simp_all
theorem Az (R:bn) (p:ax) (now:Int) (hs:R.seats.length≤aN) (b:Bool) (hb:b=bF R p now):Spec Tryz.prog 55 [fG R,eA .aE p,iA now] (aG (bR fun _=>b)):=by
 refine aF au Tryz.func55 rfl rfl (fr:=true) (fun _=>by kernel_rfl) fun P hP hA=> ?_;have hn:R.seats.length≤1048576:=hs;cbv;refine af.by hP (Ax R hs (ca R) rfl) ?_;cbv
 repeat (refine Pz.mk ?_; cbv)
 refine Br.split (fun h0=> ?_) (fun h0=> ?_) <;> (cbv; repeat (refine Pz.mk ?_; cbv))
 · refine⟨?_,trivial⟩;have h0:ca R=false:=by simpa using h0
   simp[hb,bF,h0]
 have h0:ca R=true:=by simpa using h0
 obtain⟨⟨a1,a2⟩,⟨b1,b2⟩,_,⟨d1,d2⟩,_,⟨f1,f2⟩,⟨g1,g2⟩,_,⟨i1,i2⟩⟩:=eB h0;refine af.by hP (di now 0 1000000) ?_;cbv
 repeat (refine Pz.mk ?_; cbv)
 refine Br.split (fun h1=> ?_) (fun h1=> ?_) <;> (cbv; repeat (refine Pz.mk ?_; cbv))
 · refine⟨?_,trivial⟩;have h1:ak now 0 1000000=false:=by simpa using h1
   simp[hb,bF,h0,h1]
 have h1:ak now 0 1000000=true:=by simpa using h1
 obtain⟨n1,n2⟩:=bD h1;refine af.by hP (di p.id 1 999) ?_;cbv
 repeat (refine Pz.mk ?_; cbv)
 refine Br.split (fun h2=> ?_) (fun h2=> ?_) <;> (cbv; repeat (refine Pz.mk ?_; cbv))
 · refine⟨?_,trivial⟩;have h2:ak p.id 1 999=false:=by simpa using h2
   simp[hb,bF,h0,h1,h2]
 have h2:ak p.id 1 999=true:=by simpa using h2
 refine af.by hP (pq p.ag (R.seats.length:Int) (by omega) (by omega)) ?_;cbv
 repeat (refine Pz.mk ?_; cbv)
 refine Br.split (fun h3=> ?_) (fun h3=> ?_) <;> (cbv; repeat (refine Pz.mk ?_; cbv))
 · refine⟨?_,trivial⟩;have h3:ak p.ag 0 ((R.seats.length:Int) - 1)=false:=by simpa using h3
   simp[hb,bF,h0,h1,h2,h3]
 have h3:ak p.ag 0 ((R.seats.length:Int) - 1)=true:=by simpa using h3
 refine Ar.exact ?_ ?_ ?_
 · show -9223372036854775808≤(R.seats.length:Int) - 1;omega
 · show(R.seats.length:Int) - 1≤9223372036854775807;omega
 cbv;refine af.by hP (di p.al (-1) ((R.seats.length:Int) - 1)) ?_;cbv
 repeat (refine Pz.mk ?_; cbv)
 refine Br.split (fun h4=> ?_) (fun h4=> ?_) <;> (cbv; repeat (refine Pz.mk ?_; cbv))
 · refine⟨?_,trivial⟩;have h4:ak p.al (-1) ((R.seats.length:Int) - 1)=false:=by simpa using h4
   simp[hb,bF,h0,h1,h2,h3,h4]
 have h4:ak p.al (-1) ((R.seats.length:Int) - 1)=true:=by simpa using h4
 refine Br.split (fun h5=> ?_) (fun h5=> ?_) <;> (cbv; repeat (refine Pz.mk ?_; cbv))
 · refine⟨?_,trivial⟩;have h5:(p.al == p.ag)=true:=h5;simp[hb,bF,h0,h1,h2,h3,h4,h5]
 have h5:(!(p.al == p.ag))=true:=by simpa using h5
 refine af.by hP (di p.aj 1 R.size) ?_;cbv
 repeat (refine Pz.mk ?_; cbv)
 refine Br.split (fun h6=> ?_) (fun h6=> ?_) <;> (cbv; repeat (refine Pz.mk ?_; cbv))
 · refine⟨?_,trivial⟩;have h6:ak p.aj 1 R.size=false:=by simpa using h6
   simp[hb,bF,h0,h1,h2,h3,h4,h5,h6]
 have h6:ak p.aj 1 R.size=true:=by simpa using h6
 refine af.by hP (pq p.aO R.bX (by omega) (by omega)) ?_;cbv
 repeat (refine Pz.mk ?_; cbv)
 refine Br.split (fun h7=> ?_) (fun h7=> ?_) <;> (cbv; repeat (refine Pz.mk ?_; cbv))
 · refine⟨?_,trivial⟩;have h7:ak p.aO 0 (R.bX - 1)=false:=by simpa using h7
   simp[hb,bF,h0,h1,h2,h3,h4,h5,h6,h7]
 have h7:ak p.aO 0 (R.bX - 1)=true:=by simpa using h7
 refine af.by hP (di p.since 0 now) ?_;cbv
 repeat (refine Pz.mk ?_; cbv)
 refine Br.split (fun h8=> ?_) (fun h8=> ?_) <;> (cbv; repeat (refine Pz.mk ?_; cbv))
 · refine⟨?_,trivial⟩;have h8:ak p.since 0 now=false:=by simpa using h8
   simp[hb,bF,h0,h1,h2,h3,h4,h5,h6,h7,h8]
 have h8:ak p.since 0 now=true:=by simpa using h8
 refine af.by hP (di p.aA 1 1000000) ?_;cbv
 repeat (refine Pz.mk ?_; cbv)
 refine Br.split (fun h9=> ?_) (fun h9=> ?_) <;> (cbv; repeat (refine Pz.mk ?_; cbv))
 · refine⟨?_,trivial⟩;have h9:ak p.aA 1 1000000=false:=by simpa using h9
   simp[hb,bF,h0,h1,h2,h3,h4,h5,h6,h7,h8,h9]
 have h9:ak p.aA 1 1000000=true:=by simpa using h9
 refine af.by hP (pq p.asked R.tries (by omega) (by omega)) ?_;cbv
 repeat (refine Pz.mk ?_; cbv)
 refine Br.split (fun bI=> ?_) (fun bI=> ?_) <;> (cbv; repeat (refine Pz.mk ?_; cbv))
 · refine⟨?_,trivial⟩;have bI:ak p.asked 0 (R.tries - 1)=false:=by simpa using bI
   simp[hb,bF,h0,h1,h2,h3,h4,h5,h6,h7,h8,h9,bI]
 have bI:ak p.asked 0 (R.tries - 1)=true:=by simpa using bI
 have e:b=((p.st == 1 && ak p.dH 0 (now+R.rest)) || (p.st == 2 && ak p.dH 1 (now+R.bE))):=by simp[hb,bF,h0,h1,h2,h3,h4,h5,h6,h7,h8,h9,bI]
 clear hb h0 h2 h3 h4 h5 h6 h7 h8 h9 bI
 repeat' first
   | (refine Ar.exact (t:=fun _=>now+R.rest) (by show -9223372036854775808≤now+R.rest; omega) (by show now+R.rest≤9223372036854775807; omega) ?_; cbv)
   | (refine Ar.exact (t:=fun _=>now+R.bE) (by show -9223372036854775808≤now+R.bE; omega) (by show now+R.bE≤9223372036854775807; omega) ?_; cbv)
   | (refine af.by hP (di p.dH 0 (now+R.rest)) ?_; cbv)
   | (refine af.by hP (di p.dH 1 (now+R.bE)) ?_; cbv)
   | (refine Br.split (fun h=> ?_) (fun h=> ?_) <;> cbv)
 all_goals refine⟨?_,trivial⟩
 all_goals simp_all
def kD (p:ax) (now:Int):Bool:=p.st == 2 && decide (p.dH≤now)
def fS (p:ax) (now:Int):Bool:=p.st == 1 && decide (p.dH>now)
theorem Qx (p:ax) (now:Int):Spec Tryz.prog 172 [eA .aE p,iA now] (aG (bR fun _=>kD p now)):=by
 refine aF au Tryz.func172 rfl rfl (fr:=true) (fun _=>by kernel_rfl) fun P hP hA=> ?_;cbv;refine Br.split (fun h=> ?_) (fun h=> ?_) <;> cbv
 · refine⟨?_,trivial⟩;simp_all [kD]
 · refine⟨?_,trivial⟩;simp_all [kD]
theorem D7 (p:ax) (now:Int):Spec Tryz.prog 24 [eA .aE p,iA now] (aG (bR fun _=>fS p now)):=by
 refine aF au Tryz.func24 rfl rfl (fr:=true) (fun _=>by kernel_rfl) fun P hP hA=> ?_;cbv;refine Br.split (fun h=> ?_) (fun h=> ?_) <;> cbv
 · refine⟨?_,trivial⟩;simp_all [fS]
 · refine⟨?_,trivial⟩;simp_all [fS]
theorem Jz (p:ax) (now:Int):Spec Tryz.prog 105 [eA .aE p,iA now] (aG (bR fun _=>kD p now)):=by
 refine aF au Tryz.func105 rfl rfl (fr:=true) (fun _=>by kernel_rfl) fun P hP hA=> ?_;cbv;refine Br.split (fun h=> ?_) (fun h=> ?_) <;> cbv
 · refine⟨?_,trivial⟩;simp_all [kD]
 · refine⟨?_,trivial⟩;simp_all [kD]
theorem Qy (p:ax) (now:Int):Spec Tryz.prog 72 [eA .aE p,iA now] (aG (bR fun _=>fS p now)):=by
 refine aF au Tryz.func72 rfl rfl (fr:=true) (fun _=>by kernel_rfl) fun P hP hA=> ?_;cbv;refine Br.split (fun h=> ?_) (fun h=> ?_) <;> cbv
 · refine⟨?_,trivial⟩;simp_all [fS]
 · refine⟨?_,trivial⟩;simp_all [fS]
theorem m8 {α:Type} (z:α→Nat) {a:List α} {i:Nat} (h:i<a.length) (hv:z a[i]=0):((aV z (a.take i):Nat):Int)=((aV z (a.take (i+1)):Nat):Int):=by
 rw[JA z h,hv,Nat.add_zero]
theorem vI {α:Type} (z:α→Nat) {a:List α} {i:Nat} (h:i<a.length) {v:Int} (hv:((z a[i]:Nat):Int)=v):((aV z (a.take i):Nat):Int)+v=((aV z (a.take (i+1)):Nat):Int):=by
 rw[JA z h,←hv]; omega
def bK (c:Int) (p:ax):Nat:=if(p.ag == c)=true then 1 else 0
def m9 (c:Int) (p:ax):Bool:=p.st == 2 && (p.ag == c && ak p.aj 1 6)
def lN (c:Int) (p:ax):Bool:=p.al == c && ak p.aj 1 6
def cz (c:Int) (p:ax):Nat:=if m9 c p=true then p.aj.toNat else 0
def cC (c:Int) (p:ax):Nat:=if lN c p=true then p.aj.toNat else 0
theorem JB (c:Int) (a:List ax) (hn:a.length≤aN) (i:Nat):aV (bK c) (a.take i)≤1048576:=by
 have hn:a.length≤1048576:=hn;exact AA _ 1 1048576 (a.take i) (fun x _=>by unfold bK; split <;> omega) (by rw[List.length_take]; omega)
theorem D8 (c:Int) (a:List ax) (hn:a.length≤aN) (i:Nat):aV (cz c) (a.take i)≤6291456:=by
 have hn:a.length≤1048576:=hn
 exact AA _ 6 1048576 (a.take i) (fun x _=>by
  unfold cz; split
  · rename_i h; simp only[m9,Bool.and_eq_true] at h; have:=bD h.2.2; omega
  · omega) (by rw[List.length_take]; omega)
theorem D9 (c:Int) (a:List ax) (hn:a.length≤aN) (i:Nat):aV (cC c) (a.take i)≤6291456:=by
 have hn:a.length≤1048576:=hn
 exact AA _ 6 1048576 (a.take i) (fun x _=>by
  unfold cC; split
  · rename_i h; simp only[lN,Bool.and_eq_true] at h; have:=bD h.2; omega
  · omega) (by rw[List.length_take]; omega)
theorem AB (a:List ax) (c:Int) (hn:a.length≤aN):Spec Tryz.prog 53 [lA .aE a,iA c] (aG (nR fun _=>aV (bK c) a)):=by
 refine aF au Tryz.func53 rfl rfl (fr:=true) (fun _=>by kernel_rfl) fun P hP hA=> ?_;have kE:a.length≤1048576:=hn;cbv;refine aR.by (X:=Nat) (fun i=>[(0,lA .aE a),(1,iA c),(5,nT fun _=>aV (bK c) (a.take i)),(6,nT fun _=>i)]) (fun _=>[]) (fun i=>i≤a.length) (fun i _=>a.length - i) 0 (Nat.zero_le _) ?_ ?_
 · cbv
   repeat' first | exact trivial | refine⟨rfl, ?_⟩ | fail
 · intro i hi;have hle:=JB c a hn i;cbv;refine Br.dec (fun h2=> ?_) (fun h2=> ?_) <;> cbv
   rotate_left
   · have h2:a.length≤i:=by simp at h2; omega
     refine⟨?_,trivial⟩;show((aV (bK c) (a.take i):Nat):Int)=((aV (bK c) a:Nat):Int);rw[List.take_of_length_le h2]
   have h2:i<a.length:=by simpa using h2
   refine⟨a[i],by simp,get_cast a h2, ?_⟩;cbv;refine Br.split (fun k0=> ?_) (fun k0=> ?_) <;> cbv
   rotate_left
   · have k0:(a[i].ag == c)=false:=by simpa using k0
     have hz:bK c a[i]=0:=by simp[bK,k0]
     refine Ar.exact ?_ ?_ ?_
     · show -9223372036854775808≤(i:Int)+1;omega
     · show(i:Int)+1≤9223372036854775807;omega
     cbv;refine aL.by (i+1) ?_ ?_ ?_
     · show a.length - (i+1)<a.length - i;omega
     · exact h2
     · cbv
       repeat' first | exact trivial | refine⟨rfl, ?_⟩ | fail
       refine⟨?_, ?_⟩
       · exact m8 (bK c) h2 hz
       repeat' first | exact trivial | refine⟨rfl, ?_⟩ | fail
   have k0:(a[i].ag == c)=true:=by simpa using k0
   have hz:((bK c a[i]:Nat):Int)=1:=by simp[bK,k0]
   refine Ar.exact ?_ ?_ ?_
   · show -9223372036854775808≤((aV (bK c) (a.take i):Nat):Int)+1;omega
   · show((aV (bK c) (a.take i):Nat):Int)+1≤9223372036854775807;omega
   cbv;refine Ar.exact ?_ ?_ ?_
   · show -9223372036854775808≤(i:Int)+1;omega
   · show(i:Int)+1≤9223372036854775807;omega
   cbv;refine aL.by (i+1) ?_ ?_ ?_
   · show a.length - (i+1)<a.length - i;omega
   · exact h2
   · cbv
     repeat' first | exact trivial | refine⟨rfl, ?_⟩ | fail
     refine⟨?_, ?_⟩
     · exact vI (bK c) h2 hz
     repeat' first | exact trivial | refine⟨rfl, ?_⟩ | fail
theorem JC (a:List ax) (c:Int) (hn:a.length≤aN):Spec Tryz.prog 120 [lA .aE a,iA c] (aG (nR fun _=>aV (cz c) a)):=by
 refine aF au Tryz.func120 rfl rfl (fr:=true) (fun _=>by kernel_rfl) fun P hP hA=> ?_;have kE:a.length≤1048576:=hn;cbv;refine aR.by (X:=Nat) (fun i=>[(0,lA .aE a),(1,iA c),(5,nT fun _=>aV (cz c) (a.take i)),(6,nT fun _=>i)]) (fun _=>[]) (fun i=>i≤a.length) (fun i _=>a.length - i) 0 (Nat.zero_le _) ?_ ?_
 · cbv
   repeat' first | exact trivial | refine⟨rfl, ?_⟩ | fail
 · intro i hi;have hle:=D8 c a hn i;cbv;refine Br.dec (fun h2=> ?_) (fun h2=> ?_) <;> cbv
   rotate_left
   · have h2:a.length≤i:=by simp at h2; omega
     refine⟨?_,trivial⟩;show((aV (cz c) (a.take i):Nat):Int)=((aV (cz c) a:Nat):Int);rw[List.take_of_length_le h2]
   have h2:i<a.length:=by simpa using h2
   refine⟨a[i],by simp,get_cast a h2, ?_⟩;cbv;refine Br.split (fun k0=> ?_) (fun k0=> ?_) <;> cbv
   rotate_left
   · have k0:(a[i].st == 2)=false:=by simpa using k0
     have hz:cz c a[i]=0:=by simp[cz,m9,k0]
     refine Ar.exact ?_ ?_ ?_
     · show -9223372036854775808≤(i:Int)+1;omega
     · show(i:Int)+1≤9223372036854775807;omega
     cbv;refine aL.by (i+1) ?_ ?_ ?_
     · show a.length - (i+1)<a.length - i;omega
     · exact h2
     · cbv
       repeat' first | exact trivial | refine⟨rfl, ?_⟩ | fail
       refine⟨?_, ?_⟩
       · exact m8 (cz c) h2 hz
       repeat' first | exact trivial | refine⟨rfl, ?_⟩ | fail
   have k0:(a[i].st == 2)=true:=by simpa using k0
   refine⟨a[i],by simp,get_cast a h2, ?_⟩;cbv;refine Br.split (fun k1=> ?_) (fun k1=> ?_) <;> cbv
   rotate_left
   · have k1:(a[i].ag == c)=false:=by simpa using k1
     have hz:cz c a[i]=0:=by simp[cz,m9,k0,k1]
     refine Ar.exact ?_ ?_ ?_
     · show -9223372036854775808≤(i:Int)+1;omega
     · show(i:Int)+1≤9223372036854775807;omega
     cbv;refine aL.by (i+1) ?_ ?_ ?_
     · show a.length - (i+1)<a.length - i;omega
     · exact h2
     · cbv
       repeat' first | exact trivial | refine⟨rfl, ?_⟩ | fail
       refine⟨?_, ?_⟩
       · exact m8 (cz c) h2 hz
       repeat' first | exact trivial | refine⟨rfl, ?_⟩ | fail
   have k1:(a[i].ag == c)=true:=by simpa using k1
   refine⟨a[i],by simp,get_cast a h2, ?_⟩;cbv;refine af.by hP (dn a[i].aj 1 6) ?_;cbv;refine Br.split (fun k2=> ?_) (fun k2=> ?_) <;> cbv
   rotate_left
   · have k2:ak a[i].aj 1 6=false:=by simpa using k2
     have hz:cz c a[i]=0:=by simp[cz,m9,k0,k1,k2]
     refine Ar.exact ?_ ?_ ?_
     · show -9223372036854775808≤(i:Int)+1;omega
     · show(i:Int)+1≤9223372036854775807;omega
     cbv;refine aL.by (i+1) ?_ ?_ ?_
     · show a.length - (i+1)<a.length - i;omega
     · exact h2
     · cbv
       repeat' first | exact trivial | refine⟨rfl, ?_⟩ | fail
       refine⟨?_, ?_⟩
       · exact m8 (cz c) h2 hz
       repeat' first | exact trivial | refine⟨rfl, ?_⟩ | fail
   have k2:ak a[i].aj 1 6=true:=by simpa using k2
   have hq:=bD k2;have hz:((cz c a[i]:Nat):Int)=a[i].aj:=by simp[cz,m9,k0,k1,k2]; omega
   refine⟨a[i],by simp,get_cast a h2, ?_⟩;cbv;refine Ar.exact ?_ ?_ ?_
   · show -9223372036854775808≤((aV (cz c) (a.take i):Nat):Int)+a[i].aj;omega
   · show((aV (cz c) (a.take i):Nat):Int)+a[i].aj≤9223372036854775807;omega
   cbv;refine Ar.exact ?_ ?_ ?_
   · show -9223372036854775808≤(i:Int)+1;omega
   · show(i:Int)+1≤9223372036854775807;omega
   cbv;refine aL.by (i+1) ?_ ?_ ?_
   · show a.length - (i+1)<a.length - i;omega
   · exact h2
   · cbv
     repeat' first | exact trivial | refine⟨rfl, ?_⟩ | fail
     refine⟨?_, ?_⟩
     · exact vI (cz c) h2 hz
     repeat' first | exact trivial | refine⟨rfl, ?_⟩ | fail
theorem JD (a:List ax) (c:Int) (hn:a.length≤aN):Spec Tryz.prog 121 [lA .aE a,iA c] (aG (nR fun _=>aV (cC c) a)):=by
 refine aF au Tryz.func121 rfl rfl (fr:=true) (fun _=>by kernel_rfl) fun P hP hA=> ?_;have kE:a.length≤1048576:=hn;cbv;refine aR.by (X:=Nat) (fun i=>[(0,lA .aE a),(1,iA c),(5,nT fun _=>aV (cC c) (a.take i)),(6,nT fun _=>i)]) (fun _=>[]) (fun i=>i≤a.length) (fun i _=>a.length - i) 0 (Nat.zero_le _) ?_ ?_
 · cbv
   repeat' first | exact trivial | refine⟨rfl, ?_⟩ | fail
 · intro i hi;have hle:=D9 c a hn i;cbv;refine Br.dec (fun h2=> ?_) (fun h2=> ?_) <;> cbv
   rotate_left
   · have h2:a.length≤i:=by simp at h2; omega
     refine⟨?_,trivial⟩;show((aV (cC c) (a.take i):Nat):Int)=((aV (cC c) a:Nat):Int);rw[List.take_of_length_le h2]
   have h2:i<a.length:=by simpa using h2
   refine⟨a[i],by simp,get_cast a h2, ?_⟩;cbv;refine Br.split (fun k0=> ?_) (fun k0=> ?_) <;> cbv
   rotate_left
   · have k0:(a[i].al == c)=false:=by simpa using k0
     have hz:cC c a[i]=0:=by simp[cC,lN,k0]
     refine Ar.exact ?_ ?_ ?_
     · show -9223372036854775808≤(i:Int)+1;omega
     · show(i:Int)+1≤9223372036854775807;omega
     cbv;refine aL.by (i+1) ?_ ?_ ?_
     · show a.length - (i+1)<a.length - i;omega
     · exact h2
     · cbv
       repeat' first | exact trivial | refine⟨rfl, ?_⟩ | fail
       refine⟨?_, ?_⟩
       · exact m8 (cC c) h2 hz
       repeat' first | exact trivial | refine⟨rfl, ?_⟩ | fail
   have k0:(a[i].al == c)=true:=by simpa using k0
   refine⟨a[i],by simp,get_cast a h2, ?_⟩;cbv;refine af.by hP (dn a[i].aj 1 6) ?_;cbv;refine Br.split (fun k1=> ?_) (fun k1=> ?_) <;> cbv
   rotate_left
   · have k1:ak a[i].aj 1 6=false:=by simpa using k1
     have hz:cC c a[i]=0:=by simp[cC,lN,k0,k1]
     refine Ar.exact ?_ ?_ ?_
     · show -9223372036854775808≤(i:Int)+1;omega
     · show(i:Int)+1≤9223372036854775807;omega
     cbv;refine aL.by (i+1) ?_ ?_ ?_
     · show a.length - (i+1)<a.length - i;omega
     · exact h2
     · cbv
       repeat' first | exact trivial | refine⟨rfl, ?_⟩ | fail
       refine⟨?_, ?_⟩
       · exact m8 (cC c) h2 hz
       repeat' first | exact trivial | refine⟨rfl, ?_⟩ | fail
   have k1:ak a[i].aj 1 6=true:=by simpa using k1
   have hq:=bD k1;have hz:((cC c a[i]:Nat):Int)=a[i].aj:=by simp[cC,lN,k0,k1]; omega
   refine⟨a[i],by simp,get_cast a h2, ?_⟩;cbv;refine Ar.exact ?_ ?_ ?_
   · show -9223372036854775808≤((aV (cC c) (a.take i):Nat):Int)+a[i].aj;omega
   · show((aV (cC c) (a.take i):Nat):Int)+a[i].aj≤9223372036854775807;omega
   cbv;refine Ar.exact ?_ ?_ ?_
   · show -9223372036854775808≤(i:Int)+1;omega
   · show(i:Int)+1≤9223372036854775807;omega
   cbv;refine aL.by (i+1) ?_ ?_ ?_
   · show a.length - (i+1)<a.length - i;omega
   · exact h2
   · cbv
     repeat' first | exact trivial | refine⟨rfl, ?_⟩ | fail
     refine⟨?_, ?_⟩
     · exact vI (cC c) h2 hz
     repeat' first | exact trivial | refine⟨rfl, ?_⟩ | fail
theorem D_ (a:List ax) (c:Int) (hn:a.length≤aN):Spec Tryz.prog 56 [lA .aE a,iA c] (aG (nR fun _=>aV (bK c) a)):=by
 refine aF au Tryz.func56 rfl rfl (fr:=true) (fun _=>by kernel_rfl) fun P hP hA=> ?_;have kE:a.length≤1048576:=hn;cbv;refine aR.by (X:=Nat) (fun i=>[(1,iA c),(5,nT fun _=>aV (bK c) (a.take i)),(8,lA .aE a),(9,nT fun _=>a.length),(10,nT fun _=>i)]) (fun _=>[]) (fun i=>i≤a.length) (fun i _=>a.length - i) 0 (Nat.zero_le _) ?_ ?_
 · cbv
   repeat' first | exact trivial | refine⟨rfl, ?_⟩ | fail
 · intro i hi;have hle:=JB c a hn i;cbv;refine Br.dec (fun h2=> ?_) (fun h2=> ?_) <;> cbv
   rotate_left
   · have h2:a.length≤i:=by simp at h2; omega
     refine⟨?_,trivial⟩;show((aV (bK c) (a.take i):Nat):Int)=((aV (bK c) a:Nat):Int);rw[List.take_of_length_le h2]
   have h2:i<a.length:=by simpa using h2
   refine⟨a[i],by simp,get_cast a h2, ?_⟩;cbv;refine Br.split (fun k0=> ?_) (fun k0=> ?_) <;> cbv
   rotate_left
   · have k0:(a[i].ag == c)=false:=by simpa using k0
     have hz:bK c a[i]=0:=by simp[bK,k0]
     refine Ar.exact ?_ ?_ ?_
     · show -9223372036854775808≤(i:Int)+1;omega
     · show(i:Int)+1≤9223372036854775807;omega
     cbv;refine aL.by (i+1) ?_ ?_ ?_
     · show a.length - (i+1)<a.length - i;omega
     · exact h2
     · cbv
       repeat' first | exact trivial | refine⟨rfl, ?_⟩ | fail
       refine⟨?_, ?_⟩
       · exact m8 (bK c) h2 hz
       repeat' first | exact trivial | refine⟨rfl, ?_⟩ | fail
   have k0:(a[i].ag == c)=true:=by simpa using k0
   have hz:((bK c a[i]:Nat):Int)=1:=by simp[bK,k0]
   refine Ar.exact ?_ ?_ ?_
   · show -9223372036854775808≤((aV (bK c) (a.take i):Nat):Int)+1;omega
   · show((aV (bK c) (a.take i):Nat):Int)+1≤9223372036854775807;omega
   cbv;refine Ar.exact ?_ ?_ ?_
   · show -9223372036854775808≤(i:Int)+1;omega
   · show(i:Int)+1≤9223372036854775807;omega
   cbv;refine aL.by (i+1) ?_ ?_ ?_
   · show a.length - (i+1)<a.length - i;omega
   · exact h2
   · cbv
     repeat' first | exact trivial | refine⟨rfl, ?_⟩ | fail
     refine⟨?_, ?_⟩
     · exact vI (bK c) h2 hz
     repeat' first | exact trivial | refine⟨rfl, ?_⟩ | fail
theorem Qz (a:List ax) (c:Int) (hn:a.length≤aN):Spec Tryz.prog 128 [lA .aE a,iA c] (aG (nR fun _=>aV (cz c) a)):=by
 refine aF au Tryz.func128 rfl rfl (fr:=true) (fun _=>by kernel_rfl) fun P hP hA=> ?_;have kE:a.length≤1048576:=hn;cbv;refine aR.by (X:=Nat) (fun i=>[(1,iA c),(5,nT fun _=>aV (cz c) (a.take i)),(8,lA .aE a),(9,nT fun _=>a.length),(10,nT fun _=>i)]) (fun _=>[]) (fun i=>i≤a.length) (fun i _=>a.length - i) 0 (Nat.zero_le _) ?_ ?_
 · cbv
   repeat' first | exact trivial | refine⟨rfl, ?_⟩ | fail
 · intro i hi;have hle:=D8 c a hn i;cbv;refine Br.dec (fun h2=> ?_) (fun h2=> ?_) <;> cbv
   rotate_left
   · have h2:a.length≤i:=by simp at h2; omega
     refine⟨?_,trivial⟩;show((aV (cz c) (a.take i):Nat):Int)=((aV (cz c) a:Nat):Int);rw[List.take_of_length_le h2]
   have h2:i<a.length:=by simpa using h2
   refine⟨a[i],by simp,get_cast a h2, ?_⟩;cbv;refine Br.split (fun k0=> ?_) (fun k0=> ?_) <;> cbv
   rotate_left
   · have k0:(a[i].st == 2)=false:=by simpa using k0
     have hz:cz c a[i]=0:=by simp[cz,m9,k0]
     refine Ar.exact ?_ ?_ ?_
     · show -9223372036854775808≤(i:Int)+1;omega
     · show(i:Int)+1≤9223372036854775807;omega
     cbv;refine aL.by (i+1) ?_ ?_ ?_
     · show a.length - (i+1)<a.length - i;omega
     · exact h2
     · cbv
       repeat' first | exact trivial | refine⟨rfl, ?_⟩ | fail
       refine⟨?_, ?_⟩
       · exact m8 (cz c) h2 hz
       repeat' first | exact trivial | refine⟨rfl, ?_⟩ | fail
   have k0:(a[i].st == 2)=true:=by simpa using k0
   refine Br.split (fun k1=> ?_) (fun k1=> ?_) <;> cbv
   rotate_left
   · have k1:(a[i].ag == c)=false:=by simpa using k1
     have hz:cz c a[i]=0:=by simp[cz,m9,k0,k1]
     refine Ar.exact ?_ ?_ ?_
     · show -9223372036854775808≤(i:Int)+1;omega
     · show(i:Int)+1≤9223372036854775807;omega
     cbv;refine aL.by (i+1) ?_ ?_ ?_
     · show a.length - (i+1)<a.length - i;omega
     · exact h2
     · cbv
       repeat' first | exact trivial | refine⟨rfl, ?_⟩ | fail
       refine⟨?_, ?_⟩
       · exact m8 (cz c) h2 hz
       repeat' first | exact trivial | refine⟨rfl, ?_⟩ | fail
   have k1:(a[i].ag == c)=true:=by simpa using k1
   refine af.by hP (di a[i].aj 1 6) ?_;cbv;refine Br.split (fun k2=> ?_) (fun k2=> ?_) <;> cbv
   rotate_left
   · have k2:ak a[i].aj 1 6=false:=by simpa using k2
     have hz:cz c a[i]=0:=by simp[cz,m9,k0,k1,k2]
     refine Ar.exact ?_ ?_ ?_
     · show -9223372036854775808≤(i:Int)+1;omega
     · show(i:Int)+1≤9223372036854775807;omega
     cbv;refine aL.by (i+1) ?_ ?_ ?_
     · show a.length - (i+1)<a.length - i;omega
     · exact h2
     · cbv
       repeat' first | exact trivial | refine⟨rfl, ?_⟩ | fail
       refine⟨?_, ?_⟩
       · exact m8 (cz c) h2 hz
       repeat' first | exact trivial | refine⟨rfl, ?_⟩ | fail
   have k2:ak a[i].aj 1 6=true:=by simpa using k2
   have hq:=bD k2;have hz:((cz c a[i]:Nat):Int)=a[i].aj:=by simp[cz,m9,k0,k1,k2]; omega
   refine Ar.exact ?_ ?_ ?_
   · show -9223372036854775808≤((aV (cz c) (a.take i):Nat):Int)+a[i].aj;omega
   · show((aV (cz c) (a.take i):Nat):Int)+a[i].aj≤9223372036854775807;omega
   cbv;refine Ar.exact ?_ ?_ ?_
   · show -9223372036854775808≤(i:Int)+1;omega
   · show(i:Int)+1≤9223372036854775807;omega
   cbv;refine aL.by (i+1) ?_ ?_ ?_
   · show a.length - (i+1)<a.length - i;omega
   · exact h2
   · cbv
     repeat' first | exact trivial | refine⟨rfl, ?_⟩ | fail
     refine⟨?_, ?_⟩
     · exact vI (cz c) h2 hz
     repeat' first | exact trivial | refine⟨rfl, ?_⟩ | fail
theorem QA (a:List ax) (c:Int) (hn:a.length≤aN):Spec Tryz.prog 129 [lA .aE a,iA c] (aG (nR fun _=>aV (cC c) a)):=by
 refine aF au Tryz.func129 rfl rfl (fr:=true) (fun _=>by kernel_rfl) fun P hP hA=> ?_;have kE:a.length≤1048576:=hn;cbv;refine aR.by (X:=Nat) (fun i=>[(1,iA c),(5,nT fun _=>aV (cC c) (a.take i)),(8,lA .aE a),(9,nT fun _=>a.length),(10,nT fun _=>i)]) (fun _=>[]) (fun i=>i≤a.length) (fun i _=>a.length - i) 0 (Nat.zero_le _) ?_ ?_
 · cbv
   repeat' first | exact trivial | refine⟨rfl, ?_⟩ | fail
 · intro i hi;have hle:=D9 c a hn i;cbv;refine Br.dec (fun h2=> ?_) (fun h2=> ?_) <;> cbv
   rotate_left
   · have h2:a.length≤i:=by simp at h2; omega
     refine⟨?_,trivial⟩;show((aV (cC c) (a.take i):Nat):Int)=((aV (cC c) a:Nat):Int);rw[List.take_of_length_le h2]
   have h2:i<a.length:=by simpa using h2
   refine⟨a[i],by simp,get_cast a h2, ?_⟩;cbv;refine Br.split (fun k0=> ?_) (fun k0=> ?_) <;> cbv
   rotate_left
   · have k0:(a[i].al == c)=false:=by simpa using k0
     have hz:cC c a[i]=0:=by simp[cC,lN,k0]
     refine Ar.exact ?_ ?_ ?_
     · show -9223372036854775808≤(i:Int)+1;omega
     · show(i:Int)+1≤9223372036854775807;omega
     cbv;refine aL.by (i+1) ?_ ?_ ?_
     · show a.length - (i+1)<a.length - i;omega
     · exact h2
     · cbv
       repeat' first | exact trivial | refine⟨rfl, ?_⟩ | fail
       refine⟨?_, ?_⟩
       · exact m8 (cC c) h2 hz
       repeat' first | exact trivial | refine⟨rfl, ?_⟩ | fail
   have k0:(a[i].al == c)=true:=by simpa using k0
   refine af.by hP (di a[i].aj 1 6) ?_;cbv;refine Br.split (fun k1=> ?_) (fun k1=> ?_) <;> cbv
   rotate_left
   · have k1:ak a[i].aj 1 6=false:=by simpa using k1
     have hz:cC c a[i]=0:=by simp[cC,lN,k0,k1]
     refine Ar.exact ?_ ?_ ?_
     · show -9223372036854775808≤(i:Int)+1;omega
     · show(i:Int)+1≤9223372036854775807;omega
     cbv;refine aL.by (i+1) ?_ ?_ ?_
     · show a.length - (i+1)<a.length - i;omega
     · exact h2
     · cbv
       repeat' first | exact trivial | refine⟨rfl, ?_⟩ | fail
       refine⟨?_, ?_⟩
       · exact m8 (cC c) h2 hz
       repeat' first | exact trivial | refine⟨rfl, ?_⟩ | fail
   have k1:ak a[i].aj 1 6=true:=by simpa using k1
   have hq:=bD k1;have hz:((cC c a[i]:Nat):Int)=a[i].aj:=by simp[cC,lN,k0,k1]; omega
   refine Ar.exact ?_ ?_ ?_
   · show -9223372036854775808≤((aV (cC c) (a.take i):Nat):Int)+a[i].aj;omega
   · show((aV (cC c) (a.take i):Nat):Int)+a[i].aj≤9223372036854775807;omega
   cbv;refine Ar.exact ?_ ?_ ?_
   · show -9223372036854775808≤(i:Int)+1;omega
   · show(i:Int)+1≤9223372036854775807;omega
   cbv;refine aL.by (i+1) ?_ ?_ ?_
   · show a.length - (i+1)<a.length - i;omega
   · exact h2
   · cbv
     repeat' first | exact trivial | refine⟨rfl, ?_⟩ | fail
     refine⟨?_, ?_⟩
     · exact vI (cC c) h2 hz
     repeat' first | exact trivial | refine⟨rfl, ?_⟩ | fail
theorem JE (a b:Int):Spec Tryz.prog 101 [iA a,iA b] (aG (iR fun _=>if a>b then a else b)):=by
 refine aF au Tryz.func101 rfl rfl (fr:=true) (fun _=>by kernel_rfl) fun P hP hA=> ?_;cbv;refine Br.dec (fun h=> ?_) (fun h=> ?_) <;> cbv
 · refine⟨?_,trivial⟩;rw[if_pos h]
 · refine⟨?_,trivial⟩;rw[if_neg h]
def lvl (R:bn) (aO waited:Int):Int:=if 0>aO - waited.tdiv R.period then 0 else aO - waited.tdiv R.period
theorem Ea {a b:Int} (h0:0≤a) (h1:a≤1000000) (h2:1≤b):0≤a.tdiv b∧a.tdiv b≤1000000:=
 ⟨Int.tdiv_nonneg h0 (by omega),Int.le_trans (Int.tdiv_le_self b h0) h1⟩
theorem QB (R:bn) (aO waited:Int) (h0:0≤waited) (h1:waited≤1000000) (h2:0≤aO) (h3:aO≤10) (h4:1≤R.period):Spec Tryz.prog 269 [fG R,iA aO,iA waited] (aG (iR fun _=>lvl R aO waited)):=by
 refine aF au Tryz.func269 rfl rfl (fr:=true) (fun _=>by kernel_rfl) fun P hP hA=> ?_;obtain⟨q0,q1⟩:=Ea h0 h1 h4;cbv;refine⟨by show R.period≠0; omega, ?_⟩;cbv;refine Ar.exact (t:=fun _=>waited.tdiv R.period) ?_ ?_ ?_
 · show -9223372036854775808≤waited.tdiv R.period;omega
 · show waited.tdiv R.period≤9223372036854775807;omega
 cbv;refine Ar.exact (t:=fun _=>aO - waited.tdiv R.period) ?_ ?_ ?_
 · show -9223372036854775808≤aO - waited.tdiv R.period;omega
 · show aO - waited.tdiv R.period≤9223372036854775807;omega
 refine af.lg hP (JE 0 (aO - waited.tdiv R.period)) rfl ?_;cbv
 repeat' first | exact trivial | refine⟨rfl, ?_⟩ | fail
theorem JF (a:Int):Spec Tryz.prog 272 [iA a] (aG (bR fun _=>false)):=by
 refine aF au Tryz.func272 rfl rfl (fr:=true) (fun _=>by kernel_rfl) fun P hP hA=> ?_;cbv;refine⟨?_,trivial⟩;simp
def lO (a b:Int):Int:=if a<b then -1 else if a>b then 1 else 0
theorem AD (a b:Int):Spec Tryz.prog 243 [iA a,iA b] (aG (iR fun _=>lO a b)):=by
 refine aF au Tryz.func243 rfl rfl (fr:=true) (fun _=>by kernel_rfl) fun P hP hA=> ?_;cbv;refine af.by hP (JF a) ?_;cbv;refine af.by hP (JF b) ?_;cbv
 repeat' first
  | (refine Br.split (fun h=> ?_) (fun h=> ?_) <;> cbv)
 all_goals refine⟨?_,trivial⟩
 all_goals (unfold lO; repeat' split)
 all_goals first
  | rfl
  | (exfalso; simp_all; done)
  | (exfalso; simp_all; omega)
theorem QC (R:bn) (aO waited:Int) (hs:R.seats.length≤aN) (hr:ca R=true) (h0:0≤waited) (h1:waited≤1000000) (ht:ak aO 0 (R.bX - 1)=true):Spec Tryz.prog 266 [fG R,iA aO,iA waited] (aG (iR fun _=>lvl R aO waited)):=by
 refine aF au Tryz.func266 rfl rfl (fr:=true) (fun _=>by kernel_rfl) fun P hP hA=> ?_;have hg:=eB hr;obtain⟨p1,p2⟩:=hg.period;obtain⟨t1,t2⟩:=hg.bX;obtain⟨u1,u2⟩:=bD ht;obtain⟨q0,q1⟩:=Ea h0 h1 p1;cbv;refine af.by hP (Ax R hs (ca R) rfl) ?_;cbv;refine Br.split (fun k0=> ?_) (fun k0=> ?_) <;> cbv
 · rw[hr] at k0; cases k0
 refine af.by hP (pq aO R.bX (by omega) (by omega)) ?_;cbv;refine Br.split (fun k1=> ?_) (fun k1=> ?_) <;> cbv
 · rw[ht] at k1; cases k1
 refine Br.dec (fun k2=> ?_) (fun k2=> ?_) <;> cbv
 · exfalso;have k2:waited<0:=k2;omega
 refine⟨by show R.period≠0; omega, ?_⟩;cbv;refine Ar.exact (t:=fun _=>waited.tdiv R.period) ?_ ?_ ?_
 · show -9223372036854775808≤waited.tdiv R.period;omega
 · show waited.tdiv R.period≤9223372036854775807;omega
 cbv;refine Ar.exact (t:=fun _=>aO - waited.tdiv R.period) ?_ ?_ ?_
 · show -9223372036854775808≤aO - waited.tdiv R.period;omega
 · show aO - waited.tdiv R.period≤9223372036854775807;omega
 cbv;refine⟨?_,trivial⟩;show(if aO - waited.tdiv R.period>0 then aO - waited.tdiv R.period else 0)=lvl R aO waited;unfold lvl
 split <;> split <;> omega
structure QD (R:bn) (p:ax) (now:Int):Prop where
 rules:ca R=true
 tV:0≤now∧now≤1000000
 aj:1≤p.aj∧p.aj≤R.size
 aO:ak p.aO 0 (R.bX - 1)=true
 since:0≤p.since∧p.since≤now
theorem m_ {R:bn} {p:ax} {now:Int} (h:bF R p now=true):QD R p now:=by
 simp only[bF,Bool.and_eq_true] at h;obtain⟨h1,h2,_,_,_,_,h3,h4,h5,_⟩:=h;exact⟨h1,bD h2,bD h3,h4,bD h5⟩
def lP (R:bn) (p:ax) (now:Int):Int:=if bF R p now=true then lvl R p.aO (now - p.since) else -1
theorem QE (R:bn) (p:ax) (now:Int) (hs:R.seats.length≤aN) (x:Int) (hx:x=lP R p now):Spec Tryz.prog 241 [fG R,eA .aE p,iA now] (aG (iR fun _=>x)):=by
 refine aF au Tryz.func241 rfl rfl (fr:=true) (fun _=>by kernel_rfl) fun P hP hA=> ?_;cbv;refine af.by hP (D6 R p now hs (bF R p now) rfl) ?_;cbv;refine Br.split (fun k0=> ?_) (fun k0=> ?_) <;> cbv
 · have k0:bF R p now=false:=by simpa using k0
   obtain rfl:x = -1:=hx.trans (if_neg (by rw[k0]; simp))
   repeat' first | exact trivial | refine⟨rfl, ?_⟩ | fail
 have k0:bF R p now=true:=by simpa using k0
 obtain rfl:x=lvl R p.aO (now - p.since):=hx.trans (if_pos k0);have hp:=m_ k0;have hr:=eB hp.rules;obtain⟨a1,a2⟩:=hp.tV;obtain⟨b1,b2⟩:=hp.since;obtain⟨c1,c2⟩:=hr.bX;obtain⟨d1,d2⟩:=hr.period;obtain⟨e1,e2⟩:=bD hp.aO;refine Ar.exact (t:=fun _=>now - p.since) ?_ ?_ ?_
 · show -9223372036854775808≤now - p.since;omega
 · show now - p.since≤9223372036854775807;omega
 cbv;refine af.by hP (QB R p.aO (now - p.since) (by omega) (by omega) (by omega) (by omega) (by omega)) ?_;cbv
 repeat' first | exact trivial | refine⟨rfl, ?_⟩ | fail
theorem QF (R:bn) (p:ax) (now:Int) (hs:R.seats.length≤aN) (x:Int) (hx:x=lP R p now):Spec Tryz.prog 228 [fG R,eA .aE p,iA now] (aG (iR fun _=>x)):=by
 refine aF au Tryz.func228 rfl rfl (fr:=true) (fun _=>by kernel_rfl) fun P hP hA=> ?_;cbv;refine af.by hP (Az R p now hs (bF R p now) rfl) ?_;cbv;refine Br.split (fun k0=> ?_) (fun k0=> ?_) <;> cbv
 · have k0:bF R p now=false:=by simpa using k0
   obtain rfl:x = -1:=hx.trans (if_neg (by rw[k0]; simp))
   repeat' first | exact trivial | refine⟨rfl, ?_⟩ | fail
 have k0:bF R p now=true:=by simpa using k0
 obtain rfl:x=lvl R p.aO (now - p.since):=hx.trans (if_pos k0);have hp:=m_ k0;have hr:=eB hp.rules;obtain⟨a1,a2⟩:=hp.tV;obtain⟨b1,b2⟩:=hp.since;obtain⟨c1,c2⟩:=hr.bX;obtain⟨d1,d2⟩:=hr.period;obtain⟨e1,e2⟩:=bD hp.aO;refine Ar.exact (t:=fun _=>now - p.since) ?_ ?_ ?_
 · show -9223372036854775808≤now - p.since;omega
 · show now - p.since≤9223372036854775807;omega
 cbv;refine af.by hP (QC R p.aO (now - p.since) hs hp.rules (by omega) (by omega) hp.aO) ?_;cbv
 repeat' first | exact trivial | refine⟨rfl, ?_⟩ | fail
theorem JG (R:bn) (t w:Int):0≤lvl R t w:=by
 unfold lvl; split <;> omega
theorem QG {R:bn} {p:ax} {now:Int} (h:bF R p now=true):0≤lP R p now:=by
 rw[lP,if_pos h]; exact JG _ _ _
theorem QH {R:bn} {p:ax} {now:Int} (h:bF R p now=false):lP R p now = -1:=by
 rw[lP,if_neg (by rw[h]; simp)]
def fq (R:bn) (p:ax) (now:Int):Bool:=bF R p now && p.st == 1
def gM (R:bn) (p:ax) (now:Int):Entry:=⟨lP R p now,p.aA,p.id,p.aj⟩
def cD (R:bn) (p:ax) (now:Int):Entry:=if fq R p now=true then gM R p now else default
def JH (x:Unit→Entry):List Sh:=[.int .i64 fun _=>(x ()).lvl, .int .i64 fun _=>(x ()).aA, .int .i64 fun _=>(x ()).aZ, .int .i64 fun _=>(x ()).aj]
theorem JI (R:bn) (p:ax) (now:Int) (hs:R.seats.length≤aN) (x:Entry) (hx:x=cD R p now) (b:Bool) (hb:b=fq R p now):Spec Tryz.prog 178 [fG R,eA .aE p,iA now] (aG (.aS [(true,JH fun _=>x),(false,[.bool fun _=>b])])):=by
 refine aF au Tryz.func178 rfl rfl (fr:=true) (fun _=>by kernel_rfl) fun P hP hA=> ?_;cbv;refine af.by hP (QE R p now hs (lP R p now) rfl) ?_;cbv;refine Br.dec (fun k0=> ?_) (fun k0=> ?_) <;> cbv
 · have k0:lP R p now<0:=k0
   have e:fq R p now=false:=by
     rcases hq:bF R p now with _ | _
     · simp[fq,hq]
     · have:=QG hq;omega
   obtain rfl:b=false:=hb.trans e;obtain rfl:x=default:=hx.trans (if_neg (by rw[e]; simp))
   repeat' first | exact trivial | refine⟨rfl, ?_⟩ | fail
 have k0:¬lP R p now<0:=k0
 have hq:bF R p now=true:=by
   rcases hq:bF R p now with _ | _
   · have:=QH hq;omega
   · rfl
 refine Br.split (fun k1=> ?_) (fun k1=> ?_) <;> cbv
 · have e:fq R p now=false:=by simp_all [fq]
   obtain rfl:b=false:=hb.trans e;obtain rfl:x=default:=hx.trans (if_neg (by rw[e]; simp))
   repeat' first | exact trivial | refine⟨rfl, ?_⟩ | fail
 have e:fq R p now=true:=by simp_all [fq]
 obtain rfl:b=true:=hb.trans e;obtain rfl:x=gM R p now:=hx.trans (if_pos e)
 repeat' first | exact trivial | refine⟨rfl, ?_⟩ | fail
theorem Eb (R:bn) (p:ax) (now:Int) (hs:R.seats.length≤aN) (x:Entry) (hx:x=cD R p now) (b:Bool) (hb:b=fq R p now):Spec Tryz.prog 160 [fG R,eA .aE p,iA now] (aG (.aS [(true,JH fun _=>x),(false,[.bool fun _=>b])])):=by
 refine aF au Tryz.func160 rfl rfl (fr:=true) (fun _=>by kernel_rfl) fun P hP hA=> ?_;cbv;refine af.by hP (Az R p now hs (bF R p now) rfl) ?_;cbv;refine Br.split (fun k0=> ?_) (fun k0=> ?_) <;> cbv
 · have e:fq R p now=false:=by simp_all [fq]
   obtain rfl:b=false:=hb.trans e;obtain rfl:x=default:=hx.trans (if_neg (by rw[e]; simp))
   repeat' first | exact trivial | refine⟨rfl, ?_⟩ | fail
 refine Br.split (fun k1=> ?_) (fun k1=> ?_) <;> cbv
 · have e:fq R p now=false:=by simp_all [fq]
   obtain rfl:b=false:=hb.trans e;obtain rfl:x=default:=hx.trans (if_neg (by rw[e]; simp))
   repeat' first | exact trivial | refine⟨rfl, ?_⟩ | fail
 have e:fq R p now=true:=by simp_all [fq]
 obtain rfl:b=true:=hb.trans e;obtain rfl:x=gM R p now:=hx.trans (if_pos e);refine af.by hP (QF R p now hs (lP R p now) rfl) ?_;cbv
 repeat' first | exact trivial | refine⟨rfl, ?_⟩ | fail
theorem JJ (a b:Entry):Spec Tryz.prog 239 [eA .aJ a,eA .aJ b] (aG (bR fun _=>bd a b)):=by
 refine aF au Tryz.func239 rfl rfl (fr:=true) (fun _=>by kernel_rfl) fun P hP hA=> ?_;cbv
 repeat' first
  | (refine Br.split (fun h=> ?_) (fun h=> ?_) <;> cbv)
  | fail
 all_goals refine⟨?_,trivial⟩
 all_goals simp_all [bd]
theorem JK (a b:Entry):Spec Tryz.prog 185 [eA .aJ a,eA .aJ b] (aG (iR fun _=>if bd a b=true then -1 else if bd b a=true then 1 else 0)):=by
 refine aF au Tryz.func185 rfl rfl (fr:=true) (fun _=>by kernel_rfl) fun P hP hA=> ?_;cbv;refine af.by hP (AD a.lvl b.lvl) ?_;cbv;refine Br.split (fun h=> ?_) (fun h=> ?_) <;> cbv
 · refine⟨?_,trivial⟩;have h:(lO a.lvl b.lvl != 0)=true:=h;show lO a.lvl b.lvl=_;unfold lO bd at *
   repeat' split at *
   all_goals simp_all <;> omega
 · refine af.by hP (AD a.aA b.aA) ?_;cbv;refine⟨?_,trivial⟩;have h:(lO a.lvl b.lvl != 0)=false:=h;show lO a.aA b.aA=_;unfold lO bd at *
   repeat' split at *
   all_goals simp_all <;> omega
theorem JL (a b:Entry):Spec Tryz.prog 229 [eA .aJ a,eA .aJ b] (aG (bR fun _=>bd a b)):=by
 refine aF au Tryz.func229 rfl rfl (fr:=true) (fun _=>by kernel_rfl) fun P hP hA=> ?_;cbv;refine af.by hP (JK a b) ?_;cbv;refine⟨?_,trivial⟩;show decide ((if bd a b=true then(-1:Int) else if bd b a=true then 1 else 0)<0)=bd a b;cases h1:bd a b <;> cases h2:bd b a <;> simp
theorem JM (a b:aC):Spec Tryz.prog 240 [eA .aI a,eA .aI b] (aG (bR fun _=>bu a b)):=by
 refine aF au Tryz.func240 rfl rfl (fr:=true) (fun _=>by kernel_rfl) fun P hP hA=> ?_;cbv
 repeat' first
  | (refine Br.split (fun h=> ?_) (fun h=> ?_) <;> cbv)
  | fail
 all_goals refine⟨?_,trivial⟩
 all_goals simp_all [bu]
theorem Ec (a b:aC):Spec Tryz.prog 187 [eA .aI a,eA .aI b] (aG (iR fun _=>if bu a b=true then -1 else if bu b a=true then 1 else 0)):=by
 refine aF au Tryz.func187 rfl rfl (fr:=true) (fun _=>by kernel_rfl) fun P hP hA=> ?_;cbv;refine af.by hP (AD a.tm b.tm) ?_;cbv;refine Br.split (fun h=> ?_) (fun h=> ?_) <;> cbv
 · refine⟨?_,trivial⟩;have h:(lO a.tm b.tm != 0)=true:=h;show lO a.tm b.tm=_;unfold lO bu at *
   repeat' split at *
   all_goals simp_all <;> omega
 · refine af.by hP (AD a.pid b.pid) ?_;cbv;refine⟨?_,trivial⟩;have h:(lO a.tm b.tm != 0)=false:=h;show lO a.pid b.pid=_;unfold lO bu at *
   repeat' split at *
   all_goals simp_all <;> omega
def fc (p:aC):Bool:=ak p.tm 1 1000008 && ak p.pid 1 999
theorem Ed (p:aC):Spec Tryz.prog 199 [eA .aI p] (aG (bR fun _=>fc p)):=by
 refine aF au Tryz.func199 rfl rfl (fr:=true) (fun _=>by kernel_rfl) fun P hP hA=> ?_;cbv
 repeat' first
  | (refine af.by hP (di p.tm 1 1000008) ?_; cbv)
  | (refine af.by hP (di p.pid 1 999) ?_; cbv)
  | (refine Br.split (fun h=> ?_) (fun h=> ?_) <;> cbv)
  | fail
 all_goals refine⟨?_,trivial⟩
 all_goals simp_all [fc]
end Go.Proofs.YtpklefhdkkegiaaGreat

