/- Parts of a proof. No conditions. -/

import Derived.Test.YtpklefhdkkegiaaGreatG06
import Derived.Test.YtpklefhdkkegiaaGreatG05
import Derived.Test.YtpklefhdkkegiaaGreatG07
import Derived.Test.YtpklefhdkkegiaaGreatG01
set_option linter.unusedSimpArgs false
set_option linter.unusedVariables false
namespace Go.Proofs.YtpklefhdkkegiaaGreat
open Go
set_option maxRecDepth 100000
def aZ (x:bA):Bool:=aj x.total 1 60 && (aj x.free 0 x.total && (aj x.held 0 x.total && (aj x.bg 0 x.total && (decide (x.free+x.held+x.bg=x.total) && aj x.tied 0 x.bg))))
theorem FN (x:bA) (b:Bool) (hb:b=aZ x):Spec Tryz.prog 175 [jN x] (aM (bR fun _=>b)):=by
 refine aN aD Tryz.func175 rfl rfl (fr:=true) (fun _=>by kernel_rfl) fun P hP hA=> ?_;cbv;refine ag.by hP (cT x.total 1 60) ?_;cbv
 repeat (refine Pz.mk ?_; cbv)
 refine Br.split (fun h0=> ?_) (fun h0=> ?_) <;> (cbv; repeat (refine Pz.mk ?_; cbv))
 rotate_left
 · refine⟨?_,trivial⟩;have h0:aj x.total 1 60=false:=h0;simp[hb,aZ,h0]
 have h0:aj x.total 1 60=true:=h0;have e0:=bF h0;refine ag.by hP (cT x.free 0 x.total) ?_;cbv
 repeat (refine Pz.mk ?_; cbv)
 refine Br.split (fun h1=> ?_) (fun h1=> ?_) <;> (cbv; repeat (refine Pz.mk ?_; cbv))
 rotate_left
 · refine⟨?_,trivial⟩;have h1:aj x.free 0 x.total=false:=h1;simp[hb,aZ,h0,h1]
 have h1:aj x.free 0 x.total=true:=h1;have e1:=bF h1;refine ag.by hP (cT x.held 0 x.total) ?_;cbv
 repeat (refine Pz.mk ?_; cbv)
 refine Br.split (fun h2=> ?_) (fun h2=> ?_) <;> (cbv; repeat (refine Pz.mk ?_; cbv))
 rotate_left
 · refine⟨?_,trivial⟩;have h2:aj x.held 0 x.total=false:=h2;simp[hb,aZ,h0,h1,h2]
 have h2:aj x.held 0 x.total=true:=h2;have e2:=bF h2;refine ag.by hP (cT x.bg 0 x.total) ?_;cbv
 repeat (refine Pz.mk ?_; cbv)
 refine Br.split (fun h3=> ?_) (fun h3=> ?_) <;> (cbv; repeat (refine Pz.mk ?_; cbv))
 rotate_left
 · refine⟨?_,trivial⟩;have h3:aj x.bg 0 x.total=false:=h3;simp[hb,aZ,h0,h1,h2,h3]
 have h3:aj x.bg 0 x.total=true:=h3;have e3:=bF h3;refine Ar.exact ?_ ?_ ?_
 · show -9223372036854775808≤x.free+x.held;omega
 · show x.free+x.held≤9223372036854775807;omega
 cbv;refine Ar.exact ?_ ?_ ?_
 · show -9223372036854775808≤x.free+x.held+x.bg;omega
 · show x.free+x.held+x.bg≤9223372036854775807;omega
 cbv;refine Br.split (fun h4=> ?_) (fun h4=> ?_) <;> (cbv; repeat (refine Pz.mk ?_; cbv))
 rotate_left
 · refine⟨?_,trivial⟩;have h4:(x.free+x.held+x.bg == x.total)=false:=h4;have h4:¬(x.free+x.held+x.bg=x.total):=by simpa using h4
   simp[hb,aZ,h0,h1,h2,h3,h4]
 have h4:(x.free+x.held+x.bg == x.total)=true:=h4;have h4:x.free+x.held+x.bg=x.total:=by simpa using h4
 refine ag.by hP (cT x.tied 0 x.bg) ?_;cbv
 repeat (refine Pz.mk ?_; cbv)
 refine⟨?_,trivial⟩;simp[hb,aZ,h0,h1,h2,h3,h4]
theorem kz (x:bA) (b:Bool) (hb:b=aZ x):Spec Tryz.prog 174 [jN x] (aM (bR fun _=>b)):=by
 refine aN aD Tryz.func174 rfl rfl (fr:=true) (fun _=>by kernel_rfl) fun P hP hA=> ?_;cbv;refine ag.by hP (cI x.total 1 60) ?_;cbv
 repeat (refine Pz.mk ?_; cbv)
 refine Br.split (fun h0=> ?_) (fun h0=> ?_) <;> (cbv; repeat (refine Pz.mk ?_; cbv))
 rotate_left
 · refine⟨?_,trivial⟩;have h0:aj x.total 1 60=false:=h0;simp[hb,aZ,h0]
 have h0:aj x.total 1 60=true:=h0;have e0:=bF h0;refine ag.by hP (cI x.free 0 x.total) ?_;cbv
 repeat (refine Pz.mk ?_; cbv)
 refine Br.split (fun h1=> ?_) (fun h1=> ?_) <;> (cbv; repeat (refine Pz.mk ?_; cbv))
 rotate_left
 · refine⟨?_,trivial⟩;have h1:aj x.free 0 x.total=false:=h1;simp[hb,aZ,h0,h1]
 have h1:aj x.free 0 x.total=true:=h1;have e1:=bF h1;refine ag.by hP (cI x.held 0 x.total) ?_;cbv
 repeat (refine Pz.mk ?_; cbv)
 refine Br.split (fun h2=> ?_) (fun h2=> ?_) <;> (cbv; repeat (refine Pz.mk ?_; cbv))
 rotate_left
 · refine⟨?_,trivial⟩;have h2:aj x.held 0 x.total=false:=h2;simp[hb,aZ,h0,h1,h2]
 have h2:aj x.held 0 x.total=true:=h2;have e2:=bF h2;refine ag.by hP (cI x.bg 0 x.total) ?_;cbv
 repeat (refine Pz.mk ?_; cbv)
 refine Br.split (fun h3=> ?_) (fun h3=> ?_) <;> (cbv; repeat (refine Pz.mk ?_; cbv))
 rotate_left
 · refine⟨?_,trivial⟩;have h3:aj x.bg 0 x.total=false:=h3;simp[hb,aZ,h0,h1,h2,h3]
 have h3:aj x.bg 0 x.total=true:=h3;have e3:=bF h3;refine Ar.exact ?_ ?_ ?_
 · show -9223372036854775808≤x.free+x.held;omega
 · show x.free+x.held≤9223372036854775807;omega
 cbv;refine Ar.exact ?_ ?_ ?_
 · show -9223372036854775808≤x.free+x.held+x.bg;omega
 · show x.free+x.held+x.bg≤9223372036854775807;omega
 cbv;refine Br.split (fun h4=> ?_) (fun h4=> ?_) <;> (cbv; repeat (refine Pz.mk ?_; cbv))
 rotate_left
 · refine⟨?_,trivial⟩;have h4:(x.free+x.held+x.bg == x.total)=false:=h4;have h4:¬(x.free+x.held+x.bg=x.total):=by simpa using h4
   simp[hb,aZ,h0,h1,h2,h3,h4]
 have h4:(x.free+x.held+x.bg == x.total)=true:=h4;have h4:x.free+x.held+x.bg=x.total:=by simpa using h4
 refine ag.by hP (cI x.tied 0 x.bg) ?_;cbv
 repeat (refine Pz.mk ?_; cbv)
 refine⟨?_,trivial⟩;simp[hb,aZ,h0,h1,h2,h3,h4]
def kA (x:Unit→bA):List Sh:=[.int .i64 fun _=>(x ()).total, .int .i64 fun _=>(x ()).free, .int .i64 fun _=>(x ()).held, .int .i64 fun _=>(x ()).bg, .int .i64 fun _=>(x ()).tied]
def xB (x:Unit→bh):List Sh:=[.int .i64 fun _=>(x ()).ai.total, .int .i64 fun _=>(x ()).ai.free, .int .i64 fun _=>(x ()).ai.held, .int .i64 fun _=>(x ()).ai.bg, .int .i64 fun _=>(x ()).ai.tied, .own .aH fun _=>(x ()).row, .own .cw fun _=>(x ()).spoke]
def rk (n:Int):bA:=⟨n,0,0,n,0⟩
def AZ (n:Int):bA:=if aj n 1 60=true then rk n else default
def FO (n:Int):bh:=⟨rk n,[],List.replicate 9 []⟩
def m5 (n:Int):bh:=if aj n 1 60=true then FO n else default
theorem Mo (n:Int):aZ (rk n)=aj n 1 60:=by
 unfold aZ rk aj;rw[Bool.eq_iff_iff];simp only[Bool.and_eq_true,decide_eq_true_eq];omega
theorem Mp (n:Int) (x:bA) (hx:x=AZ n) (b:Bool) (hb:b=aj n 1 60):Spec Tryz.prog 257 [iA n] (aM (.ba [(true,kA fun _=>x),(false,[.bool fun _=>b])])):=by
 refine aN aD Tryz.func257 rfl rfl (fr:=true) (fun _=>by kernel_rfl) fun P hP hA=> ?_;cbv;refine ag.by hP (FN (rk n) (aj n 1 60) (Mo n).symm) ?_;cbv;refine Br.split (fun h=> ?_) (fun h=> ?_) <;> cbv
 · have h:aj n 1 60=false:=by simpa using h
   obtain rfl:x=default:=hx.trans (if_neg (by rw[h]; simp));obtain rfl:b=false:=hb.trans h;exact⟨rfl,rfl,rfl,rfl,rfl,rfl,trivial⟩
 · have h:aj n 1 60=true:=by simpa using h
   obtain rfl:x=rk n:=hx.trans (if_pos h);obtain rfl:b=true:=hb.trans h;exact⟨rfl,rfl,rfl,rfl,rfl,rfl,trivial⟩
theorem A0:Spec Tryz.prog 256 [] (aM (vg fun _=>List.replicate 9 [])):=by
 refine aN aD Tryz.func256 rfl rfl (fr:=true) (fun _=>by kernel_rfl) fun P hP hA=> ?_;cbv;refine aW.by (X:=Nat) (fun i=>[(0,pN 0),(1,pN 1),(2,nT fun _=>i)]) (fun i=>[(0, .box [.nil]),(1, .box [.own 2]),(2,aK .cw fun _=>List.replicate i [])]) (fun i=>i≤9) (fun i _=>9 - i) 0 (Nat.zero_le _) ?_ ?_
 · cbv
   repeat' first | exact trivial | refine⟨rfl, ?_⟩ | fail
 · intro i hi;cbv;refine Br.dec (fun h2=> ?_) (fun h2=> ?_) <;> cbv
   · have h2:(i:Int)<9:=h2;have h2:i<9:=by omega
     refine⟨?_, ?_⟩
     · show((List.replicate i ([]:List ay)).length+1)*24≤140737488355328;rw[List.length_replicate]; omega
     cbv;refine Ar.exact ?_ ?_ ?_
     · show -9223372036854775808≤(i:Int)+1;omega
     · show(i:Int)+1≤9223372036854775807;omega
     cbv;refine aO.by (i+1) ?_ ?_ ?_
     · show 9 - (i+1)<9 - i;omega
     · exact h2
     · cbv
       repeat' first | exact trivial | refine⟨rfl, ?_⟩ | fail
       refine⟨?_,trivial⟩;exact(List.replicate_succ' (n:=i) (a:=([]:List ay))).symm
   · have h2:¬(i:Int)<9:=h2;obtain rfl:i=9:=by omega
     repeat' first | exact trivial | refine⟨rfl, ?_⟩ | fail
theorem Mq (n:Int) (x:bh) (hx:x=m5 n) (b:Bool) (hb:b=aj n 1 60):Spec Tryz.prog 216 [iA n] (aM (.ba [(true,xB fun _=>x),(false,[.bool fun _=>b])])):=by
 refine aN aD Tryz.func216 rfl rfl (fr:=true) (fun _=>by kernel_rfl) fun P hP hA=> ?_;cbv;refine ag.by hP (Mp n (AZ n) rfl (aj n 1 60) rfl) ?_;cbv;refine Br.split (fun h=> ?_) (fun h=> ?_) <;> cbv
 · have h:aj n 1 60=false:=by simpa using h
   obtain rfl:x=default:=hx.trans (if_neg (by rw[h]; simp));obtain rfl:b=false:=hb.trans h;exact⟨rfl,rfl,rfl,rfl,rfl,rfl,rfl,rfl,trivial⟩
 · have h:aj n 1 60=true:=by simpa using h
   have e:AZ n=rk n:=if_pos h;obtain rfl:x=FO n:=hx.trans (if_pos h);obtain rfl:b=true:=hb.trans h;rw[e]
   repeat' first | exact trivial | (refine ag.by hP A0 ?_; cbv) | refine⟨rfl, ?_⟩ | refine And.intro ?_ ?_ | fail
def ca (x:br):Bool:=aj x.ai.length 1 4 && (x.ai.all (fun y=>aj y 1 60) && (aj x.cd 1 5 && (aj x.room 1 10 && (aj x.size 1 6 && (aj x.period 1 12 && (aj x.cC 1 8 && (aj x.tries 1 4 && (aj x.bO 1 3 && aj x.rest 0 8))))))))
theorem Mr {α:Type} {a:List α} {i:Nat} (h:i<a.length):a.take (i+1)=a.take i ++ [a[i]]:=by
 rw[List.take_add_one,List.getElem?_eq_getElem h]; rfl
theorem FP {p:Int→Bool} {a:List Int} {i:Nat} (h:i<a.length) (h1:∀y∈a.take i,p y=true) (h2:p a[i]=true):∀y∈a.take (i+1),p y=true:=by
 intro y hy;rw[Mr h,List.mem_append] at hy;rcases hy with hy | hy
 · exact h1 y hy
 · simp at hy; subst hy; exact h2
theorem FQ {p:Int→Bool} {a:List Int} {i:Nat} (h:i<a.length) (h2:p a[i]=false):a.all p=false:=by
 rw[List.all_eq_false];exact⟨a[i],List.getElem_mem _,by simp[h2]⟩
theorem FR {p:Int→Bool} {a:List Int} {i:Nat} (h:a.length≤i) (h1:∀y∈a.take i,p y=true):a.all p=true:=by
 rw[List.take_of_length_le h] at h1;exact List.all_eq_true.2 h1
theorem xC (x:br) (hs:x.ai.length≤aS) (b:Bool) (hb:b=ca x):Spec Tryz.prog 14 [fT x] (aM (bR fun _=>b)):=by
 refine aN aD Tryz.func14 rfl rfl (fr:=true) (fun _=>by kernel_rfl) fun P hP hA=> ?_;have hn:x.ai.length≤1048576:=hs;cbv;refine ag.by hP (cT x.ai.length 1 4) ?_;cbv;refine Br.split (fun h0=> ?_) (fun h0=> ?_) <;> cbv
 · refine⟨?_,trivial⟩;have h0:aj x.ai.length 1 4=false:=by simpa using h0
   simp[hb,ca,h0]
 have h0:aj x.ai.length 1 4=true:=by simpa using h0
 refine ag.by hP (cT x.cd 1 5) ?_;cbv;refine Br.split (fun h1=> ?_) (fun h1=> ?_) <;> cbv
 · refine⟨?_,trivial⟩;have h1:aj x.cd 1 5=false:=by simpa using h1
   simp[hb,ca,h0,h1]
 have h1:aj x.cd 1 5=true:=by simpa using h1
 refine ag.by hP (cT x.room 1 10) ?_;cbv;refine Br.split (fun h2=> ?_) (fun h2=> ?_) <;> cbv
 · refine⟨?_,trivial⟩;have h2:aj x.room 1 10=false:=by simpa using h2
   simp[hb,ca,h0,h1,h2]
 have h2:aj x.room 1 10=true:=by simpa using h2
 refine ag.by hP (cT x.size 1 6) ?_;cbv;refine Br.split (fun h3=> ?_) (fun h3=> ?_) <;> cbv
 · refine⟨?_,trivial⟩;have h3:aj x.size 1 6=false:=by simpa using h3
   simp[hb,ca,h0,h1,h2,h3]
 have h3:aj x.size 1 6=true:=by simpa using h3
 refine ag.by hP (cT x.period 1 12) ?_;cbv;refine Br.split (fun h4=> ?_) (fun h4=> ?_) <;> cbv
 · refine⟨?_,trivial⟩;have h4:aj x.period 1 12=false:=by simpa using h4
   simp[hb,ca,h0,h1,h2,h3,h4]
 have h4:aj x.period 1 12=true:=by simpa using h4
 have g0:=h0;have g1:=h1;have g2:=h2;have g3:=h3;have g4:=h4;refine aW.by (X:=Nat) (fun i=>[(1,pN 0),(3,nT fun _=>i)]) (fun _=>[(0, .box [.lf (.list .int fun _=>x.ai), .lf (.int .i64 fun _=>x.cd), .lf (.int .i64 fun _=>x.room), .lf (.int .i64 fun _=>x.size), .lf (.int .i64 fun _=>x.period), .lf (.int .i64 fun _=>x.cC), .lf (.int .i64 fun _=>x.rest), .lf (.int .i64 fun _=>x.tries), .lf (.int .i64 fun _=>x.bO)])]) (fun i=>i≤x.ai.length∧∀y∈x.ai.take i,aj y 1 60=true) (fun i _=>x.ai.length - i) 0 ⟨Nat.zero_le _,by simp⟩ ?_ ?_
 · cbv
   repeat' first | exact trivial | refine⟨rfl, ?_⟩ | fail
 · intro i ⟨hi,ht⟩;cbv;refine Br.dec (fun h2=> ?_) (fun h2=> ?_) <;> cbv
   · have h2:(i:Int)<(x.ai.length:Int):=h2;have h2:i<x.ai.length:=by omega
     refine⟨x.ai[i],by simp,get_cast x.ai h2, ?_⟩;cbv;refine ag.by hP (cT x.ai[i] 1 60) ?_;cbv;refine Br.split (fun h3=> ?_) (fun h3=> ?_) <;> cbv
     · refine⟨?_,trivial⟩;have h3:aj x.ai[i] 1 60=false:=by simpa using h3
       have h3:x.ai.all (fun y=>aj y 1 60)=false:=FQ (p:=fun y=>aj y 1 60) h2 h3;simp[hb,ca,g0,g1,g2,g3,g4,h3]
     have h3:aj x.ai[i] 1 60=true:=by simpa using h3
     refine Ar.exact ?_ ?_ ?_
     · show -9223372036854775808≤(i:Int)+1;omega
     · show(i:Int)+1≤9223372036854775807;omega
     cbv;refine aO.by (i+1) ?_ ?_ ?_
     · show x.ai.length - (i+1)<x.ai.length - i;omega
     · exact⟨h2,FP (p:=fun y=>aj y 1 60) h2 ht h3⟩
     · cbv
       repeat' first | exact trivial | refine⟨rfl, ?_⟩ | fail
   have h2:¬(i:Int)<(x.ai.length:Int):=h2;have h2:x.ai.length≤i:=by omega
   have fH:x.ai.all (fun y=>aj y 1 60)=true:=FR (p:=fun y=>aj y 1 60) h2 ht;refine ag.by hP (cT x.cC 1 8) ?_;cbv;refine Br.split (fun k0=> ?_) (fun k0=> ?_) <;> cbv
   rotate_left
   · refine⟨?_,trivial⟩;have k0:aj x.cC 1 8=false:=by simpa using k0
     simp[hb,ca,g0,g1,g2,g3,g4,fH,k0]
   have k0:aj x.cC 1 8=true:=by simpa using k0
   refine ag.by hP (cT x.rest 0 8) ?_;cbv;refine Br.split (fun k1=> ?_) (fun k1=> ?_) <;> cbv
   rotate_left
   · refine⟨?_,trivial⟩;have k1:aj x.rest 0 8=false:=by simpa using k1
     simp[hb,ca,g0,g1,g2,g3,g4,fH,k0,k1]
   have k1:aj x.rest 0 8=true:=by simpa using k1
   refine ag.by hP (cT x.tries 1 4) ?_;cbv;refine Br.split (fun k2=> ?_) (fun k2=> ?_) <;> cbv
   rotate_left
   · refine⟨?_,trivial⟩;have k2:aj x.tries 1 4=false:=by simpa using k2
     simp[hb,ca,g0,g1,g2,g3,g4,fH,k0,k1,k2]
   have k2:aj x.tries 1 4=true:=by simpa using k2
   refine ag.by hP (cT x.bO 1 3) ?_;cbv;refine⟨?_,trivial⟩;simp[hb,ca,g0,g1,g2,g3,g4,fH,k0,k1,k2]
theorem A1 (x:br) (hs:x.ai.length≤aS) (b:Bool) (hb:b=ca x):Spec Tryz.prog 46 [fT x] (aM (bR fun _=>b)):=by
 refine aN aD Tryz.func46 rfl rfl (fr:=true) (fun _=>by kernel_rfl) fun P hP hA=> ?_;have hn:x.ai.length≤1048576:=hs;cbv;refine ag.by hP (cI x.ai.length 1 4) ?_;cbv
 repeat (refine Pz.mk ?_; cbv)
 refine Br.split (fun h0=> ?_) (fun h0=> ?_) <;> (cbv; repeat (refine Pz.mk ?_; cbv))
 · refine⟨?_,trivial⟩;have h0:aj x.ai.length 1 4=false:=by simpa using h0
   simp[hb,ca,h0]
 have h0:aj x.ai.length 1 4=true:=by simpa using h0
 have g0:=h0;refine aW.by (X:=Nat) (fun i=>[(1,pN 0),(11,lT .int fun _=>x.ai),(12,nT fun _=>x.ai.length),(13,nT fun _=>i)]) (fun _=>[(0, .box [.lf (.list .int fun _=>x.ai), .lf (.int .i64 fun _=>x.cd), .lf (.int .i64 fun _=>x.room), .lf (.int .i64 fun _=>x.size), .lf (.int .i64 fun _=>x.period), .lf (.int .i64 fun _=>x.cC), .lf (.int .i64 fun _=>x.rest), .lf (.int .i64 fun _=>x.tries), .lf (.int .i64 fun _=>x.bO)])]) (fun i=>i≤x.ai.length∧∀y∈x.ai.take i,aj y 1 60=true) (fun i _=>x.ai.length - i) 0 ⟨Nat.zero_le _,by simp⟩ ?_ ?_
 · cbv
   repeat' first | exact trivial | refine⟨rfl, ?_⟩ | fail
 · intro i ⟨hi,ht⟩;cbv;refine Br.dec (fun h2=> ?_) (fun h2=> ?_) <;> (cbv; repeat (refine Pz.mk ?_; cbv))
   · have h2:(i:Int)<(x.ai.length:Int):=h2;have h2:i<x.ai.length:=by omega
     refine⟨x.ai[i],by simp,get_cast x.ai h2, ?_⟩;cbv;refine ag.by hP (cI x.ai[i] 1 60) ?_;cbv
     repeat (refine Pz.mk ?_; cbv)
     refine Br.split (fun h3=> ?_) (fun h3=> ?_) <;> (cbv; repeat (refine Pz.mk ?_; cbv))
     · refine⟨?_,trivial⟩;have h3:aj x.ai[i] 1 60=false:=by simpa using h3
       have h3:x.ai.all (fun y=>aj y 1 60)=false:=FQ (p:=fun y=>aj y 1 60) h2 h3;simp[hb,ca,g0,h3]
     have h3:aj x.ai[i] 1 60=true:=by simpa using h3
     refine Ar.exact ?_ ?_ ?_
     · show -9223372036854775808≤(i:Int)+1;omega
     · show(i:Int)+1≤9223372036854775807;omega
     cbv;refine aO.by (i+1) ?_ ?_ ?_
     · show x.ai.length - (i+1)<x.ai.length - i;omega
     · exact⟨h2,FP (p:=fun y=>aj y 1 60) h2 ht h3⟩
     · cbv
       repeat' first | exact trivial | refine⟨rfl, ?_⟩ | fail
   have h2:¬(i:Int)<(x.ai.length:Int):=h2;have h2:x.ai.length≤i:=by omega
   have fH:x.ai.all (fun y=>aj y 1 60)=true:=FR (p:=fun y=>aj y 1 60) h2 ht;refine ag.by hP (cI x.cd 1 5) ?_;cbv
   repeat (refine Pz.mk ?_; cbv)
   refine Br.split (fun k0=> ?_) (fun k0=> ?_) <;> (cbv; repeat (refine Pz.mk ?_; cbv))
   rotate_left
   · refine⟨?_,trivial⟩;have k0:aj x.cd 1 5=false:=by simpa using k0
     simp[hb,ca,g0,fH,k0]
   have k0:aj x.cd 1 5=true:=by simpa using k0
   refine ag.by hP (cI x.room 1 10) ?_;cbv
   repeat (refine Pz.mk ?_; cbv)
   refine Br.split (fun k1=> ?_) (fun k1=> ?_) <;> (cbv; repeat (refine Pz.mk ?_; cbv))
   rotate_left
   · refine⟨?_,trivial⟩;have k1:aj x.room 1 10=false:=by simpa using k1
     simp[hb,ca,g0,fH,k0,k1]
   have k1:aj x.room 1 10=true:=by simpa using k1
   refine ag.by hP (cI x.size 1 6) ?_;cbv
   repeat (refine Pz.mk ?_; cbv)
   refine Br.split (fun k2=> ?_) (fun k2=> ?_) <;> (cbv; repeat (refine Pz.mk ?_; cbv))
   rotate_left
   · refine⟨?_,trivial⟩;have k2:aj x.size 1 6=false:=by simpa using k2
     simp[hb,ca,g0,fH,k0,k1,k2]
   have k2:aj x.size 1 6=true:=by simpa using k2
   refine ag.by hP (cI x.period 1 12) ?_;cbv
   repeat (refine Pz.mk ?_; cbv)
   refine Br.split (fun k3=> ?_) (fun k3=> ?_) <;> (cbv; repeat (refine Pz.mk ?_; cbv))
   rotate_left
   · refine⟨?_,trivial⟩;have k3:aj x.period 1 12=false:=by simpa using k3
     simp[hb,ca,g0,fH,k0,k1,k2,k3]
   have k3:aj x.period 1 12=true:=by simpa using k3
   refine ag.by hP (cI x.cC 1 8) ?_;cbv
   repeat (refine Pz.mk ?_; cbv)
   refine Br.split (fun k4=> ?_) (fun k4=> ?_) <;> (cbv; repeat (refine Pz.mk ?_; cbv))
   rotate_left
   · refine⟨?_,trivial⟩;have k4:aj x.cC 1 8=false:=by simpa using k4
     simp[hb,ca,g0,fH,k0,k1,k2,k3,k4]
   have k4:aj x.cC 1 8=true:=by simpa using k4
   refine ag.by hP (cI x.tries 1 4) ?_;cbv
   repeat (refine Pz.mk ?_; cbv)
   refine Br.split (fun k5=> ?_) (fun k5=> ?_) <;> (cbv; repeat (refine Pz.mk ?_; cbv))
   rotate_left
   · refine⟨?_,trivial⟩;have k5:aj x.tries 1 4=false:=by simpa using k5
     simp[hb,ca,g0,fH,k0,k1,k2,k3,k4,k5]
   have k5:aj x.tries 1 4=true:=by simpa using k5
   refine ag.by hP (cI x.bO 1 3) ?_;cbv
   repeat (refine Pz.mk ?_; cbv)
   refine Br.split (fun k6=> ?_) (fun k6=> ?_) <;> (cbv; repeat (refine Pz.mk ?_; cbv))
   rotate_left
   · refine⟨?_,trivial⟩;have k6:aj x.bO 1 3=false:=by simpa using k6
     simp[hb,ca,g0,fH,k0,k1,k2,k3,k4,k5,k6]
   have k6:aj x.bO 1 3=true:=by simpa using k6
   refine ag.by hP (cI x.rest 0 8) ?_;cbv
   repeat (refine Pz.mk ?_; cbv)
   refine⟨?_,trivial⟩;simp[hb,ca,g0,fH,k0,k1,k2,k3,k4,k5,k6]
theorem xD (a:List Int) (hn:a.length≤aS):Spec Tryz.prog 109 [lA .int a] (aM (lR .int fun _=>a)):=by
 refine aN aD Tryz.func109 rfl rfl (fr:=true) (fun _=>by kernel_rfl) fun P hP hA=> ?_;have hn:a.length≤1048576:=hn;cbv;refine⟨?_, ?_⟩
 · show(0+a.length)*8≤140737488355328;omega
 cbv;exact⟨rfl,trivial⟩
theorem Ms (x:br) (hs:x.ai.length≤aS):Spec Tryz.prog 47 [fT x] (aM (AX fun _=>x)):=by
 refine aN aD Tryz.func47 rfl rfl (fr:=true) (fun _=>by kernel_rfl) fun P hP hA=> ?_;cbv;refine ag.by hP (xD x.ai hs) ?_;cbv;exact⟨rfl,rfl,rfl,rfl,rfl,rfl,rfl,rfl,rfl,trivial⟩
theorem Mt (x:br) (hs:x.ai.length≤aS):Spec Tryz.prog 141 [fT x] (aM (AX fun _=>x)):=by
 refine aN aD Tryz.func141 rfl rfl (fr:=true) (fun _=>by kernel_rfl) fun P hP hA=> ?_;have hn:x.ai.length≤1048576:=hs;cbv;refine⟨?_, ?_⟩
 · show(0+x.ai.length)*8≤140737488355328;omega
 cbv;exact⟨rfl,rfl,rfl,rfl,rfl,rfl,rfl,rfl,rfl,trivial⟩
structure Mu (x:br):Prop where
 len:1≤x.ai.length∧x.ai.length≤4
 cd:1≤x.cd∧x.cd≤5
 room:1≤x.room∧x.room≤10
 size:1≤x.size∧x.size≤6
 period:1≤x.period∧x.period≤12
 cC:1≤x.cC∧x.cC≤8
 tries:1≤x.tries∧x.tries≤4
 bO:1≤x.bO∧x.bO≤3
 rest:0≤x.rest∧x.rest≤8
theorem fv {x:br} (h:ca x=true):Mu x:=by
 simp only[ca,Bool.and_eq_true,List.all_eq_true] at h;obtain⟨h1,_,h2,h3,h4,h5,h6,h7,h8,h9⟩:=h;have h1:=bF h1;exact⟨by omega,bF h2,bF h3,bF h4,bF h5,bF h6,bF h7,bF h8,bF h9⟩
theorem m6 (n sz:Int) (h0:0≤sz) (h1:sz≤9223372036854775807):Spec Tryz.prog 58 [iA n,iA sz] (aM (bR fun _=>aj n 0 (sz - 1))):=by
 have e:(fun _:Unit=>aj n 0 (sz - 1))=fun _=>(decide (0≤n) && decide (n<sz)):=by
  funext _
  unfold aj;rw[Bool.eq_iff_iff]; simp only[Bool.and_eq_true,decide_eq_true_eq]; omega
 rw[e];exact Md n sz h0 h1
def bz (R:br) (p:ax) (now:Int):Bool:=
 ca R && (aj now 0 1000000 && (aj p.id 1 999 && (aj p.ah 0 (R.ai.length - 1) && (aj p.aq (-1) (R.ai.length - 1) && (!(p.aq == p.ah) &&
  (aj p.au 1 R.size && (aj p.aT 0 (R.cd - 1) && (aj p.since 0 now && (aj p.az 1 1000000 && (aj p.asked 0 (R.tries - 1) &&
   ((p.st == 1 && aj p.dP 0 (now+R.rest)) || (p.st == 2 && aj p.dP 1 (now+R.cC)))))))))))))
theorem FT (R:br) (p:ax) (now:Int) (hs:R.ai.length≤aS) (b:Bool) (hb:b=bz R p now):Spec Tryz.prog 112 [fT R,eA .aB p,iA now] (aM (bR fun _=>b)):=by
 refine aN aD Tryz.func112 rfl rfl (fr:=true) (fun _=>by kernel_rfl) fun P hP hA=> ?_;have hn:R.ai.length≤1048576:=hs;cbv;refine ag.by hP (xC R hs (ca R) rfl) ?_;cbv
 repeat (refine Pz.mk ?_; cbv)
 refine Br.split (fun h0=> ?_) (fun h0=> ?_) <;> (cbv; repeat (refine Pz.mk ?_; cbv))
 · refine⟨?_,trivial⟩;have h0:ca R=false:=by simpa using h0
   simp[hb,bz,h0]
 have h0:ca R=true:=by simpa using h0
 obtain⟨⟨a1,a2⟩,⟨b1,b2⟩,_,⟨d1,d2⟩,_,⟨f1,f2⟩,⟨g1,g2⟩,_,⟨i1,i2⟩⟩:=fv h0;refine ag.by hP (cT now 0 1000000) ?_;cbv
 repeat (refine Pz.mk ?_; cbv)
 refine Br.split (fun h1=> ?_) (fun h1=> ?_) <;> (cbv; repeat (refine Pz.mk ?_; cbv))
 · refine⟨?_,trivial⟩;have h1:aj now 0 1000000=false:=by simpa using h1
   simp[hb,bz,h0,h1]
 have h1:aj now 0 1000000=true:=by simpa using h1
 obtain⟨n1,n2⟩:=bF h1;refine ag.by hP (cT p.id 1 999) ?_;cbv
 repeat (refine Pz.mk ?_; cbv)
 refine Br.split (fun h2=> ?_) (fun h2=> ?_) <;> (cbv; repeat (refine Pz.mk ?_; cbv))
 · refine⟨?_,trivial⟩;have h2:aj p.id 1 999=false:=by simpa using h2
   simp[hb,bz,h0,h1,h2]
 have h2:aj p.id 1 999=true:=by simpa using h2
 refine Ar.exact ?_ ?_ ?_
 · show -9223372036854775808≤(R.ai.length:Int) - 1;omega
 · show(R.ai.length:Int) - 1≤9223372036854775807;omega
 cbv;refine ag.by hP (cT p.ah 0 ((R.ai.length:Int) - 1)) ?_;cbv
 repeat (refine Pz.mk ?_; cbv)
 refine Br.split (fun h3=> ?_) (fun h3=> ?_) <;> (cbv; repeat (refine Pz.mk ?_; cbv))
 · refine⟨?_,trivial⟩;have h3:aj p.ah 0 ((R.ai.length:Int) - 1)=false:=by simpa using h3
   simp[hb,bz,h0,h1,h2,h3]
 have h3:aj p.ah 0 ((R.ai.length:Int) - 1)=true:=by simpa using h3
 refine Ar.exact ?_ ?_ ?_
 · show -9223372036854775808≤(R.ai.length:Int) - 1;omega
 · show(R.ai.length:Int) - 1≤9223372036854775807;omega
 cbv;refine ag.by hP (cT p.aq (-1) ((R.ai.length:Int) - 1)) ?_;cbv
 repeat (refine Pz.mk ?_; cbv)
 refine Br.split (fun h4=> ?_) (fun h4=> ?_) <;> (cbv; repeat (refine Pz.mk ?_; cbv))
 · refine⟨?_,trivial⟩;have h4:aj p.aq (-1) ((R.ai.length:Int) - 1)=false:=by simpa using h4
   simp[hb,bz,h0,h1,h2,h3,h4]
 have h4:aj p.aq (-1) ((R.ai.length:Int) - 1)=true:=by simpa using h4
 refine Br.split (fun h5=> ?_) (fun h5=> ?_) <;> (cbv; repeat (refine Pz.mk ?_; cbv))
 · refine⟨?_,trivial⟩;have h5:(p.aq == p.ah)=true:=h5;simp[hb,bz,h0,h1,h2,h3,h4,h5]
 have h5:(!(p.aq == p.ah))=true:=by simpa using h5
 refine ag.by hP (cT p.au 1 R.size) ?_;cbv
 repeat (refine Pz.mk ?_; cbv)
 refine Br.split (fun h6=> ?_) (fun h6=> ?_) <;> (cbv; repeat (refine Pz.mk ?_; cbv))
 · refine⟨?_,trivial⟩;have h6:aj p.au 1 R.size=false:=by simpa using h6
   simp[hb,bz,h0,h1,h2,h3,h4,h5,h6]
 have h6:aj p.au 1 R.size=true:=by simpa using h6
 refine Ar.exact ?_ ?_ ?_
 · show -9223372036854775808≤R.cd - 1;omega
 · show R.cd - 1≤9223372036854775807;omega
 cbv;refine ag.by hP (cT p.aT 0 (R.cd - 1)) ?_;cbv
 repeat (refine Pz.mk ?_; cbv)
 refine Br.split (fun h7=> ?_) (fun h7=> ?_) <;> (cbv; repeat (refine Pz.mk ?_; cbv))
 · refine⟨?_,trivial⟩;have h7:aj p.aT 0 (R.cd - 1)=false:=by simpa using h7
   simp[hb,bz,h0,h1,h2,h3,h4,h5,h6,h7]
 have h7:aj p.aT 0 (R.cd - 1)=true:=by simpa using h7
 refine ag.by hP (cT p.since 0 now) ?_;cbv
 repeat (refine Pz.mk ?_; cbv)
 refine Br.split (fun h8=> ?_) (fun h8=> ?_) <;> (cbv; repeat (refine Pz.mk ?_; cbv))
 · refine⟨?_,trivial⟩;have h8:aj p.since 0 now=false:=by simpa using h8
   simp[hb,bz,h0,h1,h2,h3,h4,h5,h6,h7,h8]
 have h8:aj p.since 0 now=true:=by simpa using h8
 refine ag.by hP (cT p.az 1 1000000) ?_;cbv
 repeat (refine Pz.mk ?_; cbv)
 refine Br.split (fun h9=> ?_) (fun h9=> ?_) <;> (cbv; repeat (refine Pz.mk ?_; cbv))
 · refine⟨?_,trivial⟩;have h9:aj p.az 1 1000000=false:=by simpa using h9
   simp[hb,bz,h0,h1,h2,h3,h4,h5,h6,h7,h8,h9]
 have h9:aj p.az 1 1000000=true:=by simpa using h9
 refine Ar.exact ?_ ?_ ?_
 · show -9223372036854775808≤R.tries - 1;omega
 · show R.tries - 1≤9223372036854775807;omega
 cbv;refine ag.by hP (cT p.asked 0 (R.tries - 1)) ?_;cbv
 repeat (refine Pz.mk ?_; cbv)
 refine Br.split (fun bn=> ?_) (fun bn=> ?_) <;> (cbv; repeat (refine Pz.mk ?_; cbv))
 · refine⟨?_,trivial⟩;have bn:aj p.asked 0 (R.tries - 1)=false:=by simpa using bn
   simp[hb,bz,h0,h1,h2,h3,h4,h5,h6,h7,h8,h9,bn]
 have bn:aj p.asked 0 (R.tries - 1)=true:=by simpa using bn
 have e:b=((p.st == 1 && aj p.dP 0 (now+R.rest)) || (p.st == 2 && aj p.dP 1 (now+R.cC))):=by simp[hb,bz,h0,h1,h2,h3,h4,h5,h6,h7,h8,h9,bn]
 clear hb h0 h2 h3 h4 h5 h6 h7 h8 h9 bn
 repeat' first
   | (refine Ar.exact (t:=fun _=>now+R.rest) (by show -9223372036854775808≤now+R.rest; omega) (by show now+R.rest≤9223372036854775807; omega) ?_; cbv)
   | (refine Ar.exact (t:=fun _=>now+R.cC) (by show -9223372036854775808≤now+R.cC; omega) (by show now+R.cC≤9223372036854775807; omega) ?_; cbv)
   | (refine ag.by hP (cT p.dP 0 (now+R.rest)) ?_; cbv)
   | (refine ag.by hP (cT p.dP 1 (now+R.cC)) ?_; cbv)
   | (refine Br.split (fun h=> ?_) (fun h=> ?_) <;> cbv)
 all_goals refine⟨?_,trivial⟩
 all_goals simp_all
theorem xE (R:br) (p:ax) (now:Int) (hs:R.ai.length≤aS) (b:Bool) (hb:b=bz R p now):Spec Tryz.prog 55 [fT R,eA .aB p,iA now] (aM (bR fun _=>b)):=by
 refine aN aD Tryz.func55 rfl rfl (fr:=true) (fun _=>by kernel_rfl) fun P hP hA=> ?_;have hn:R.ai.length≤1048576:=hs;cbv;refine ag.by hP (A1 R hs (ca R) rfl) ?_;cbv
 repeat (refine Pz.mk ?_; cbv)
 refine Br.split (fun h0=> ?_) (fun h0=> ?_) <;> (cbv; repeat (refine Pz.mk ?_; cbv))
 · refine⟨?_,trivial⟩;have h0:ca R=false:=by simpa using h0
   simp[hb,bz,h0]
 have h0:ca R=true:=by simpa using h0
 obtain⟨⟨a1,a2⟩,⟨b1,b2⟩,_,⟨d1,d2⟩,_,⟨f1,f2⟩,⟨g1,g2⟩,_,⟨i1,i2⟩⟩:=fv h0;refine ag.by hP (cI now 0 1000000) ?_;cbv
 repeat (refine Pz.mk ?_; cbv)
 refine Br.split (fun h1=> ?_) (fun h1=> ?_) <;> (cbv; repeat (refine Pz.mk ?_; cbv))
 · refine⟨?_,trivial⟩;have h1:aj now 0 1000000=false:=by simpa using h1
   simp[hb,bz,h0,h1]
 have h1:aj now 0 1000000=true:=by simpa using h1
 obtain⟨n1,n2⟩:=bF h1;refine ag.by hP (cI p.id 1 999) ?_;cbv
 repeat (refine Pz.mk ?_; cbv)
 refine Br.split (fun h2=> ?_) (fun h2=> ?_) <;> (cbv; repeat (refine Pz.mk ?_; cbv))
 · refine⟨?_,trivial⟩;have h2:aj p.id 1 999=false:=by simpa using h2
   simp[hb,bz,h0,h1,h2]
 have h2:aj p.id 1 999=true:=by simpa using h2
 refine ag.by hP (m6 p.ah (R.ai.length:Int) (by omega) (by omega)) ?_;cbv
 repeat (refine Pz.mk ?_; cbv)
 refine Br.split (fun h3=> ?_) (fun h3=> ?_) <;> (cbv; repeat (refine Pz.mk ?_; cbv))
 · refine⟨?_,trivial⟩;have h3:aj p.ah 0 ((R.ai.length:Int) - 1)=false:=by simpa using h3
   simp[hb,bz,h0,h1,h2,h3]
 have h3:aj p.ah 0 ((R.ai.length:Int) - 1)=true:=by simpa using h3
 refine Ar.exact ?_ ?_ ?_
 · show -9223372036854775808≤(R.ai.length:Int) - 1;omega
 · show(R.ai.length:Int) - 1≤9223372036854775807;omega
 cbv;refine ag.by hP (cI p.aq (-1) ((R.ai.length:Int) - 1)) ?_;cbv
 repeat (refine Pz.mk ?_; cbv)
 refine Br.split (fun h4=> ?_) (fun h4=> ?_) <;> (cbv; repeat (refine Pz.mk ?_; cbv))
 · refine⟨?_,trivial⟩;have h4:aj p.aq (-1) ((R.ai.length:Int) - 1)=false:=by simpa using h4
   simp[hb,bz,h0,h1,h2,h3,h4]
 have h4:aj p.aq (-1) ((R.ai.length:Int) - 1)=true:=by simpa using h4
 refine Br.split (fun h5=> ?_) (fun h5=> ?_) <;> (cbv; repeat (refine Pz.mk ?_; cbv))
 · refine⟨?_,trivial⟩;have h5:(p.aq == p.ah)=true:=h5;simp[hb,bz,h0,h1,h2,h3,h4,h5]
 have h5:(!(p.aq == p.ah))=true:=by simpa using h5
 refine ag.by hP (cI p.au 1 R.size) ?_;cbv
 repeat (refine Pz.mk ?_; cbv)
 refine Br.split (fun h6=> ?_) (fun h6=> ?_) <;> (cbv; repeat (refine Pz.mk ?_; cbv))
 · refine⟨?_,trivial⟩;have h6:aj p.au 1 R.size=false:=by simpa using h6
   simp[hb,bz,h0,h1,h2,h3,h4,h5,h6]
 have h6:aj p.au 1 R.size=true:=by simpa using h6
 refine ag.by hP (m6 p.aT R.cd (by omega) (by omega)) ?_;cbv
 repeat (refine Pz.mk ?_; cbv)
 refine Br.split (fun h7=> ?_) (fun h7=> ?_) <;> (cbv; repeat (refine Pz.mk ?_; cbv))
 · refine⟨?_,trivial⟩;have h7:aj p.aT 0 (R.cd - 1)=false:=by simpa using h7
   simp[hb,bz,h0,h1,h2,h3,h4,h5,h6,h7]
 have h7:aj p.aT 0 (R.cd - 1)=true:=by simpa using h7
 refine ag.by hP (cI p.since 0 now) ?_;cbv
 repeat (refine Pz.mk ?_; cbv)
 refine Br.split (fun h8=> ?_) (fun h8=> ?_) <;> (cbv; repeat (refine Pz.mk ?_; cbv))
 · refine⟨?_,trivial⟩;have h8:aj p.since 0 now=false:=by simpa using h8
   simp[hb,bz,h0,h1,h2,h3,h4,h5,h6,h7,h8]
 have h8:aj p.since 0 now=true:=by simpa using h8
 refine ag.by hP (cI p.az 1 1000000) ?_;cbv
 repeat (refine Pz.mk ?_; cbv)
 refine Br.split (fun h9=> ?_) (fun h9=> ?_) <;> (cbv; repeat (refine Pz.mk ?_; cbv))
 · refine⟨?_,trivial⟩;have h9:aj p.az 1 1000000=false:=by simpa using h9
   simp[hb,bz,h0,h1,h2,h3,h4,h5,h6,h7,h8,h9]
 have h9:aj p.az 1 1000000=true:=by simpa using h9
 refine ag.by hP (m6 p.asked R.tries (by omega) (by omega)) ?_;cbv
 repeat (refine Pz.mk ?_; cbv)
 refine Br.split (fun bn=> ?_) (fun bn=> ?_) <;> (cbv; repeat (refine Pz.mk ?_; cbv))
 · refine⟨?_,trivial⟩;have bn:aj p.asked 0 (R.tries - 1)=false:=by simpa using bn
   simp[hb,bz,h0,h1,h2,h3,h4,h5,h6,h7,h8,h9,bn]
 have bn:aj p.asked 0 (R.tries - 1)=true:=by simpa using bn
 have e:b=((p.st == 1 && aj p.dP 0 (now+R.rest)) || (p.st == 2 && aj p.dP 1 (now+R.cC))):=by simp[hb,bz,h0,h1,h2,h3,h4,h5,h6,h7,h8,h9,bn]
 clear hb h0 h2 h3 h4 h5 h6 h7 h8 h9 bn
 repeat' first
   | (refine Ar.exact (t:=fun _=>now+R.rest) (by show -9223372036854775808≤now+R.rest; omega) (by show now+R.rest≤9223372036854775807; omega) ?_; cbv)
   | (refine Ar.exact (t:=fun _=>now+R.cC) (by show -9223372036854775808≤now+R.cC; omega) (by show now+R.cC≤9223372036854775807; omega) ?_; cbv)
   | (refine ag.by hP (cI p.dP 0 (now+R.rest)) ?_; cbv)
   | (refine ag.by hP (cI p.dP 1 (now+R.cC)) ?_; cbv)
   | (refine Br.split (fun h=> ?_) (fun h=> ?_) <;> cbv)
 all_goals refine⟨?_,trivial⟩
 all_goals simp_all
def kB (p:ax) (now:Int):Bool:=p.st == 2 && decide (p.dP≤now)
def lr (p:ax) (now:Int):Bool:=p.st == 1 && decide (p.dP>now)
theorem Mv (p:ax) (now:Int):Spec Tryz.prog 172 [eA .aB p,iA now] (aM (bR fun _=>kB p now)):=by
 refine aN aD Tryz.func172 rfl rfl (fr:=true) (fun _=>by kernel_rfl) fun P hP hA=> ?_;cbv;refine Br.split (fun h=> ?_) (fun h=> ?_) <;> cbv
 · refine⟨?_,trivial⟩;simp_all [kB]
 · refine⟨?_,trivial⟩;simp_all [kB]
theorem FU (p:ax) (now:Int):Spec Tryz.prog 105 [eA .aB p,iA now] (aM (bR fun _=>kB p now)):=by
 refine aN aD Tryz.func105 rfl rfl (fr:=true) (fun _=>by kernel_rfl) fun P hP hA=> ?_;cbv;refine Br.split (fun h=> ?_) (fun h=> ?_) <;> cbv
 · refine⟨?_,trivial⟩;simp_all [kB]
 · refine⟨?_,trivial⟩;simp_all [kB]
theorem Mw (p:ax) (now:Int):Spec Tryz.prog 72 [eA .aB p,iA now] (aM (bR fun _=>lr p now)):=by
 refine aN aD Tryz.func72 rfl rfl (fr:=true) (fun _=>by kernel_rfl) fun P hP hA=> ?_;cbv;refine Br.split (fun h=> ?_) (fun h=> ?_) <;> cbv
 · refine⟨?_,trivial⟩;simp_all [lr]
 · refine⟨?_,trivial⟩;simp_all [lr]
theorem lu {α:Type} (z:α→Nat) {a:List α} {i:Nat} (h:i<a.length) (hv:z a[i]=0):((aV z (a.take i):Nat):Int)=((aV z (a.take (i+1)):Nat):Int):=by
 rw[FV z h,hv,Nat.add_zero]
theorem sL {α:Type} (z:α→Nat) {a:List α} {i:Nat} (h:i<a.length) {v:Int} (hv:((z a[i]:Nat):Int)=v):((aV z (a.take i):Nat):Int)+v=((aV z (a.take (i+1)):Nat):Int):=by
 rw[FV z h,←hv]; omega
def bL (c:Int) (p:ax):Nat:=if(p.ah == c)=true then 1 else 0
def lv (c:Int) (p:ax):Bool:=p.st == 2 && (p.ah == c && aj p.au 1 6)
def jP (c:Int) (p:ax):Bool:=p.aq == c && aj p.au 1 6
def cg (c:Int) (p:ax):Nat:=if lv c p=true then p.au.toNat else 0
def cu (c:Int) (p:ax):Nat:=if jP c p=true then p.au.toNat else 0
theorem FW (c:Int) (a:List ax) (hn:a.length≤aS) (i:Nat):aV (bL c) (a.take i)≤1048576:=by
 have hn:a.length≤1048576:=hn;exact A2 _ 1 1048576 (a.take i) (fun x _=>by unfold bL; split <;> omega) (by rw[List.length_take]; omega)
theorem A3 (c:Int) (a:List ax) (hn:a.length≤aS) (i:Nat):aV (cg c) (a.take i)≤6291456:=by
 have hn:a.length≤1048576:=hn
 exact A2 _ 6 1048576 (a.take i) (fun x _=>by
  unfold cg; split
  · rename_i h; simp only[lv,Bool.and_eq_true] at h; have:=bF h.2.2; omega
  · omega) (by rw[List.length_take]; omega)
theorem A4 (c:Int) (a:List ax) (hn:a.length≤aS) (i:Nat):aV (cu c) (a.take i)≤6291456:=by
 have hn:a.length≤1048576:=hn
 exact A2 _ 6 1048576 (a.take i) (fun x _=>by
  unfold cu; split
  · rename_i h; simp only[jP,Bool.and_eq_true] at h; have:=bF h.2; omega
  · omega) (by rw[List.length_take]; omega)
theorem A5 (a:List ax) (c:Int) (hn:a.length≤aS):Spec Tryz.prog 53 [lA .aB a,iA c] (aM (nR fun _=>aV (bL c) a)):=by
 refine aN aD Tryz.func53 rfl rfl (fr:=true) (fun _=>by kernel_rfl) fun P hP hA=> ?_;have rm:a.length≤1048576:=hn;cbv;refine aW.by (X:=Nat) (fun i=>[(0,lA .aB a),(1,iA c),(5,nT fun _=>aV (bL c) (a.take i)),(6,nT fun _=>i)]) (fun _=>[]) (fun i=>i≤a.length) (fun i _=>a.length - i) 0 (Nat.zero_le _) ?_ ?_
 · cbv
   repeat' first | exact trivial | refine⟨rfl, ?_⟩ | fail
 · intro i hi;have hle:=FW c a hn i;cbv;refine Br.dec (fun h2=> ?_) (fun h2=> ?_) <;> cbv
   rotate_left
   · have h2:a.length≤i:=by simp at h2; omega
     refine⟨?_,trivial⟩;show((aV (bL c) (a.take i):Nat):Int)=((aV (bL c) a:Nat):Int);rw[List.take_of_length_le h2]
   have h2:i<a.length:=by simpa using h2
   refine⟨a[i],by simp,get_cast a h2, ?_⟩;cbv;refine Br.split (fun k0=> ?_) (fun k0=> ?_) <;> cbv
   rotate_left
   · have k0:(a[i].ah == c)=false:=by simpa using k0
     have hz:bL c a[i]=0:=by simp[bL,k0]
     refine Ar.exact ?_ ?_ ?_
     · show -9223372036854775808≤(i:Int)+1;omega
     · show(i:Int)+1≤9223372036854775807;omega
     cbv;refine aO.by (i+1) ?_ ?_ ?_
     · show a.length - (i+1)<a.length - i;omega
     · exact h2
     · cbv
       repeat' first | exact trivial | refine⟨rfl, ?_⟩ | fail
       refine⟨?_, ?_⟩
       · exact lu (bL c) h2 hz
       repeat' first | exact trivial | refine⟨rfl, ?_⟩ | fail
   have k0:(a[i].ah == c)=true:=by simpa using k0
   have hz:((bL c a[i]:Nat):Int)=1:=by simp[bL,k0]
   refine Ar.exact ?_ ?_ ?_
   · show -9223372036854775808≤((aV (bL c) (a.take i):Nat):Int)+1;omega
   · show((aV (bL c) (a.take i):Nat):Int)+1≤9223372036854775807;omega
   cbv;refine Ar.exact ?_ ?_ ?_
   · show -9223372036854775808≤(i:Int)+1;omega
   · show(i:Int)+1≤9223372036854775807;omega
   cbv;refine aO.by (i+1) ?_ ?_ ?_
   · show a.length - (i+1)<a.length - i;omega
   · exact h2
   · cbv
     repeat' first | exact trivial | refine⟨rfl, ?_⟩ | fail
     refine⟨?_, ?_⟩
     · exact sL (bL c) h2 hz
     repeat' first | exact trivial | refine⟨rfl, ?_⟩ | fail
theorem FX (a:List ax) (c:Int) (hn:a.length≤aS):Spec Tryz.prog 120 [lA .aB a,iA c] (aM (nR fun _=>aV (cg c) a)):=by
 refine aN aD Tryz.func120 rfl rfl (fr:=true) (fun _=>by kernel_rfl) fun P hP hA=> ?_;have rm:a.length≤1048576:=hn;cbv;refine aW.by (X:=Nat) (fun i=>[(0,lA .aB a),(1,iA c),(5,nT fun _=>aV (cg c) (a.take i)),(6,nT fun _=>i)]) (fun _=>[]) (fun i=>i≤a.length) (fun i _=>a.length - i) 0 (Nat.zero_le _) ?_ ?_
 · cbv
   repeat' first | exact trivial | refine⟨rfl, ?_⟩ | fail
 · intro i hi;have hle:=A3 c a hn i;cbv;refine Br.dec (fun h2=> ?_) (fun h2=> ?_) <;> cbv
   rotate_left
   · have h2:a.length≤i:=by simp at h2; omega
     refine⟨?_,trivial⟩;show((aV (cg c) (a.take i):Nat):Int)=((aV (cg c) a:Nat):Int);rw[List.take_of_length_le h2]
   have h2:i<a.length:=by simpa using h2
   refine⟨a[i],by simp,get_cast a h2, ?_⟩;cbv;refine Br.split (fun k0=> ?_) (fun k0=> ?_) <;> cbv
   rotate_left
   · have k0:(a[i].st == 2)=false:=by simpa using k0
     have hz:cg c a[i]=0:=by simp[cg,lv,k0]
     refine Ar.exact ?_ ?_ ?_
     · show -9223372036854775808≤(i:Int)+1;omega
     · show(i:Int)+1≤9223372036854775807;omega
     cbv;refine aO.by (i+1) ?_ ?_ ?_
     · show a.length - (i+1)<a.length - i;omega
     · exact h2
     · cbv
       repeat' first | exact trivial | refine⟨rfl, ?_⟩ | fail
       refine⟨?_, ?_⟩
       · exact lu (cg c) h2 hz
       repeat' first | exact trivial | refine⟨rfl, ?_⟩ | fail
   have k0:(a[i].st == 2)=true:=by simpa using k0
   refine⟨a[i],by simp,get_cast a h2, ?_⟩;cbv;refine Br.split (fun k1=> ?_) (fun k1=> ?_) <;> cbv
   rotate_left
   · have k1:(a[i].ah == c)=false:=by simpa using k1
     have hz:cg c a[i]=0:=by simp[cg,lv,k0,k1]
     refine Ar.exact ?_ ?_ ?_
     · show -9223372036854775808≤(i:Int)+1;omega
     · show(i:Int)+1≤9223372036854775807;omega
     cbv;refine aO.by (i+1) ?_ ?_ ?_
     · show a.length - (i+1)<a.length - i;omega
     · exact h2
     · cbv
       repeat' first | exact trivial | refine⟨rfl, ?_⟩ | fail
       refine⟨?_, ?_⟩
       · exact lu (cg c) h2 hz
       repeat' first | exact trivial | refine⟨rfl, ?_⟩ | fail
   have k1:(a[i].ah == c)=true:=by simpa using k1
   refine⟨a[i],by simp,get_cast a h2, ?_⟩;cbv;refine ag.by hP (cT a[i].au 1 6) ?_;cbv;refine Br.split (fun k2=> ?_) (fun k2=> ?_) <;> cbv
   rotate_left
   · have k2:aj a[i].au 1 6=false:=by simpa using k2
     have hz:cg c a[i]=0:=by simp[cg,lv,k0,k1,k2]
     refine Ar.exact ?_ ?_ ?_
     · show -9223372036854775808≤(i:Int)+1;omega
     · show(i:Int)+1≤9223372036854775807;omega
     cbv;refine aO.by (i+1) ?_ ?_ ?_
     · show a.length - (i+1)<a.length - i;omega
     · exact h2
     · cbv
       repeat' first | exact trivial | refine⟨rfl, ?_⟩ | fail
       refine⟨?_, ?_⟩
       · exact lu (cg c) h2 hz
       repeat' first | exact trivial | refine⟨rfl, ?_⟩ | fail
   have k2:aj a[i].au 1 6=true:=by simpa using k2
   have hq:=bF k2;have hz:((cg c a[i]:Nat):Int)=a[i].au:=by simp[cg,lv,k0,k1,k2]; omega
   refine⟨a[i],by simp,get_cast a h2, ?_⟩;cbv;refine Ar.exact ?_ ?_ ?_
   · show -9223372036854775808≤((aV (cg c) (a.take i):Nat):Int)+a[i].au;omega
   · show((aV (cg c) (a.take i):Nat):Int)+a[i].au≤9223372036854775807;omega
   cbv;refine Ar.exact ?_ ?_ ?_
   · show -9223372036854775808≤(i:Int)+1;omega
   · show(i:Int)+1≤9223372036854775807;omega
   cbv;refine aO.by (i+1) ?_ ?_ ?_
   · show a.length - (i+1)<a.length - i;omega
   · exact h2
   · cbv
     repeat' first | exact trivial | refine⟨rfl, ?_⟩ | fail
     refine⟨?_, ?_⟩
     · exact sL (cg c) h2 hz
     repeat' first | exact trivial | refine⟨rfl, ?_⟩ | fail
theorem FY (a:List ax) (c:Int) (hn:a.length≤aS):Spec Tryz.prog 121 [lA .aB a,iA c] (aM (nR fun _=>aV (cu c) a)):=by
 refine aN aD Tryz.func121 rfl rfl (fr:=true) (fun _=>by kernel_rfl) fun P hP hA=> ?_;have rm:a.length≤1048576:=hn;cbv;refine aW.by (X:=Nat) (fun i=>[(0,lA .aB a),(1,iA c),(5,nT fun _=>aV (cu c) (a.take i)),(6,nT fun _=>i)]) (fun _=>[]) (fun i=>i≤a.length) (fun i _=>a.length - i) 0 (Nat.zero_le _) ?_ ?_
 · cbv
   repeat' first | exact trivial | refine⟨rfl, ?_⟩ | fail
 · intro i hi;have hle:=A4 c a hn i;cbv;refine Br.dec (fun h2=> ?_) (fun h2=> ?_) <;> cbv
   rotate_left
   · have h2:a.length≤i:=by simp at h2; omega
     refine⟨?_,trivial⟩;show((aV (cu c) (a.take i):Nat):Int)=((aV (cu c) a:Nat):Int);rw[List.take_of_length_le h2]
   have h2:i<a.length:=by simpa using h2
   refine⟨a[i],by simp,get_cast a h2, ?_⟩;cbv;refine Br.split (fun k0=> ?_) (fun k0=> ?_) <;> cbv
   rotate_left
   · have k0:(a[i].aq == c)=false:=by simpa using k0
     have hz:cu c a[i]=0:=by simp[cu,jP,k0]
     refine Ar.exact ?_ ?_ ?_
     · show -9223372036854775808≤(i:Int)+1;omega
     · show(i:Int)+1≤9223372036854775807;omega
     cbv;refine aO.by (i+1) ?_ ?_ ?_
     · show a.length - (i+1)<a.length - i;omega
     · exact h2
     · cbv
       repeat' first | exact trivial | refine⟨rfl, ?_⟩ | fail
       refine⟨?_, ?_⟩
       · exact lu (cu c) h2 hz
       repeat' first | exact trivial | refine⟨rfl, ?_⟩ | fail
   have k0:(a[i].aq == c)=true:=by simpa using k0
   refine⟨a[i],by simp,get_cast a h2, ?_⟩;cbv;refine ag.by hP (cT a[i].au 1 6) ?_;cbv;refine Br.split (fun k1=> ?_) (fun k1=> ?_) <;> cbv
   rotate_left
   · have k1:aj a[i].au 1 6=false:=by simpa using k1
     have hz:cu c a[i]=0:=by simp[cu,jP,k0,k1]
     refine Ar.exact ?_ ?_ ?_
     · show -9223372036854775808≤(i:Int)+1;omega
     · show(i:Int)+1≤9223372036854775807;omega
     cbv;refine aO.by (i+1) ?_ ?_ ?_
     · show a.length - (i+1)<a.length - i;omega
     · exact h2
     · cbv
       repeat' first | exact trivial | refine⟨rfl, ?_⟩ | fail
       refine⟨?_, ?_⟩
       · exact lu (cu c) h2 hz
       repeat' first | exact trivial | refine⟨rfl, ?_⟩ | fail
   have k1:aj a[i].au 1 6=true:=by simpa using k1
   have hq:=bF k1;have hz:((cu c a[i]:Nat):Int)=a[i].au:=by simp[cu,jP,k0,k1]; omega
   refine⟨a[i],by simp,get_cast a h2, ?_⟩;cbv;refine Ar.exact ?_ ?_ ?_
   · show -9223372036854775808≤((aV (cu c) (a.take i):Nat):Int)+a[i].au;omega
   · show((aV (cu c) (a.take i):Nat):Int)+a[i].au≤9223372036854775807;omega
   cbv;refine Ar.exact ?_ ?_ ?_
   · show -9223372036854775808≤(i:Int)+1;omega
   · show(i:Int)+1≤9223372036854775807;omega
   cbv;refine aO.by (i+1) ?_ ?_ ?_
   · show a.length - (i+1)<a.length - i;omega
   · exact h2
   · cbv
     repeat' first | exact trivial | refine⟨rfl, ?_⟩ | fail
     refine⟨?_, ?_⟩
     · exact sL (cu c) h2 hz
     repeat' first | exact trivial | refine⟨rfl, ?_⟩ | fail
theorem A6 (a:List ax) (c:Int) (hn:a.length≤aS):Spec Tryz.prog 56 [lA .aB a,iA c] (aM (nR fun _=>aV (bL c) a)):=by
 refine aN aD Tryz.func56 rfl rfl (fr:=true) (fun _=>by kernel_rfl) fun P hP hA=> ?_;have rm:a.length≤1048576:=hn;cbv;refine aW.by (X:=Nat) (fun i=>[(1,iA c),(5,nT fun _=>aV (bL c) (a.take i)),(8,lA .aB a),(9,nT fun _=>a.length),(10,nT fun _=>i)]) (fun _=>[]) (fun i=>i≤a.length) (fun i _=>a.length - i) 0 (Nat.zero_le _) ?_ ?_
 · cbv
   repeat' first | exact trivial | refine⟨rfl, ?_⟩ | fail
 · intro i hi;have hle:=FW c a hn i;cbv;refine Br.dec (fun h2=> ?_) (fun h2=> ?_) <;> cbv
   rotate_left
   · have h2:a.length≤i:=by simp at h2; omega
     refine⟨?_,trivial⟩;show((aV (bL c) (a.take i):Nat):Int)=((aV (bL c) a:Nat):Int);rw[List.take_of_length_le h2]
   have h2:i<a.length:=by simpa using h2
   refine⟨a[i],by simp,get_cast a h2, ?_⟩;cbv;refine Br.split (fun k0=> ?_) (fun k0=> ?_) <;> cbv
   rotate_left
   · have k0:(a[i].ah == c)=false:=by simpa using k0
     have hz:bL c a[i]=0:=by simp[bL,k0]
     refine Ar.exact ?_ ?_ ?_
     · show -9223372036854775808≤(i:Int)+1;omega
     · show(i:Int)+1≤9223372036854775807;omega
     cbv;refine aO.by (i+1) ?_ ?_ ?_
     · show a.length - (i+1)<a.length - i;omega
     · exact h2
     · cbv
       repeat' first | exact trivial | refine⟨rfl, ?_⟩ | fail
       refine⟨?_, ?_⟩
       · exact lu (bL c) h2 hz
       repeat' first | exact trivial | refine⟨rfl, ?_⟩ | fail
   have k0:(a[i].ah == c)=true:=by simpa using k0
   have hz:((bL c a[i]:Nat):Int)=1:=by simp[bL,k0]
   refine Ar.exact ?_ ?_ ?_
   · show -9223372036854775808≤((aV (bL c) (a.take i):Nat):Int)+1;omega
   · show((aV (bL c) (a.take i):Nat):Int)+1≤9223372036854775807;omega
   cbv;refine Ar.exact ?_ ?_ ?_
   · show -9223372036854775808≤(i:Int)+1;omega
   · show(i:Int)+1≤9223372036854775807;omega
   cbv;refine aO.by (i+1) ?_ ?_ ?_
   · show a.length - (i+1)<a.length - i;omega
   · exact h2
   · cbv
     repeat' first | exact trivial | refine⟨rfl, ?_⟩ | fail
     refine⟨?_, ?_⟩
     · exact sL (bL c) h2 hz
     repeat' first | exact trivial | refine⟨rfl, ?_⟩ | fail
theorem Mx (a:List ax) (c:Int) (hn:a.length≤aS):Spec Tryz.prog 128 [lA .aB a,iA c] (aM (nR fun _=>aV (cg c) a)):=by
 refine aN aD Tryz.func128 rfl rfl (fr:=true) (fun _=>by kernel_rfl) fun P hP hA=> ?_;have rm:a.length≤1048576:=hn;cbv;refine aW.by (X:=Nat) (fun i=>[(1,iA c),(5,nT fun _=>aV (cg c) (a.take i)),(8,lA .aB a),(9,nT fun _=>a.length),(10,nT fun _=>i)]) (fun _=>[]) (fun i=>i≤a.length) (fun i _=>a.length - i) 0 (Nat.zero_le _) ?_ ?_
 · cbv
   repeat' first | exact trivial | refine⟨rfl, ?_⟩ | fail
 · intro i hi;have hle:=A3 c a hn i;cbv;refine Br.dec (fun h2=> ?_) (fun h2=> ?_) <;> cbv
   rotate_left
   · have h2:a.length≤i:=by simp at h2; omega
     refine⟨?_,trivial⟩;show((aV (cg c) (a.take i):Nat):Int)=((aV (cg c) a:Nat):Int);rw[List.take_of_length_le h2]
   have h2:i<a.length:=by simpa using h2
   refine⟨a[i],by simp,get_cast a h2, ?_⟩;cbv;refine Br.split (fun k0=> ?_) (fun k0=> ?_) <;> cbv
   rotate_left
   · have k0:(a[i].st == 2)=false:=by simpa using k0
     have hz:cg c a[i]=0:=by simp[cg,lv,k0]
     refine Ar.exact ?_ ?_ ?_
     · show -9223372036854775808≤(i:Int)+1;omega
     · show(i:Int)+1≤9223372036854775807;omega
     cbv;refine aO.by (i+1) ?_ ?_ ?_
     · show a.length - (i+1)<a.length - i;omega
     · exact h2
     · cbv
       repeat' first | exact trivial | refine⟨rfl, ?_⟩ | fail
       refine⟨?_, ?_⟩
       · exact lu (cg c) h2 hz
       repeat' first | exact trivial | refine⟨rfl, ?_⟩ | fail
   have k0:(a[i].st == 2)=true:=by simpa using k0
   refine Br.split (fun k1=> ?_) (fun k1=> ?_) <;> cbv
   rotate_left
   · have k1:(a[i].ah == c)=false:=by simpa using k1
     have hz:cg c a[i]=0:=by simp[cg,lv,k0,k1]
     refine Ar.exact ?_ ?_ ?_
     · show -9223372036854775808≤(i:Int)+1;omega
     · show(i:Int)+1≤9223372036854775807;omega
     cbv;refine aO.by (i+1) ?_ ?_ ?_
     · show a.length - (i+1)<a.length - i;omega
     · exact h2
     · cbv
       repeat' first | exact trivial | refine⟨rfl, ?_⟩ | fail
       refine⟨?_, ?_⟩
       · exact lu (cg c) h2 hz
       repeat' first | exact trivial | refine⟨rfl, ?_⟩ | fail
   have k1:(a[i].ah == c)=true:=by simpa using k1
   refine ag.by hP (cI a[i].au 1 6) ?_;cbv;refine Br.split (fun k2=> ?_) (fun k2=> ?_) <;> cbv
   rotate_left
   · have k2:aj a[i].au 1 6=false:=by simpa using k2
     have hz:cg c a[i]=0:=by simp[cg,lv,k0,k1,k2]
     refine Ar.exact ?_ ?_ ?_
     · show -9223372036854775808≤(i:Int)+1;omega
     · show(i:Int)+1≤9223372036854775807;omega
     cbv;refine aO.by (i+1) ?_ ?_ ?_
     · show a.length - (i+1)<a.length - i;omega
     · exact h2
     · cbv
       repeat' first | exact trivial | refine⟨rfl, ?_⟩ | fail
       refine⟨?_, ?_⟩
       · exact lu (cg c) h2 hz
       repeat' first | exact trivial | refine⟨rfl, ?_⟩ | fail
   have k2:aj a[i].au 1 6=true:=by simpa using k2
   have hq:=bF k2;have hz:((cg c a[i]:Nat):Int)=a[i].au:=by simp[cg,lv,k0,k1,k2]; omega
   refine Ar.exact ?_ ?_ ?_
   · show -9223372036854775808≤((aV (cg c) (a.take i):Nat):Int)+a[i].au;omega
   · show((aV (cg c) (a.take i):Nat):Int)+a[i].au≤9223372036854775807;omega
   cbv;refine Ar.exact ?_ ?_ ?_
   · show -9223372036854775808≤(i:Int)+1;omega
   · show(i:Int)+1≤9223372036854775807;omega
   cbv;refine aO.by (i+1) ?_ ?_ ?_
   · show a.length - (i+1)<a.length - i;omega
   · exact h2
   · cbv
     repeat' first | exact trivial | refine⟨rfl, ?_⟩ | fail
     refine⟨?_, ?_⟩
     · exact sL (cg c) h2 hz
     repeat' first | exact trivial | refine⟨rfl, ?_⟩ | fail
theorem My (a:List ax) (c:Int) (hn:a.length≤aS):Spec Tryz.prog 129 [lA .aB a,iA c] (aM (nR fun _=>aV (cu c) a)):=by
 refine aN aD Tryz.func129 rfl rfl (fr:=true) (fun _=>by kernel_rfl) fun P hP hA=> ?_;have rm:a.length≤1048576:=hn;cbv;refine aW.by (X:=Nat) (fun i=>[(1,iA c),(5,nT fun _=>aV (cu c) (a.take i)),(8,lA .aB a),(9,nT fun _=>a.length),(10,nT fun _=>i)]) (fun _=>[]) (fun i=>i≤a.length) (fun i _=>a.length - i) 0 (Nat.zero_le _) ?_ ?_
 · cbv
   repeat' first | exact trivial | refine⟨rfl, ?_⟩ | fail
 · intro i hi;have hle:=A4 c a hn i;cbv;refine Br.dec (fun h2=> ?_) (fun h2=> ?_) <;> cbv
   rotate_left
   · have h2:a.length≤i:=by simp at h2; omega
     refine⟨?_,trivial⟩;show((aV (cu c) (a.take i):Nat):Int)=((aV (cu c) a:Nat):Int);rw[List.take_of_length_le h2]
   have h2:i<a.length:=by simpa using h2
   refine⟨a[i],by simp,get_cast a h2, ?_⟩;cbv;refine Br.split (fun k0=> ?_) (fun k0=> ?_) <;> cbv
   rotate_left
   · have k0:(a[i].aq == c)=false:=by simpa using k0
     have hz:cu c a[i]=0:=by simp[cu,jP,k0]
     refine Ar.exact ?_ ?_ ?_
     · show -9223372036854775808≤(i:Int)+1;omega
     · show(i:Int)+1≤9223372036854775807;omega
     cbv;refine aO.by (i+1) ?_ ?_ ?_
     · show a.length - (i+1)<a.length - i;omega
     · exact h2
     · cbv
       repeat' first | exact trivial | refine⟨rfl, ?_⟩ | fail
       refine⟨?_, ?_⟩
       · exact lu (cu c) h2 hz
       repeat' first | exact trivial | refine⟨rfl, ?_⟩ | fail
   have k0:(a[i].aq == c)=true:=by simpa using k0
   refine ag.by hP (cI a[i].au 1 6) ?_;cbv;refine Br.split (fun k1=> ?_) (fun k1=> ?_) <;> cbv
   rotate_left
   · have k1:aj a[i].au 1 6=false:=by simpa using k1
     have hz:cu c a[i]=0:=by simp[cu,jP,k0,k1]
     refine Ar.exact ?_ ?_ ?_
     · show -9223372036854775808≤(i:Int)+1;omega
     · show(i:Int)+1≤9223372036854775807;omega
     cbv;refine aO.by (i+1) ?_ ?_ ?_
     · show a.length - (i+1)<a.length - i;omega
     · exact h2
     · cbv
       repeat' first | exact trivial | refine⟨rfl, ?_⟩ | fail
       refine⟨?_, ?_⟩
       · exact lu (cu c) h2 hz
       repeat' first | exact trivial | refine⟨rfl, ?_⟩ | fail
   have k1:aj a[i].au 1 6=true:=by simpa using k1
   have hq:=bF k1;have hz:((cu c a[i]:Nat):Int)=a[i].au:=by simp[cu,jP,k0,k1]; omega
   refine Ar.exact ?_ ?_ ?_
   · show -9223372036854775808≤((aV (cu c) (a.take i):Nat):Int)+a[i].au;omega
   · show((aV (cu c) (a.take i):Nat):Int)+a[i].au≤9223372036854775807;omega
   cbv;refine Ar.exact ?_ ?_ ?_
   · show -9223372036854775808≤(i:Int)+1;omega
   · show(i:Int)+1≤9223372036854775807;omega
   cbv;refine aO.by (i+1) ?_ ?_ ?_
   · show a.length - (i+1)<a.length - i;omega
   · exact h2
   · cbv
     repeat' first | exact trivial | refine⟨rfl, ?_⟩ | fail
     refine⟨?_, ?_⟩
     · exact sL (cu c) h2 hz
     repeat' first | exact trivial | refine⟨rfl, ?_⟩ | fail
theorem FZ (a b:Int):Spec Tryz.prog 101 [iA a,iA b] (aM (iR fun _=>if a>b then a else b)):=by
 refine aN aD Tryz.func101 rfl rfl (fr:=true) (fun _=>by kernel_rfl) fun P hP hA=> ?_;cbv;refine Br.dec (fun h=> ?_) (fun h=> ?_) <;> cbv
 · refine⟨?_,trivial⟩;rw[if_pos h]
 · refine⟨?_,trivial⟩;rw[if_neg h]
def lvl (R:br) (aT waited:Int):Int:=if 0>aT - waited.tdiv R.period then 0 else aT - waited.tdiv R.period
theorem A7 {a b:Int} (h0:0≤a) (h1:a≤1000000) (h2:1≤b):0≤a.tdiv b∧a.tdiv b≤1000000:=
 ⟨Int.tdiv_nonneg h0 (by omega),Int.le_trans (Int.tdiv_le_self b h0) h1⟩
theorem Mz (R:br) (aT waited:Int) (h0:0≤waited) (h1:waited≤1000000) (h2:0≤aT) (h3:aT≤10) (h4:1≤R.period):Spec Tryz.prog 269 [fT R,iA aT,iA waited] (aM (iR fun _=>lvl R aT waited)):=by
 refine aN aD Tryz.func269 rfl rfl (fr:=true) (fun _=>by kernel_rfl) fun P hP hA=> ?_;obtain⟨q0,q1⟩:=A7 h0 h1 h4;cbv;refine⟨by show R.period≠0; omega, ?_⟩;cbv;refine Ar.exact (t:=fun _=>waited.tdiv R.period) ?_ ?_ ?_
 · show -9223372036854775808≤waited.tdiv R.period;omega
 · show waited.tdiv R.period≤9223372036854775807;omega
 cbv;refine Ar.exact (t:=fun _=>aT - waited.tdiv R.period) ?_ ?_ ?_
 · show -9223372036854775808≤aT - waited.tdiv R.period;omega
 · show aT - waited.tdiv R.period≤9223372036854775807;omega
 refine ag.uM hP (FZ 0 (aT - waited.tdiv R.period)) rfl ?_;cbv
 repeat' first | exact trivial | refine⟨rfl, ?_⟩ | fail
theorem F0 (a:Int):Spec Tryz.prog 272 [iA a] (aM (bR fun _=>false)):=by
 refine aN aD Tryz.func272 rfl rfl (fr:=true) (fun _=>by kernel_rfl) fun P hP hA=> ?_;cbv;refine⟨?_,trivial⟩;simp
def jQ (a b:Int):Int:=if a<b then -1 else if a>b then 1 else 0
theorem xF (a b:Int):Spec Tryz.prog 243 [iA a,iA b] (aM (iR fun _=>jQ a b)):=by
 refine aN aD Tryz.func243 rfl rfl (fr:=true) (fun _=>by kernel_rfl) fun P hP hA=> ?_;cbv;refine ag.by hP (F0 a) ?_;cbv;refine ag.by hP (F0 b) ?_;cbv
 repeat' first
  | (refine Br.split (fun h=> ?_) (fun h=> ?_) <;> cbv)
 all_goals refine⟨?_,trivial⟩
 all_goals (unfold jQ; repeat' split)
 all_goals first
  | rfl
  | (exfalso; simp_all; done)
  | (exfalso; simp_all; omega)
theorem MA (R:br) (aT waited:Int) (hs:R.ai.length≤aS) (hr:ca R=true) (h0:0≤waited) (h1:waited≤1000000) (ht:aj aT 0 (R.cd - 1)=true):Spec Tryz.prog 266 [fT R,iA aT,iA waited] (aM (iR fun _=>lvl R aT waited)):=by
 refine aN aD Tryz.func266 rfl rfl (fr:=true) (fun _=>by kernel_rfl) fun P hP hA=> ?_;have hg:=fv hr;obtain⟨p1,p2⟩:=hg.period;obtain⟨t1,t2⟩:=hg.cd;obtain⟨u1,u2⟩:=bF ht;obtain⟨q0,q1⟩:=A7 h0 h1 p1;cbv;refine ag.by hP (A1 R hs (ca R) rfl) ?_;cbv;refine Br.split (fun k0=> ?_) (fun k0=> ?_) <;> cbv
 · rw[hr] at k0; cases k0
 refine ag.by hP (m6 aT R.cd (by omega) (by omega)) ?_;cbv;refine Br.split (fun k1=> ?_) (fun k1=> ?_) <;> cbv
 · rw[ht] at k1; cases k1
 refine Br.dec (fun k2=> ?_) (fun k2=> ?_) <;> cbv
 · exfalso;have k2:waited<0:=k2;omega
 refine⟨by show R.period≠0; omega, ?_⟩;cbv;refine Ar.exact (t:=fun _=>waited.tdiv R.period) ?_ ?_ ?_
 · show -9223372036854775808≤waited.tdiv R.period;omega
 · show waited.tdiv R.period≤9223372036854775807;omega
 cbv;refine Ar.exact (t:=fun _=>aT - waited.tdiv R.period) ?_ ?_ ?_
 · show -9223372036854775808≤aT - waited.tdiv R.period;omega
 · show aT - waited.tdiv R.period≤9223372036854775807;omega
 cbv;refine⟨?_,trivial⟩;show(if aT - waited.tdiv R.period>0 then aT - waited.tdiv R.period else 0)=lvl R aT waited;unfold lvl
 split <;> split <;> omega
structure MB (R:br) (p:ax) (now:Int):Prop where
 rules:ca R=true
 sM:0≤now∧now≤1000000
 au:1≤p.au∧p.au≤R.size
 aT:aj p.aT 0 (R.cd - 1)=true
 since:0≤p.since∧p.since≤now
theorem p6 {R:br} {p:ax} {now:Int} (h:bz R p now=true):MB R p now:=by
 simp only[bz,Bool.and_eq_true] at h;obtain⟨h1,h2,_,_,_,_,h3,h4,h5,_⟩:=h;exact⟨h1,bF h2,bF h3,h4,bF h5⟩
def lx (R:br) (p:ax) (now:Int):Int:=if bz R p now=true then lvl R p.aT (now - p.since) else -1
theorem MC (R:br) (p:ax) (now:Int) (hs:R.ai.length≤aS) (x:Int) (hx:x=lx R p now):Spec Tryz.prog 241 [fT R,eA .aB p,iA now] (aM (iR fun _=>x)):=by
 refine aN aD Tryz.func241 rfl rfl (fr:=true) (fun _=>by kernel_rfl) fun P hP hA=> ?_;cbv;refine ag.by hP (FT R p now hs (bz R p now) rfl) ?_;cbv;refine Br.split (fun k0=> ?_) (fun k0=> ?_) <;> cbv
 · have k0:bz R p now=false:=by simpa using k0
   obtain rfl:x = -1:=hx.trans (if_neg (by rw[k0]; simp))
   repeat' first | exact trivial | refine⟨rfl, ?_⟩ | fail
 have k0:bz R p now=true:=by simpa using k0
 obtain rfl:x=lvl R p.aT (now - p.since):=hx.trans (if_pos k0);have hp:=p6 k0;have hr:=fv hp.rules;obtain⟨a1,a2⟩:=hp.sM;obtain⟨b1,b2⟩:=hp.since;obtain⟨c1,c2⟩:=hr.cd;obtain⟨d1,d2⟩:=hr.period;obtain⟨e1,e2⟩:=bF hp.aT;refine Ar.exact (t:=fun _=>now - p.since) ?_ ?_ ?_
 · show -9223372036854775808≤now - p.since;omega
 · show now - p.since≤9223372036854775807;omega
 cbv;refine ag.by hP (Mz R p.aT (now - p.since) (by omega) (by omega) (by omega) (by omega) (by omega)) ?_;cbv
 repeat' first | exact trivial | refine⟨rfl, ?_⟩ | fail
theorem MD (R:br) (p:ax) (now:Int) (hs:R.ai.length≤aS) (x:Int) (hx:x=lx R p now):Spec Tryz.prog 228 [fT R,eA .aB p,iA now] (aM (iR fun _=>x)):=by
 refine aN aD Tryz.func228 rfl rfl (fr:=true) (fun _=>by kernel_rfl) fun P hP hA=> ?_;cbv;refine ag.by hP (xE R p now hs (bz R p now) rfl) ?_;cbv;refine Br.split (fun k0=> ?_) (fun k0=> ?_) <;> cbv
 · have k0:bz R p now=false:=by simpa using k0
   obtain rfl:x = -1:=hx.trans (if_neg (by rw[k0]; simp))
   repeat' first | exact trivial | refine⟨rfl, ?_⟩ | fail
 have k0:bz R p now=true:=by simpa using k0
 obtain rfl:x=lvl R p.aT (now - p.since):=hx.trans (if_pos k0);have hp:=p6 k0;have hr:=fv hp.rules;obtain⟨a1,a2⟩:=hp.sM;obtain⟨b1,b2⟩:=hp.since;obtain⟨c1,c2⟩:=hr.cd;obtain⟨d1,d2⟩:=hr.period;obtain⟨e1,e2⟩:=bF hp.aT;refine Ar.exact (t:=fun _=>now - p.since) ?_ ?_ ?_
 · show -9223372036854775808≤now - p.since;omega
 · show now - p.since≤9223372036854775807;omega
 cbv;refine ag.by hP (MA R p.aT (now - p.since) hs hp.rules (by omega) (by omega) hp.aT) ?_;cbv
 repeat' first | exact trivial | refine⟨rfl, ?_⟩ | fail
theorem F1 (R:br) (t w:Int):0≤lvl R t w:=by
 unfold lvl; split <;> omega
theorem ME {R:br} {p:ax} {now:Int} (h:bz R p now=true):0≤lx R p now:=by
 rw[lx,if_pos h]; exact F1 _ _ _
theorem MF {R:br} {p:ax} {now:Int} (h:bz R p now=false):lx R p now = -1:=by
 rw[lx,if_neg (by rw[h]; simp)]
def eo (R:br) (p:ax) (now:Int):Bool:=bz R p now && p.st == 1
def jR (R:br) (p:ax) (now:Int):Entry:=⟨lx R p now,p.az,p.id,p.au⟩
def dj (R:br) (p:ax) (now:Int):Entry:=if eo R p now=true then jR R p now else default
def F2 (x:Unit→Entry):List Sh:=[.int .i64 fun _=>(x ()).lvl, .int .i64 fun _=>(x ()).az, .int .i64 fun _=>(x ()).bm, .int .i64 fun _=>(x ()).au]
theorem MG (R:br) (p:ax) (now:Int) (hs:R.ai.length≤aS) (x:Entry) (hx:x=dj R p now) (b:Bool) (hb:b=eo R p now):Spec Tryz.prog 178 [fT R,eA .aB p,iA now] (aM (.ba [(true,F2 fun _=>x),(false,[.bool fun _=>b])])):=by
 refine aN aD Tryz.func178 rfl rfl (fr:=true) (fun _=>by kernel_rfl) fun P hP hA=> ?_;cbv;refine ag.by hP (MC R p now hs (lx R p now) rfl) ?_;cbv;refine Br.dec (fun k0=> ?_) (fun k0=> ?_) <;> cbv
 · have k0:lx R p now<0:=k0
   have e:eo R p now=false:=by
     rcases hq:bz R p now with _ | _
     · simp[eo,hq]
     · have:=ME hq;omega
   obtain rfl:b=false:=hb.trans e;obtain rfl:x=default:=hx.trans (if_neg (by rw[e]; simp))
   repeat' first | exact trivial | refine⟨rfl, ?_⟩ | fail
 have k0:¬lx R p now<0:=k0
 have hq:bz R p now=true:=by
   rcases hq:bz R p now with _ | _
   · have:=MF hq;omega
   · rfl
 refine Br.split (fun k1=> ?_) (fun k1=> ?_) <;> cbv
 · have e:eo R p now=false:=by simp_all [eo]
   obtain rfl:b=false:=hb.trans e;obtain rfl:x=default:=hx.trans (if_neg (by rw[e]; simp))
   repeat' first | exact trivial | refine⟨rfl, ?_⟩ | fail
 have e:eo R p now=true:=by simp_all [eo]
 obtain rfl:b=true:=hb.trans e;obtain rfl:x=jR R p now:=hx.trans (if_pos e)
 repeat' first | exact trivial | refine⟨rfl, ?_⟩ | fail
theorem A8 (R:br) (p:ax) (now:Int) (hs:R.ai.length≤aS) (x:Entry) (hx:x=dj R p now) (b:Bool) (hb:b=eo R p now):Spec Tryz.prog 160 [fT R,eA .aB p,iA now] (aM (.ba [(true,F2 fun _=>x),(false,[.bool fun _=>b])])):=by
 refine aN aD Tryz.func160 rfl rfl (fr:=true) (fun _=>by kernel_rfl) fun P hP hA=> ?_;cbv;refine ag.by hP (xE R p now hs (bz R p now) rfl) ?_;cbv;refine Br.split (fun k0=> ?_) (fun k0=> ?_) <;> cbv
 · have e:eo R p now=false:=by simp_all [eo]
   obtain rfl:b=false:=hb.trans e;obtain rfl:x=default:=hx.trans (if_neg (by rw[e]; simp))
   repeat' first | exact trivial | refine⟨rfl, ?_⟩ | fail
 refine Br.split (fun k1=> ?_) (fun k1=> ?_) <;> cbv
 · have e:eo R p now=false:=by simp_all [eo]
   obtain rfl:b=false:=hb.trans e;obtain rfl:x=default:=hx.trans (if_neg (by rw[e]; simp))
   repeat' first | exact trivial | refine⟨rfl, ?_⟩ | fail
 have e:eo R p now=true:=by simp_all [eo]
 obtain rfl:b=true:=hb.trans e;obtain rfl:x=jR R p now:=hx.trans (if_pos e);refine ag.by hP (MD R p now hs (lx R p now) rfl) ?_;cbv
 repeat' first | exact trivial | refine⟨rfl, ?_⟩ | fail
theorem F3 (a b:Entry):Spec Tryz.prog 239 [eA .aH a,eA .aH b] (aM (bR fun _=>bd a b)):=by
 refine aN aD Tryz.func239 rfl rfl (fr:=true) (fun _=>by kernel_rfl) fun P hP hA=> ?_;cbv
 repeat' first
  | (refine Br.split (fun h=> ?_) (fun h=> ?_) <;> cbv)
  | fail
 all_goals refine⟨?_,trivial⟩
 all_goals simp_all [bd]
theorem F4 (a b:Entry):Spec Tryz.prog 185 [eA .aH a,eA .aH b] (aM (iR fun _=>if bd a b=true then -1 else if bd b a=true then 1 else 0)):=by
 refine aN aD Tryz.func185 rfl rfl (fr:=true) (fun _=>by kernel_rfl) fun P hP hA=> ?_;cbv;refine ag.by hP (xF a.lvl b.lvl) ?_;cbv;refine Br.split (fun h=> ?_) (fun h=> ?_) <;> cbv
 · refine⟨?_,trivial⟩;have h:(jQ a.lvl b.lvl != 0)=true:=h;show jQ a.lvl b.lvl=_;unfold jQ bd at *
   repeat' split at *
   all_goals simp_all <;> omega
 · refine ag.by hP (xF a.az b.az) ?_;cbv;refine⟨?_,trivial⟩;have h:(jQ a.lvl b.lvl != 0)=false:=h;show jQ a.az b.az=_;unfold jQ bd at *
   repeat' split at *
   all_goals simp_all <;> omega
theorem F5 (a b:Entry):Spec Tryz.prog 229 [eA .aH a,eA .aH b] (aM (bR fun _=>bd a b)):=by
 refine aN aD Tryz.func229 rfl rfl (fr:=true) (fun _=>by kernel_rfl) fun P hP hA=> ?_;cbv;refine ag.by hP (F4 a b) ?_;cbv;refine⟨?_,trivial⟩;show decide ((if bd a b=true then(-1:Int) else if bd b a=true then 1 else 0)<0)=bd a b;cases h1:bd a b <;> cases h2:bd b a <;> simp
theorem F6 (a b:ay):Spec Tryz.prog 240 [eA .aI a,eA .aI b] (aM (bR fun _=>bf a b)):=by
 refine aN aD Tryz.func240 rfl rfl (fr:=true) (fun _=>by kernel_rfl) fun P hP hA=> ?_;cbv
 repeat' first
  | (refine Br.split (fun h=> ?_) (fun h=> ?_) <;> cbv)
  | fail
 all_goals refine⟨?_,trivial⟩
 all_goals simp_all [bf]
theorem A9 (a b:ay):Spec Tryz.prog 187 [eA .aI a,eA .aI b] (aM (iR fun _=>if bf a b=true then -1 else if bf b a=true then 1 else 0)):=by
 refine aN aD Tryz.func187 rfl rfl (fr:=true) (fun _=>by kernel_rfl) fun P hP hA=> ?_;cbv;refine ag.by hP (xF a.tm b.tm) ?_;cbv;refine Br.split (fun h=> ?_) (fun h=> ?_) <;> cbv
 · refine⟨?_,trivial⟩;have h:(jQ a.tm b.tm != 0)=true:=h;show jQ a.tm b.tm=_;unfold jQ bf at *
   repeat' split at *
   all_goals simp_all <;> omega
 · refine ag.by hP (xF a.pid b.pid) ?_;cbv;refine⟨?_,trivial⟩;have h:(jQ a.tm b.tm != 0)=false:=h;show jQ a.pid b.pid=_;unfold jQ bf at *
   repeat' split at *
   all_goals simp_all <;> omega
def dX (p:ay):Bool:=aj p.tm 1 1000008 && aj p.pid 1 999
theorem A_ (p:ay):Spec Tryz.prog 199 [eA .aI p] (aM (bR fun _=>dX p)):=by
 refine aN aD Tryz.func199 rfl rfl (fr:=true) (fun _=>by kernel_rfl) fun P hP hA=> ?_;cbv
 repeat' first
  | (refine ag.by hP (cI p.tm 1 1000008) ?_; cbv)
  | (refine ag.by hP (cI p.pid 1 999) ?_; cbv)
  | (refine Br.split (fun h=> ?_) (fun h=> ?_) <;> cbv)
  | fail
 all_goals refine⟨?_,trivial⟩
 all_goals simp_all [dX]
end Go.Proofs.YtpklefhdkkegiaaGreat

