/- Parts of a proof. No conditions. -/

import Derived.Test.YtpklefhdkkegiaaGreatG35
import Derived.Test.YtpklefhdkkegiaaGreatG27
import Derived.Test.YtpklefhdkkegiaaGreatG28
import Derived.Test.YtpklefhdkkegiaaGreatG29
import Derived.Test.YtpklefhdkkegiaaGreatG30
import Derived.Test.YtpklefhdkkegiaaGreatG21
import Derived.Test.YtpklefhdkkegiaaGreatG34
set_option linter.unusedSimpArgs false
set_option linter.unusedVariables false
namespace Go.Proofs.YtpklefhdkkegiaaGreat
open Go
set_option maxRecDepth 100000
theorem QF {h:al} {q:cf} (hv:bx h q=0) (n1:¬q.kind=1) (n2:¬q.kind=2) (n3:¬q.kind=3) (n4:¬q.kind=4) (n5:¬q.kind=5) (n6:¬q.kind=6):¬aj q.kind 1 6=true:=fun e=>by
 have:=bF e;omega
def yp (h:al) (q:cf):vX:=⟨vW h q,Cw h q⟩
set_option maxHeartbeats 4000000 in
theorem QG (h:al) (q:cf) (hs:bJ h) (x:al) (hx:x=yo h q) (y:vX) (hy:y=yp h q):Spec Tryz.prog 31 [dV h,eA .fC q] (aM (.ba [(true,jq fun _=>x),(true,[.int .i64 fun _=>y.code, .own .int fun _=>y.ids])])):=by
 by_cases hv:bx h q=0
 rotate_left
 · obtain rfl:x=h:=hx.trans (if_neg hv);obtain rfl:y=⟨bx x q,[]⟩:=by rw[hy,yp,vW,Cw,if_neg hv,if_neg hv]
   have k1:(bx x q != 0)=true:=by simpa using hv
   refine aN aD Tryz.func31 rfl rfl (fr:=true) (fun _=>by kernel_rfl) fun P hP hA=> ?_;cbv;refine ag.by hP (jw x q hs (bx x q) rfl) ?_;cbv;refine Br.split (fun k0=> ?_) (fun k0=> ?_) <;> cbv
   · refine ag.by hP (iE x hs) ?_;cbv
     repeat' first | exact trivial | refine⟨rfl, ?_⟩ | fail
   · have k0:(bx x q != 0)=false:=k0;rw[k1] at k0; cases k0
 have hx:=hx.trans (if_pos hv);have hy:y=⟨mm h q,oL h q⟩:=by rw[hy,yp,vW,Cw,if_pos hv,if_pos hv]
 refine aN aD Tryz.func31 rfl rfl (fr:=true) (fun _=>by kernel_rfl) fun P hP hA=> ?_;cbv;refine ag.by hP (jw h q hs (bx h q) rfl) ?_;cbv;refine Br.split (fun k0=> ?_) (fun k0=> ?_) <;> cbv
 · have k0:(bx h q != 0)=true:=k0;exact absurd hv (by simpa using k0)
 refine Br.split (fun k1=> ?_) (fun k1=> ?_) <;> cbv
 · have k1:(q.kind == 1)=true:=k1;have k1:q.kind=1:=by simpa using k1
   obtain rfl:x=tp h q.id q.ah q.aq q.au q.aT:=hx.trans (by rw[stepOf,if_pos k1]);obtain rfl:y=⟨bx h (ns q.id q.ah q.aq q.au q.aT),[]⟩:=hy.trans (by rw[mm,if_pos k1,oL,if_pos (by rw[k1]; rfl)]);refine ag.by hP (QE h q.id q.ah q.aq q.au q.aT hs (tp h q.id q.ah q.aq q.au q.aT) rfl (bx h (ns q.id q.ah q.aq q.au q.aT)) rfl) ?_;cbv
   repeat' first
     | exact trivial
     | (refine⟨rfl, ?_⟩)
     | (refine Pz.mk ?_; cbv) | (refine bp.mk ?_ (by kernel_rfl) ?_; rotate_left; cbv; rotate_right) | refine⟨rfl, ?_⟩ | refine And.intro ?_ ?_ | exact rfl | fail
 have n1:¬q.kind=1:=by
   have k1:(q.kind == 1)=false:=k1;simpa using k1
 refine Br.split (fun k2=> ?_) (fun k2=> ?_) <;> cbv
 · have k2:(q.kind == 2)=true:=k2;have k2:q.kind=2:=by simpa using k2
   obtain rfl:x=th h q.id:=hx.trans (by rw[stepOf,if_neg n1,if_pos k2]);obtain rfl:y=⟨bx h (lF q.id),[]⟩:=hy.trans (by rw[mm,if_neg n1,if_pos k2,oL,if_pos (by rw[k2]; rfl)]);refine ag.by hP (QC h q.id hs (th h q.id) rfl (bx h (lF q.id)) rfl) ?_;cbv
   repeat' first
     | exact trivial
     | (refine⟨rfl, ?_⟩)
     | (refine Pz.mk ?_; cbv) | (refine bp.mk ?_ (by kernel_rfl) ?_; rotate_left; cbv; rotate_right) | refine⟨rfl, ?_⟩ | refine And.intro ?_ ?_ | exact rfl | fail
 have n2:¬q.kind=2:=by
   have k2:(q.kind == 2)=false:=k2;simpa using k2
 refine Br.split (fun k3=> ?_) (fun k3=> ?_) <;> cbv
 · have k3:(q.kind == 3)=true:=k3;have k3:q.kind=3:=by simpa using k3
   obtain rfl:x=tq h q.ah q.au:=hx.trans (by rw[stepOf,if_neg n1,if_neg n2,if_pos k3]);obtain rfl:y=⟨bx h (oJ q.ah q.au),[]⟩:=hy.trans (by rw[mm,if_neg n1,if_neg n2,if_pos k3,oL,if_pos (by rw[k3]; rfl)]);refine ag.by hP (P8 h q.ah q.au hs (tq h q.ah q.au) rfl (bx h (oJ q.ah q.au)) rfl) ?_;cbv
   repeat' first
     | exact trivial
     | (refine⟨rfl, ?_⟩)
     | (refine Pz.mk ?_; cbv) | (refine bp.mk ?_ (by kernel_rfl) ?_; rotate_left; cbv; rotate_right) | refine⟨rfl, ?_⟩ | refine And.intro ?_ ?_ | exact rfl | fail
 have n3:¬q.kind=3:=by
   have k3:(q.kind == 3)=false:=k3;simpa using k3
 refine Br.split (fun k4=> ?_) (fun k4=> ?_) <;> cbv
 · have k4:(q.kind == 4)=true:=k4;have k4:q.kind=4:=by simpa using k4
   obtain rfl:x=tj h q.id:=hx.trans (by rw[stepOf,if_neg n1,if_neg n2,if_neg n3,if_pos k4]);obtain rfl:y=⟨bx h (np q.id),[]⟩:=hy.trans (by rw[mm,if_neg n1,if_neg n2,if_neg n3,if_pos k4,oL,if_pos (by rw[k4]; rfl)]);refine ag.by hP (QD h q.id hs (tj h q.id) rfl (bx h (np q.id)) rfl) ?_;cbv
   repeat' first
     | exact trivial
     | (refine⟨rfl, ?_⟩)
     | (refine Pz.mk ?_; cbv) | (refine bp.mk ?_ (by kernel_rfl) ?_; rotate_left; cbv; rotate_right) | refine⟨rfl, ?_⟩ | refine And.intro ?_ ?_ | exact rfl | fail
 have n4:¬q.kind=4:=by
   have k4:(q.kind == 4)=false:=k4;simpa using k4
 refine Br.split (fun k5=> ?_) (fun k5=> ?_) <;> cbv
 · have k5:(q.kind == 5)=true:=k5;have k5:q.kind=5:=by simpa using k5
   obtain rfl:x=tn h q.id:=hx.trans (by rw[stepOf,if_neg n1,if_neg n2,if_neg n3,if_neg n4,if_pos k5]);obtain rfl:y=⟨bx h (nq q.id),[]⟩:=hy.trans (by rw[mm,if_neg n1,if_neg n2,if_neg n3,if_neg n4,if_pos k5,oL,if_pos (by rw[k5]; rfl)]);refine ag.by hP (Qh h q.id hs (tn h q.id) rfl (bx h (nq q.id)) rfl) ?_;cbv
   repeat' first
     | exact trivial
     | (refine⟨rfl, ?_⟩)
     | (refine Pz.mk ?_; cbv) | (refine bp.mk ?_ (by kernel_rfl) ?_; rotate_left; cbv; rotate_right) | refine⟨rfl, ?_⟩ | refine And.intro ?_ ?_ | exact rfl | fail
 have n5:¬q.kind=5:=by
   have k5:(q.kind == 5)=false:=k5;simpa using k5
 refine Br.split (fun k6=> ?_) (fun k6=> ?_) <;> cbv
 · have k6:(q.kind == 6)=true:=k6;have k6:q.kind=6:=by simpa using k6
   obtain rfl:x=tu h:=hx.trans (by rw[stepOf,if_neg n1,if_neg n2,if_neg n3,if_neg n4,if_neg n5,if_pos k6]);obtain rfl:y=⟨bx h rF,[]⟩:=hy.trans (by rw[mm,if_neg n1,if_neg n2,if_neg n3,if_neg n4,if_neg n5,if_pos k6,oL,if_pos (by rw[k6]; rfl)]);refine ag.by hP (Qd h hs (tu h) rfl (bx h rF) rfl) ?_;cbv
   repeat' first
     | exact trivial
     | (refine⟨rfl, ?_⟩)
     | (refine Pz.mk ?_; cbv) | (refine bp.mk ?_ (by kernel_rfl) ?_; rotate_left; cbv; rotate_right) | refine⟨rfl, ?_⟩ | refine And.intro ?_ ?_ | exact rfl | fail
 have n6:¬q.kind=6:=by
   have k6:(q.kind == 6)=false:=k6;simpa using k6
 obtain rfl:x=tz h q.id:=hx.trans (by rw[stepOf,if_neg n1,if_neg n2,if_neg n3,if_neg n4,if_neg n5,if_neg n6]);have h7:=QF hv n1 n2 n3 n4 n5 n6;obtain rfl:y=⟨bx h (jc q.id),qw h q.id⟩:=hy.trans (by rw[mm,if_neg n1,if_neg n2,if_neg n3,if_neg n4,if_neg n5,if_neg n6,oL,if_neg h7]);refine ag.by hP (QB h q.id hs (tz h q.id) rfl (bx h (jc q.id)) rfl (qw h q.id) rfl) ?_;cbv
 repeat' first
   | exact trivial
   | (refine⟨rfl, ?_⟩)
   | (refine Pz.mk ?_; cbv) | (refine bp.mk ?_ (by kernel_rfl) ?_; rotate_left; cbv; rotate_right) | refine⟨rfl, ?_⟩ | refine And.intro ?_ ?_ | exact rfl | fail
end Go.Proofs.YtpklefhdkkegiaaGreat

