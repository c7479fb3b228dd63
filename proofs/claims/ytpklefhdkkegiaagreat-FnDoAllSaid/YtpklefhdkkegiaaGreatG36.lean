/- Parts of a proof. No conditions. -/

import Derived.Test.YtpklefhdkkegiaaGreatG35
import Derived.Test.YtpklefhdkkegiaaGreatG27
import Derived.Test.YtpklefhdkkegiaaGreatG28
import Derived.Test.YtpklefhdkkegiaaGreatG29
import Derived.Test.YtpklefhdkkegiaaGreatG30
import Derived.Test.YtpklefhdkkegiaaGreatG21
import Derived.Test.YtpklefhdkkegiaaGreatG34
set_option linter.unusedSimpArgs false
set_option linter.unusedVariables false
namespace Go.Proofs.YtpklefhdkkegiaaGreat
open Go
set_option maxRecDepth 100000
theorem Mm {h:ai} {q:bS} (hv:aU h q=0) (n1:¬q.kind=1) (n2:¬q.kind=2) (n3:¬q.kind=3) (n4:¬q.kind=4) (n5:¬q.kind=5) (n6:¬q.kind=6):¬ak q.kind 1 6=true:=fun e=>by
 have:=bD e;omega
def mz (h:ai) (q:bS):fw:=⟨ur h q,wi h q⟩
set_option maxHeartbeats 4000000 in
theorem Uz (h:ai) (q:bS) (hs:a_ h) (x:ai) (hx:x=jL h q) (y:fw) (hy:y=mz h q):Spec Tryz.prog 157 [cG h,eA .da q] (aG (.aS [(true,fb fun _=>x),(true,[.int .i64 fun _=>y.code, .own .int fun _=>y.ids])])):=by
 by_cases hv:aU h q=0
 rotate_left
 · obtain rfl:x=h:=hx.trans (if_neg hv);obtain rfl:y=⟨aU x q,[]⟩:=by rw[hy,mz,ur,wi,if_neg hv,if_neg hv]
   have k1:(aU x q != 0)=true:=by simpa using hv
   refine aF au Tryz.func157 rfl rfl (fr:=true) (fun _=>by kernel_rfl) fun P hP hA=> ?_;cbv;refine af.by hP (kg x hs) ?_;cbv;refine af.by hP (iY x q hs (aU x q) rfl) ?_;cbv;refine Br.split (fun k0=> ?_) (fun k0=> ?_) <;> cbv
   · repeat' first | exact trivial | refine⟨rfl, ?_⟩ | fail
   · have k0:(aU x q != 0)=false:=k0;rw[k1] at k0; cases k0
 have hx:=hx.trans (if_pos hv);have hy:y=⟨jw h q,kh h q⟩:=by rw[hy,mz,ur,wi,if_pos hv,if_pos hv]
 refine aF au Tryz.func157 rfl rfl (fr:=true) (fun _=>by kernel_rfl) fun P hP hA=> ?_;cbv;refine af.by hP (kg h hs) ?_;cbv;refine af.by hP (iY h q hs (aU h q) rfl) ?_;cbv;refine Br.split (fun k0=> ?_) (fun k0=> ?_) <;> cbv
 · have k0:(aU h q != 0)=true:=k0;exact absurd hv (by simpa using k0)
 refine Br.split (fun k1=> ?_) (fun k1=> ?_) <;> cbv
 · have k1:(q.kind == 1)=true:=k1;have k1:q.kind=1:=by simpa using k1
   obtain rfl:x=oo h q.id q.ag q.al q.aj q.aO:=hx.trans (by rw[stepOf,if_pos k1]);obtain rfl:y=⟨aU h (kP q.id q.ag q.al q.aj q.aO),[]⟩:=hy.trans (by rw[jw,if_pos k1,kh,if_pos (by rw[k1]; rfl)]);refine af.by hP (Ut h q.id q.ag q.al q.aj q.aO hs (oo h q.id q.ag q.al q.aj q.aO) rfl (aU h (kP q.id q.ag q.al q.aj q.aO)) rfl) ?_;cbv
   repeat' first | exact trivial | refine⟨rfl, ?_⟩ | fail
 have n1:¬q.kind=1:=by
   have k1:(q.kind == 1)=false:=k1;simpa using k1
 refine Br.split (fun k2=> ?_) (fun k2=> ?_) <;> cbv
 · have k2:(q.kind == 2)=true:=k2;have k2:q.kind=2:=by simpa using k2
   obtain rfl:x=oe h q.id:=hx.trans (by rw[stepOf,if_neg n1,if_pos k2]);obtain rfl:y=⟨aU h (jJ q.id),[]⟩:=hy.trans (by rw[jw,if_neg n1,if_pos k2,kh,if_pos (by rw[k2]; rfl)]);refine af.by hP (Up h q.id hs (oe h q.id) rfl (aU h (jJ q.id)) rfl) ?_;cbv
   repeat' first | exact trivial | refine⟨rfl, ?_⟩ | fail
 have n2:¬q.kind=2:=by
   have k2:(q.kind == 2)=false:=k2;simpa using k2
 refine Br.split (fun k3=> ?_) (fun k3=> ?_) <;> cbv
 · have k3:(q.kind == 3)=true:=k3;have k3:q.kind=3:=by simpa using k3
   obtain rfl:x=ot h q.ag q.aj:=hx.trans (by rw[stepOf,if_neg n1,if_neg n2,if_pos k3]);obtain rfl:y=⟨aU h (kN q.ag q.aj),[]⟩:=hy.trans (by rw[jw,if_neg n1,if_neg n2,if_pos k3,kh,if_pos (by rw[k3]; rfl)]);refine af.by hP (T4 h q.ag q.aj hs (ot h q.ag q.aj) rfl (aU h (kN q.ag q.aj)) rfl) ?_;cbv
   repeat' first | exact trivial | refine⟨rfl, ?_⟩ | fail
 have n3:¬q.kind=3:=by
   have k3:(q.kind == 3)=false:=k3;simpa using k3
 refine Br.split (fun k4=> ?_) (fun k4=> ?_) <;> cbv
 · have k4:(q.kind == 4)=true:=k4;have k4:q.kind=4:=by simpa using k4
   obtain rfl:x=oh h q.id:=hx.trans (by rw[stepOf,if_neg n1,if_neg n2,if_neg n3,if_pos k4]);obtain rfl:y=⟨aU h (kd q.id),[]⟩:=hy.trans (by rw[jw,if_neg n1,if_neg n2,if_neg n3,if_pos k4,kh,if_pos (by rw[k4]; rfl)]);refine af.by hP (Ur h q.id hs (oh h q.id) rfl (aU h (kd q.id)) rfl) ?_;cbv
   repeat' first | exact trivial | refine⟨rfl, ?_⟩ | fail
 have n4:¬q.kind=4:=by
   have k4:(q.kind == 4)=false:=k4;simpa using k4
 refine Br.split (fun k5=> ?_) (fun k5=> ?_) <;> cbv
 · have k5:(q.kind == 5)=true:=k5;have k5:q.kind=5:=by simpa using k5
   obtain rfl:x=om h q.id:=hx.trans (by rw[stepOf,if_neg n1,if_neg n2,if_neg n3,if_neg n4,if_pos k5]);obtain rfl:y=⟨aU h (ke q.id),[]⟩:=hy.trans (by rw[jw,if_neg n1,if_neg n2,if_neg n3,if_neg n4,if_pos k5,kh,if_pos (by rw[k5]; rfl)]);refine af.by hP (Ua h q.id hs (om h q.id) rfl (aU h (ke q.id)) rfl) ?_;cbv
   repeat' first | exact trivial | refine⟨rfl, ?_⟩ | fail
 have n5:¬q.kind=5:=by
   have k5:(q.kind == 5)=false:=k5;simpa using k5
 refine Br.split (fun k6=> ?_) (fun k6=> ?_) <;> cbv
 · have k6:(q.kind == 6)=true:=k6;have k6:q.kind=6:=by simpa using k6
   obtain rfl:x=ov h:=hx.trans (by rw[stepOf,if_neg n1,if_neg n2,if_neg n3,if_neg n4,if_neg n5,if_pos k6]);obtain rfl:y=⟨aU h ou,[]⟩:=hy.trans (by rw[jw,if_neg n1,if_neg n2,if_neg n3,if_neg n4,if_neg n5,if_pos k6,kh,if_pos (by rw[k6]; rfl)]);refine af.by hP (T7 h hs (ov h) rfl (aU h ou) rfl) ?_;cbv
   repeat' first | exact trivial | refine⟨rfl, ?_⟩ | fail
 have n6:¬q.kind=6:=by
   have k6:(q.kind == 6)=false:=k6;simpa using k6
 obtain rfl:x=eG h q.id:=hx.trans (by rw[stepOf,if_neg n1,if_neg n2,if_neg n3,if_neg n4,if_neg n5,if_neg n6]);have h7:=Mm hv n1 n2 n3 n4 n5 n6;obtain rfl:y=⟨aU h (eW q.id),iK h q.id⟩:=hy.trans (by rw[jw,if_neg n1,if_neg n2,if_neg n3,if_neg n4,if_neg n5,if_neg n6,kh,if_neg h7]);refine af.by hP (Uo h q.id hs (eG h q.id) rfl (aU h (eW q.id)) rfl (iK h q.id) rfl) ?_;cbv
 repeat' first | exact trivial | refine⟨rfl, ?_⟩ | fail
set_option maxHeartbeats 4000000 in
theorem FM (h:ai) (q:bS) (hs:a_ h) (x:ai) (hx:x=jL h q) (y:fw) (hy:y=mz h q):Spec Tryz.prog 31 [cG h,eA .da q] (aG (.aS [(true,fb fun _=>x),(true,[.int .i64 fun _=>y.code, .own .int fun _=>y.ids])])):=by
 by_cases hv:aU h q=0
 rotate_left
 · obtain rfl:x=h:=hx.trans (if_neg hv);obtain rfl:y=⟨aU x q,[]⟩:=by rw[hy,mz,ur,wi,if_neg hv,if_neg hv]
   have k1:(aU x q != 0)=true:=by simpa using hv
   refine aF au Tryz.func31 rfl rfl (fr:=true) (fun _=>by kernel_rfl) fun P hP hA=> ?_;cbv;refine af.by hP (jH x q hs (aU x q) rfl) ?_;cbv;refine Br.split (fun k0=> ?_) (fun k0=> ?_) <;> cbv
   · refine af.by hP (jI x hs) ?_;cbv
     repeat' first | exact trivial | refine⟨rfl, ?_⟩ | fail
   · have k0:(aU x q != 0)=false:=k0;rw[k1] at k0; cases k0
 have hx:=hx.trans (if_pos hv);have hy:y=⟨jw h q,kh h q⟩:=by rw[hy,mz,ur,wi,if_pos hv,if_pos hv]
 refine aF au Tryz.func31 rfl rfl (fr:=true) (fun _=>by kernel_rfl) fun P hP hA=> ?_;cbv;refine af.by hP (jH h q hs (aU h q) rfl) ?_;cbv;refine Br.split (fun k0=> ?_) (fun k0=> ?_) <;> cbv
 · have k0:(aU h q != 0)=true:=k0;exact absurd hv (by simpa using k0)
 refine Br.split (fun k1=> ?_) (fun k1=> ?_) <;> cbv
 · have k1:(q.kind == 1)=true:=k1;have k1:q.kind=1:=by simpa using k1
   obtain rfl:x=oo h q.id q.ag q.al q.aj q.aO:=hx.trans (by rw[stepOf,if_pos k1]);obtain rfl:y=⟨aU h (kP q.id q.ag q.al q.aj q.aO),[]⟩:=hy.trans (by rw[jw,if_pos k1,kh,if_pos (by rw[k1]; rfl)]);refine af.by hP (Uv h q.id q.ag q.al q.aj q.aO hs (oo h q.id q.ag q.al q.aj q.aO) rfl (aU h (kP q.id q.ag q.al q.aj q.aO)) rfl) ?_;cbv
   repeat' first
     | exact trivial
     | (refine⟨rfl, ?_⟩)
     | (refine Pz.mk ?_; cbv) | (refine aW.mk ?_ (by kernel_rfl) ?_; rotate_left; cbv; rotate_right) | refine⟨rfl, ?_⟩ | refine And.intro ?_ ?_ | exact rfl | fail
 have n1:¬q.kind=1:=by
   have k1:(q.kind == 1)=false:=k1;simpa using k1
 refine Br.split (fun k2=> ?_) (fun k2=> ?_) <;> cbv
 · have k2:(q.kind == 2)=true:=k2;have k2:q.kind=2:=by simpa using k2
   obtain rfl:x=oe h q.id:=hx.trans (by rw[stepOf,if_neg n1,if_pos k2]);obtain rfl:y=⟨aU h (jJ q.id),[]⟩:=hy.trans (by rw[jw,if_neg n1,if_pos k2,kh,if_pos (by rw[k2]; rfl)]);refine af.by hP (Uq h q.id hs (oe h q.id) rfl (aU h (jJ q.id)) rfl) ?_;cbv
   repeat' first
     | exact trivial
     | (refine⟨rfl, ?_⟩)
     | (refine Pz.mk ?_; cbv) | (refine aW.mk ?_ (by kernel_rfl) ?_; rotate_left; cbv; rotate_right) | refine⟨rfl, ?_⟩ | refine And.intro ?_ ?_ | exact rfl | fail
 have n2:¬q.kind=2:=by
   have k2:(q.kind == 2)=false:=k2;simpa using k2
 refine Br.split (fun k3=> ?_) (fun k3=> ?_) <;> cbv
 · have k3:(q.kind == 3)=true:=k3;have k3:q.kind=3:=by simpa using k3
   obtain rfl:x=ot h q.ag q.aj:=hx.trans (by rw[stepOf,if_neg n1,if_neg n2,if_pos k3]);obtain rfl:y=⟨aU h (kN q.ag q.aj),[]⟩:=hy.trans (by rw[jw,if_neg n1,if_neg n2,if_pos k3,kh,if_pos (by rw[k3]; rfl)]);refine af.by hP (T5 h q.ag q.aj hs (ot h q.ag q.aj) rfl (aU h (kN q.ag q.aj)) rfl) ?_;cbv
   repeat' first
     | exact trivial
     | (refine⟨rfl, ?_⟩)
     | (refine Pz.mk ?_; cbv) | (refine aW.mk ?_ (by kernel_rfl) ?_; rotate_left; cbv; rotate_right) | refine⟨rfl, ?_⟩ | refine And.intro ?_ ?_ | exact rfl | fail
 have n3:¬q.kind=3:=by
   have k3:(q.kind == 3)=false:=k3;simpa using k3
 refine Br.split (fun k4=> ?_) (fun k4=> ?_) <;> cbv
 · have k4:(q.kind == 4)=true:=k4;have k4:q.kind=4:=by simpa using k4
   obtain rfl:x=oh h q.id:=hx.trans (by rw[stepOf,if_neg n1,if_neg n2,if_neg n3,if_pos k4]);obtain rfl:y=⟨aU h (kd q.id),[]⟩:=hy.trans (by rw[jw,if_neg n1,if_neg n2,if_neg n3,if_pos k4,kh,if_pos (by rw[k4]; rfl)]);refine af.by hP (Us h q.id hs (oh h q.id) rfl (aU h (kd q.id)) rfl) ?_;cbv
   repeat' first
     | exact trivial
     | (refine⟨rfl, ?_⟩)
     | (refine Pz.mk ?_; cbv) | (refine aW.mk ?_ (by kernel_rfl) ?_; rotate_left; cbv; rotate_right) | refine⟨rfl, ?_⟩ | refine And.intro ?_ ?_ | exact rfl | fail
 have n4:¬q.kind=4:=by
   have k4:(q.kind == 4)=false:=k4;simpa using k4
 refine Br.split (fun k5=> ?_) (fun k5=> ?_) <;> cbv
 · have k5:(q.kind == 5)=true:=k5;have k5:q.kind=5:=by simpa using k5
   obtain rfl:x=om h q.id:=hx.trans (by rw[stepOf,if_neg n1,if_neg n2,if_neg n3,if_neg n4,if_pos k5]);obtain rfl:y=⟨aU h (ke q.id),[]⟩:=hy.trans (by rw[jw,if_neg n1,if_neg n2,if_neg n3,if_neg n4,if_pos k5,kh,if_pos (by rw[k5]; rfl)]);refine af.by hP (Ub h q.id hs (om h q.id) rfl (aU h (ke q.id)) rfl) ?_;cbv
   repeat' first
     | exact trivial
     | (refine⟨rfl, ?_⟩)
     | (refine Pz.mk ?_; cbv) | (refine aW.mk ?_ (by kernel_rfl) ?_; rotate_left; cbv; rotate_right) | refine⟨rfl, ?_⟩ | refine And.intro ?_ ?_ | exact rfl | fail
 have n5:¬q.kind=5:=by
   have k5:(q.kind == 5)=false:=k5;simpa using k5
 refine Br.split (fun k6=> ?_) (fun k6=> ?_) <;> cbv
 · have k6:(q.kind == 6)=true:=k6;have k6:q.kind=6:=by simpa using k6
   obtain rfl:x=ov h:=hx.trans (by rw[stepOf,if_neg n1,if_neg n2,if_neg n3,if_neg n4,if_neg n5,if_pos k6]);obtain rfl:y=⟨aU h ou,[]⟩:=hy.trans (by rw[jw,if_neg n1,if_neg n2,if_neg n3,if_neg n4,if_neg n5,if_pos k6,kh,if_pos (by rw[k6]; rfl)]);refine af.by hP (T8 h hs (ov h) rfl (aU h ou) rfl) ?_;cbv
   repeat' first
     | exact trivial
     | (refine⟨rfl, ?_⟩)
     | (refine Pz.mk ?_; cbv) | (refine aW.mk ?_ (by kernel_rfl) ?_; rotate_left; cbv; rotate_right) | refine⟨rfl, ?_⟩ | refine And.intro ?_ ?_ | exact rfl | fail
 have n6:¬q.kind=6:=by
   have k6:(q.kind == 6)=false:=k6;simpa using k6
 obtain rfl:x=eG h q.id:=hx.trans (by rw[stepOf,if_neg n1,if_neg n2,if_neg n3,if_neg n4,if_neg n5,if_neg n6]);have h7:=Mm hv n1 n2 n3 n4 n5 n6;obtain rfl:y=⟨aU h (eW q.id),iK h q.id⟩:=hy.trans (by rw[jw,if_neg n1,if_neg n2,if_neg n3,if_neg n4,if_neg n5,if_neg n6,kh,if_neg h7]);refine af.by hP (FL h q.id hs (eG h q.id) rfl (aU h (eW q.id)) rfl (iK h q.id) rfl) ?_;cbv
 repeat' first
   | exact trivial
   | (refine⟨rfl, ?_⟩)
   | (refine Pz.mk ?_; cbv) | (refine aW.mk ?_ (by kernel_rfl) ?_; rotate_left; cbv; rotate_right) | refine⟨rfl, ?_⟩ | refine And.intro ?_ ?_ | exact rfl | fail
def fg:ai→List bS→ai
 | h,[]=>h
 | h,q::qs=>fg (jL h q) qs
def mA:ai→List bS→List fw
 | _,[]=>[]
 | h,q::qs=>mz h q::mA (jL h q) qs
theorem FT:∀(qs rs:List bS) (h:ai),fg h (qs++rs)=fg (fg h qs) rs
 | [],_,_=>rfl
 | _::qs,rs,_=>FT qs rs _
theorem FU:∀(qs rs:List bS) (h:ai),mA h (qs++rs)=mA h qs++mA (fg h qs) rs
 | [],_,_=>rfl
 | q::qs,rs,h=>congrArg (mz h q:: ·) (FU qs rs _)
theorem U7 (h:ai) {qs:List bS} {i:Nat} (hi:i<qs.length):fg h (qs.take (i+1))=jL (fg h (qs.take i)) qs[i]:=by
 rw[take_one hi,FT]; rfl
theorem U8 (h:ai) {qs:List bS} {i:Nat} (hi:i<qs.length):mA h (qs.take (i+1))=mA h (qs.take i) ++ [mz (fg h (qs.take i)) qs[i]]:=by
 rw[take_one hi,FU]; rfl
theorem yP:∀(qs:List bS) {h:ai},a_ h→a_ (fg h qs)
 | [],_,hs=>hs
 | q::qs,_,hs=>yP qs (Bx hs q)
theorem yQ:∀(qs:List bS) (h:ai),(mA h qs).length=qs.length
 | [],_=>rfl
 | _::qs,_=>congrArg (· + 1) (yQ qs _)
set_option maxHeartbeats 4000000 in
theorem FV (h:ai) (qs:List bS) (hs:a_ h) (hq:qs.length≤aN) (x:ai) (hx:x=fg h qs) (y:List fw) (hy:y=mA h qs):Spec Tryz.prog 41 [cG h,lA .da qs] (aG (.aS [(true,fb fun _=>x),(false,[.own .rep fun _=>y])])):=by
 have hn:qs.length≤1048576:=hq;refine aF au Tryz.func41 rfl rfl (fr:=true) (fun _=>by kernel_rfl) fun P hP hA=> ?_;cbv;refine af.by hP (jI h hs) ?_;cbv;refine aR.by (X:=Nat) (fun i=>[(4,pN 0),(6,pN 1),(7,oN 7),(14,lA .da qs),(15,nT fun _=>qs.length),(16,nT fun _=>i)]) (fun i=>[(0, .box [.nil, .lf (.int .i64 fun _=>0), .lf (.int .i64 fun _=>0), .lf (.int .i64 fun _=>0), .lf (.int .i64 fun _=>0), .lf (.int .i64 fun _=>0), .lf (.int .i64 fun _=>0), .lf (.int .i64 fun _=>0), .lf (.int .i64 fun _=>0), .lf (.int .i64 fun _=>0), .lf (.int .i64 fun _=>0), .nil, .nil, .nil, .nil]),(1, .box [.own 2, .lf (.int .i64 fun _=>(fg h (qs.take i)).rules.bX), .lf (.int .i64 fun _=>(fg h (qs.take i)).rules.room), .lf (.int .i64 fun _=>(fg h (qs.take i)).rules.size), .lf (.int .i64 fun _=>(fg h (qs.take i)).rules.period), .lf (.int .i64 fun _=>(fg h (qs.take i)).rules.bE), .lf (.int .i64 fun _=>(fg h (qs.take i)).rules.rest), .lf (.int .i64 fun _=>(fg h (qs.take i)).rules.tries), .lf (.int .i64 fun _=>(fg h (qs.take i)).rules.bm), .lf (.int .i64 fun _=>(fg h (qs.take i)).now), .lf (.int .i64 fun _=>(fg h (qs.take i)).aA), .own 3, .own 4, .own 5, .own 6]),(2,aH .int fun _=>(fg h (qs.take i)).rules.seats),(3,aH .aE fun _=>(fg h (qs.take i)).ae),(4,aH .ag fun _=>(fg h (qs.take i)).cabins),(5,aH .int fun _=>(fg h (qs.take i)).todo),(6,aH .int fun _=>(fg h (qs.take i)).aq),(7,aH .rep fun _=>mA h (qs.take i))]) (fun i=>i≤qs.length) (fun i _=>qs.length - i) 0 (Nat.zero_le _) ?_ ?_
 · cbv
   repeat' first | exact trivial | refine⟨rfl, ?_⟩ | fail
 · intro i hi;cbv;refine Br.dec (fun h2=> ?_) (fun h2=> ?_) <;> cbv
   · have h2:i<qs.length:=by simpa using h2
     have ob:((mA h (qs.take i)).length+1)*32≤140737488355328:=by rw[yQ,List.length_take]; omega
     repeat' first
      | exact trivial
      | (refine af.by hP (FM (fg h (qs.take i)) qs[i] (yP _ hs) (jL (fg h (qs.take i)) qs[i]) rfl (mz (fg h (qs.take i)) qs[i]) rfl) ?_; cbv)
      | (refine Ix.mk qs[i] (by simp) (get_cast qs h2) ?_; cbv)
      | (refine Ob.mk (ob) ?_; cbv)
      | (refine Ar.exact (by(try simp only[nc] at *); omega) (by(try simp only[nc] at *); omega) ?_; cbv)
      | (refine Pz.mk ?_; cbv) | (refine aW.mk ?_ (by kernel_rfl) ?_; rotate_left; cbv; rotate_right) | refine⟨rfl, ?_⟩ | refine And.intro ?_ ?_ | exact rfl | fail
     all_goals
      refine aL.by (i+1) ?_ ?_ ?_
      · show qs.length - (i+1)<qs.length - i;omega
      · exact h2
      · rw[U7 h h2,U8 h h2];cbv
        repeat' first | exact trivial | refine⟨rfl, ?_⟩ | fail
   · have h2:qs.length≤i:=by simp at h2; omega
     rw[List.take_of_length_le h2,←hx,←hy]
     repeat' first | exact trivial | refine⟨rfl, ?_⟩ | fail
end Go.Proofs.YtpklefhdkkegiaaGreat

