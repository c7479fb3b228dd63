/- Parts of a proof. No conditions. -/

import Derived.Test.YtpklefhdkkegiaaGreatG26
import Derived.Test.YtpklefhdkkegiaaGreatG25
set_option linter.unusedSimpArgs false
set_option linter.unusedVariables false
namespace Go.Proofs.YtpklefhdkkegiaaGreat
open Go
set_option maxRecDepth 100000
set_option maxHeartbeats 4000000 in
theorem QC (h :al) (id:Int) (hs:bJ h) (x:al) (hx:x=th h id) (c:Int) (hc:c=bx h (lF id)):Spec Tryz.prog 89 [dV h,iA id] (aM (.ba [(true,jq fun _=>x),(false,[.int .i64 fun _=>c])])):=by
 by_cases hv:bx h (lF id)=0
 rotate_left
 · obtain rfl:x=h:=hx.trans (if_neg hv);have k1:(c != 0)=true:=by rw[hc]; simpa using hv
   refine aN aD Tryz.func89 rfl rfl (fr:=true) (fun _=>by kernel_rfl) fun P hP hA=> ?_;cbv;refine ag.by hP (iE x hs) ?_;cbv;refine ag.by hP (jw x (lF id) hs c hc) ?_;cbv;refine Br.split (fun k0=> ?_) (fun k0=> ?_) <;> cbv
   · repeat' first | exact trivial | refine⟨rfl, ?_⟩ | fail
   · have k0:(c != 0)=false:=k0;rw[k1] at k0; cases k0
 have hx:=hx.trans (if_pos hv);obtain⟨i,k,p,cb,o,rfl,ep⟩:=IB hv;rw[ep] at hx;have hp:ln (aE h p.ah):=by rw[o.mi]; exact hs.2.2.1.2 cb (List.mem_of_getElem? o.hk)
 have hf:=o.aq;have fQ:0≤p.ah∧p.ah<(h.cabins.length:Int):=o.tg;refine aN aD Tryz.func89 rfl rfl (fr:=true) (fun _=>by kernel_rfl) fun P hP hA=> ?_;cbv;refine ag.by hP (iE h hs) ?_;cbv;refine ag.by hP (jw h (lF p.id) hs c hc) ?_;cbv;refine Br.split (fun k0=> ?_) (fun k0=> ?_) <;> cbv
 · have k0:(c != 0)=true:=k0;have k0:¬c=0:=by simpa using k0
   exact absurd (hc.trans hv) k0
 have k0:(c != 0)=false:=k0;obtain rfl:c=0:=by simpa using k0
 have st:p.st=1∨p.st=2:=(qn o.ok).st;apply gz
 · intro hk
   repeat' first
     | exact trivial
     | (refine ag.by hP (m9 h p.id (i:Int) o.at_.symm) ?_; cbv)
     | (refine Ix.mk (p) (Int.natCast_nonneg i) (o.hi) ?_; cbv)
     | (refine Pz.mk ?_; cbv) | (refine bp.mk ?_ (by kernel_rfl) ?_; rotate_left; cbv; rotate_right) | refine⟨rfl, ?_⟩ | refine And.intro ?_ ?_ | exact rfl | fail
   all_goals exact hk
 repeat' first
   | exact trivial
   | (refine Ob.mk (fQ) ?_; cbv)
   | (refine Pz.mk ?_; cbv) | (refine bp.mk ?_ (by kernel_rfl) ?_; rotate_left; cbv; rotate_right) | refine⟨rfl, ?_⟩ | refine And.intro ?_ ?_ | exact rfl | fail
 all_goals
   refine Br.split (fun h3=> ?_) (fun h3=> ?_) <;> cbv
   · have h3 :(p.st == 1)=true:=h3;have h3:¬p.st=2:=fun e=>by rw[e] at h3; cases h3
     repeat' first
       | exact trivial
       | (refine ag.by hP (Ho (aE h p.ah).row p.id hp.1 (iZ (aE h p.ah).row p.id) rfl (decide (0≤dx (aE h p.ah).row p.id)) rfl) ?_; cbv)
       | (refine Ob.mk (rfl) ?_; cbv)
       | (refine Sv.mk (fun _=>(ml h p).cabins) (rfl) ?_; cbv)
       | (refine Pz.mk ?_; cbv) | (refine bp.mk ?_ (by kernel_rfl) ?_; rotate_left; cbv; rotate_right) | refine⟨rfl, ?_⟩ | refine And.intro ?_ ?_ | exact rfl | fail
     all_goals
       refine Br.split (fun h4=> ?_) (fun h4=> ?_) <;> cbv
       · have h4:(p.aq != -1)=true:=h4;have h4:p.aq≠ -1:=by simpa using h4
         have lK:=vU hf h4;have nt:0≤p.aq∧p.aq<((ml h p).cabins.length:Int):=yn lK;obtain rfl:x=bU {ml h p with ae:=fX h.ae p.id} p.aq (kH (aE (ml h p) p.aq) p.au):=hx.trans (by rw[vT,if_neg h3]; exact yk h4);apply gz
         · intro hk
           repeat' first
            | exact trivial
            | (refine Ob.mk (nt) ?_; cbv)
            | (refine ag.by hP (xT (aE (ml h p) p.aq).ai p.au (bW (aE (ml h p) p.aq).ai p.au 0 0 0 (-1)) rfl (bS (aE (ml h p) p.aq).ai p.au 0 0 0 (-1)) rfl) ?_; cbv)
            | (refine Sv.mk (fun _=>(bU (ml h p) p.aq (kH (aE (ml h p) p.aq) p.au)).cabins) (rfl) ?_; cbv)
            | (refine Pz.mk ?_; cbv) | (refine bp.mk ?_ (by kernel_rfl) ?_; rotate_left; cbv; rotate_right) | refine⟨rfl, ?_⟩ | refine And.intro ?_ ?_ | exact rfl | fail
           all_goals exact hk
         repeat' first
           | exact trivial
           | (refine ag.by hP (s6 h.ae p.id hs.2.1 (fX h.ae p.id) rfl) ?_; cbv)
           | (refine Pz.mk ?_; cbv) | (refine bp.mk ?_ (by kernel_rfl) ?_; rotate_left; cbv; rotate_right) | refine⟨rfl, ?_⟩ | refine And.intro ?_ ?_ | exact rfl | fail
       · have h4:(p.aq != -1)=false:=h4;have h4:p.aq = -1:=by simpa using h4
         obtain rfl:x = {ml h p with ae:=fX h.ae p.id}:=hx.trans (by rw[vT,if_neg h3]; exact yl h4)
         repeat' first
           | exact trivial
           | (refine ag.by hP (s6 h.ae p.id hs.2.1 (fX h.ae p.id) rfl) ?_; cbv)
           | (refine Pz.mk ?_; cbv) | (refine bp.mk ?_ (by kernel_rfl) ?_; rotate_left; cbv; rotate_right) | refine⟨rfl, ?_⟩ | refine And.intro ?_ ?_ | exact rfl | fail
   · have h3 :(p.st == 1)=false:=h3;have h3:p.st=2:=st.resolve_left (fun e=>by rw[e] at h3; cases h3)
     let c1:bh:={aE h p.ah with spoke:=iK (aE h p.ah).spoke (eB p)}
     have e1:aE (bU h p.ah c1) p.ah=c1:=rG fQ;have e2:(bU h p.ah c1).cabins.set p.ah.toNat {aE (bU h p.ah c1) p.ah with ai:=bW (aE (bU h p.ah c1) p.ah).ai p.au 1 (-1) 0 0} = (dE h p).cabins:=by rw[e1]; exact vS
     apply gz
     · intro hk
       repeat' first
         | exact trivial
         | (refine ag.by hP (xX (aE h p.ah).spoke (eB p) hp.2 (iK (aE h p.ah).spoke (eB p)) rfl (i_ (aE h p.ah).spoke (eB p)) rfl) ?_; cbv)
         | (refine Ob.mk (rfl) ?_; cbv)
         | (refine Sv.mk (fun _=>(bU h p.ah c1).cabins) (rfl) ?_; cbv;(repeat (refine Pz.mk ?_; cbv)); exact hk)
         | (refine Pz.mk ?_; cbv) | (refine bp.mk ?_ (by kernel_rfl) ?_; rotate_left; cbv; rotate_right) | refine⟨rfl, ?_⟩ | refine And.intro ?_ ?_ | exact rfl | fail
     apply gz
     · intro hk
       repeat' first
         | exact trivial
         | (refine ag.by hP (BE (aE (bU h p.ah c1) p.ah).ai p.au (bW (aE (bU h p.ah c1) p.ah).ai p.au 1 (-1) 0 0) rfl (bS (aE (bU h p.ah c1) p.ah).ai p.au 1 (-1) 0 0) rfl) ?_; cbv)
         | (refine Ob.mk (rfl) ?_; cbv)
         | (refine Sv.mk (fun _=>(dE h p).cabins) (e2) ?_; cbv;(repeat (refine Pz.mk ?_; cbv)); exact hk)
         | (refine Pz.mk ?_; cbv) | (refine bp.mk ?_ (by kernel_rfl) ?_; rotate_left; cbv; rotate_right) | refine⟨rfl, ?_⟩ | refine And.intro ?_ ?_ | exact rfl | fail
     repeat' first
       | exact trivial
       | (refine ag.by hP (rr h.todo p.ah hs.2.2.2.1 (fj h.todo p.ah) rfl) ?_; cbv)
       | (refine Pz.mk ?_; cbv) | (refine bp.mk ?_ (by kernel_rfl) ?_; rotate_left; cbv; rotate_right) | refine⟨rfl, ?_⟩ | refine And.intro ?_ ?_ | exact rfl | fail
     all_goals
       refine Br.split (fun h4=> ?_) (fun h4=> ?_) <;> cbv
       · have h4:(p.aq != -1)=true:=h4;have h4:p.aq≠ -1:=by simpa using h4
         have lK:=vU hf h4;have nt:0≤p.aq∧p.aq<((nr h p).cabins.length:Int):=yn lK;obtain rfl:x=bU {nr h p with ae:=fX h.ae p.id} p.aq (kH (aE (nr h p) p.aq) p.au):=hx.trans (by rw[vT,if_pos h3]; exact yk h4);apply gz
         · intro hk
           repeat' first
            | exact trivial
            | (refine Ob.mk (nt) ?_; cbv)
            | (refine ag.by hP (xT (aE (nr h p) p.aq).ai p.au (bW (aE (nr h p) p.aq).ai p.au 0 0 0 (-1)) rfl (bS (aE (nr h p) p.aq).ai p.au 0 0 0 (-1)) rfl) ?_; cbv)
            | (refine Sv.mk (fun _=>(bU (nr h p) p.aq (kH (aE (nr h p) p.aq) p.au)).cabins) (rfl) ?_; cbv)
            | (refine Pz.mk ?_; cbv) | (refine bp.mk ?_ (by kernel_rfl) ?_; rotate_left; cbv; rotate_right) | refine⟨rfl, ?_⟩ | refine And.intro ?_ ?_ | exact rfl | fail
           all_goals exact hk
         repeat' first
           | exact trivial
           | (refine ag.by hP (s6 h.ae p.id hs.2.1 (fX h.ae p.id) rfl) ?_; cbv)
           | (refine Pz.mk ?_; cbv) | (refine bp.mk ?_ (by kernel_rfl) ?_; rotate_left; cbv; rotate_right) | refine⟨rfl, ?_⟩ | refine And.intro ?_ ?_ | exact rfl | fail
       · have h4:(p.aq != -1)=false:=h4;have h4:p.aq = -1:=by simpa using h4
         obtain rfl:x = {nr h p with ae:=fX h.ae p.id}:=hx.trans (by rw[vT,if_pos h3]; exact yl h4)
         repeat' first
           | exact trivial
           | (refine ag.by hP (s6 h.ae p.id hs.2.1 (fX h.ae p.id) rfl) ?_; cbv)
           | (refine Pz.mk ?_; cbv) | (refine bp.mk ?_ (by kernel_rfl) ?_; rotate_left; cbv; rotate_right) | refine⟨rfl, ?_⟩ | refine And.intro ?_ ?_ | exact rfl | fail
end Go.Proofs.YtpklefhdkkegiaaGreat

