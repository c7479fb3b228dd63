/- Parts of a proof. No conditions. -/

import Derived.Test.YtpklefhdkkegiaaGreatG26
import Derived.Test.YtpklefhdkkegiaaGreatG25
set_option linter.unusedSimpArgs false
set_option linter.unusedVariables false
namespace Go.Proofs.YtpklefhdkkegiaaGreat
open Go
set_option maxRecDepth 100000
set_option maxHeartbeats 4000000 in
theorem QE (h:al) (id ah aq au aT:Int) (hs:bJ h) (x:al) (hx:x=tp h id ah aq au aT) (c:Int) (hc:c=bx h (ns id ah aq au aT)):Spec Tryz.prog 88 [dV h,iA id,iA ah,iA aq,iA au,iA aT] (aM (.ba [(true,jq fun _=>x),(false,[.int .i64 fun _=>c])])):=by
 by_cases hv:bx h (ns id ah aq au aT)=0
 rotate_left
 · obtain rfl:x=h:=hx.trans (if_neg hv);have k1:(c != 0)=true:=by rw[hc]; simpa using hv
   refine aN aD Tryz.func88 rfl rfl (fr:=true) (fun _=>by kernel_rfl) fun P hP hA=> ?_;cbv;refine ag.by hP (iE x hs) ?_;cbv;refine ag.by hP (jw x (ns id ah aq au aT) hs c hc) ?_;cbv;refine Br.split (fun k0=> ?_) (fun k0=> ?_) <;> cbv
   · repeat' first | exact trivial | refine⟨rfl, ?_⟩ | fail
   · have k0:(c != 0)=false:=k0;rw[k1] at k0; cases k0
 have hx:=hx.trans (if_pos hv);obtain⟨k,cb,o⟩:=IC hv;have hp:ln (aE h ah):=by rw[show aE h ah=cb from o.mi]; exact hs.2.2.1.2 cb (List.mem_of_getElem? o.hk)
 have hf:aq = -1∨∃f,rD h (e_ h id ah aq au aT) f:=o.aq;have fQ:0≤ah∧ah<(h.cabins.length:Int):=o.tg;have RA:=o.Qg;have hq:bE bd (dj h.rules (e_ h id ah aq au aT) h.now) (aE h ah).row=qm (aE h ah).row (dj h.rules (e_ h id ah aq au aT) h.now):=by rw[show aE h ah=cb from o.mi]; exact o.Co.symm
 refine aN aD Tryz.func88 rfl rfl (fr:=true) (fun _=>by kernel_rfl) fun P hP hA=> ?_;cbv;refine ag.by hP (iE h hs) ?_;cbv;refine ag.by hP (jw h (ns id ah aq au aT) hs c hc) ?_;cbv;refine Br.split (fun k0=> ?_) (fun k0=> ?_) <;> cbv
 · have k0:(c != 0)=true:=k0;have k0:¬c=0:=by simpa using k0
   exact absurd (hc.trans hv) k0
 have k0:(c != 0)=false:=k0;obtain rfl:c=0:=by simpa using k0
 repeat' first
   | exact trivial
   | (refine Ar.exact (by(try simp only[nc] at *); omega) (by(try simp only[nc] at *); omega) ?_; cbv)
   | (refine ag.by hP (BO h.ae (e_ h id ah aq au aT) hs.2.1 (gM h.ae (e_ h id ah aq au aT)) rfl) ?_; cbv)
   | (refine ag.by hP (A8 h.rules (e_ h id ah aq au aT) h.now hs.1 (dj h.rules (e_ h id ah aq au aT) h.now) rfl (eo h.rules (e_ h id ah aq au aT) h.now) rfl) ?_; cbv)
   | (refine Pz.mk ?_; cbv) | (refine bp.mk ?_ (by kernel_rfl) ?_; rotate_left; cbv; rotate_right) | refine⟨rfl, ?_⟩ | exact rfl | fail
 apply gz
 · intro hk
   repeat' first
     | exact trivial
     | (refine Ob.mk (fQ) ?_; cbv)
     | (refine ag.by hP (HO (aE h ah).row (dj h.rules (e_ h id ah aq au aT) h.now) hp.1 (bE bd (dj h.rules (e_ h id ah aq au aT) h.now) (aE h ah).row) hq (iL (aE h ah).row (dj h.rules (e_ h id ah aq au aT) h.now)) rfl) ?_; cbv)
     | (refine Sv.mk (fun _=>(jY h (e_ h id ah aq au aT)).cabins) (rfl) ?_; cbv;(repeat (refine Pz.mk ?_; cbv)); exact hk)
     | (refine Pz.mk ?_; cbv) | (refine bp.mk ?_ (by kernel_rfl) ?_; rotate_left; cbv; rotate_right) | refine⟨rfl, ?_⟩ | refine And.intro ?_ ?_ | exact rfl | fail
 all_goals
   refine Br.split (fun h4=> ?_) (fun h4=> ?_) <;> cbv
   · have h4:(aq != -1)=true:=h4;have h5:aq≠ -1:=by simpa using h4
     have lK:0≤aq∧aq<(h.cabins.length:Int):=vU (p:=(e_ h id ah aq au aT)) hf h5;have nt:0≤aq∧aq<((jY h (e_ h id ah aq au aT)).cabins.length:Int):=by rw[jY,Cl,qq]; exact lK
     obtain rfl:x = {bU (jY h (e_ h id ah aq au aT)) aq (Cu (aE (jY h (e_ h id ah aq au aT)) aq) au) with todo:=fj h.todo ah}:=hx.trans (by rw[Cv,vR,if_neg (show¬(e_ h id ah aq au aT).aq = -1 from h5)]; rfl);apply gz
     · intro hk
       repeat' first
        | exact trivial
        | (refine Ob.mk (nt) ?_; cbv)
        | (refine ag.by hP (NZ (aE (jY h (e_ h id ah aq au aT)) aq).ai au (bW (aE (jY h (e_ h id ah aq au aT)) aq).ai au 0 0 0 1) rfl (bS (aE (jY h (e_ h id ah aq au aT)) aq).ai au 0 0 0 1) rfl) ?_; cbv)
        | (refine Sv.mk (fun _=>(bU (jY h (e_ h id ah aq au aT)) aq (Cu (aE (jY h (e_ h id ah aq au aT)) aq) au)).cabins) (rfl) ?_; cbv;(repeat (refine Pz.mk ?_; cbv)); exact hk)
        | (refine Pz.mk ?_; cbv) | (refine bp.mk ?_ (by kernel_rfl) ?_; rotate_left; cbv; rotate_right) | refine⟨rfl, ?_⟩ | refine And.intro ?_ ?_ | exact rfl | fail
     repeat' first
       | exact trivial
       | (refine ag.by hP (rr h.todo ah hs.2.2.2.1 (fj h.todo ah) rfl) ?_; cbv)
       | (refine Pz.mk ?_; cbv) | (refine bp.mk ?_ (by kernel_rfl) ?_; rotate_left; cbv; rotate_right) | refine⟨rfl, ?_⟩ | refine And.intro ?_ ?_ | exact rfl | fail
   · have h4:(aq != -1)=false:=h4;have h5:aq = -1:=by simpa using h4
     obtain rfl:x = {jY h (e_ h id ah aq au aT) with todo:=fj h.todo ah}:=hx.trans (by rw[Cv,vR,if_pos (show(e_ h id ah aq au aT).aq = -1 from h5)]; rfl)
     repeat' first
       | exact trivial
       | (refine ag.by hP (rr h.todo ah hs.2.2.2.1 (fj h.todo ah) rfl) ?_; cbv)
       | (refine Pz.mk ?_; cbv) | (refine bp.mk ?_ (by kernel_rfl) ?_; rotate_left; cbv; rotate_right) | refine⟨rfl, ?_⟩ | refine And.intro ?_ ?_ | exact rfl | fail
end Go.Proofs.YtpklefhdkkegiaaGreat

