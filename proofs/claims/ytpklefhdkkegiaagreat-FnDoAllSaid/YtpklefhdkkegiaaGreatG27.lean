/- Parts of a proof. No conditions. -/

import Derived.Test.YtpklefhdkkegiaaGreatG26
import Derived.Test.YtpklefhdkkegiaaGreatG25
set_option linter.unusedSimpArgs false
set_option linter.unusedVariables false
namespace Go.Proofs.YtpklefhdkkegiaaGreat
open Go
set_option maxRecDepth 100000
set_option maxHeartbeats 4000000 in
theorem Up (h:ai) (id:Int) (hs:a_ h) (x:ai) (hx:x=oe h id) (c:Int) (hc:c=aU h (jJ id)):Spec Tryz.prog 222 [cG h,iA id] (aG (.aS [(true,fb fun _=>x),(false,[.int .i64 fun _=>c])])):=by
 by_cases hv:aU h (jJ id)=0
 rotate_left
 · obtain rfl:x=h:=hx.trans (if_neg hv);have k1:(c != 0)=true:=by rw[hc]; simpa using hv
   refine aF au Tryz.func222 rfl rfl (fr:=true) (fun _=>by kernel_rfl) fun P hP hA=> ?_;cbv;refine af.by hP (kg x hs) ?_;cbv;refine af.by hP (iY x (jJ id) hs c hc) ?_;cbv;refine Br.split (fun k0=> ?_) (fun k0=> ?_) <;> cbv
   · repeat' first | exact trivial | refine⟨rfl, ?_⟩ | fail
   · have k0:(c != 0)=false:=k0;rw[k1] at k0; cases k0
 have hx:=hx.trans (if_pos hv);obtain⟨i,k,p,cb,o,rfl,ep⟩:=Bl hv;rw[ep] at hx;have hp:iS (aB h p.ag):=by rw[o.iJ]; exact hs.2.2.1.2 cb (List.mem_of_getElem? o.hk)
 have hf:=o.al;have dw:0≤p.ag∧p.ag<(h.cabins.length:Int):=o.lY;refine aF au Tryz.func222 rfl rfl (fr:=true) (fun _=>by kernel_rfl) fun P hP hA=> ?_;cbv;refine af.by hP (kg h hs) ?_;cbv;refine af.by hP (iY h (jJ p.id) hs c hc) ?_;cbv;refine Br.split (fun k0=> ?_) (fun k0=> ?_) <;> cbv
 · have k0:(c != 0)=true:=k0;have k0:¬c=0:=by simpa using k0
   exact absurd (hc.trans hv) k0
 have k0:(c != 0)=false:=k0;obtain rfl:c=0:=by simpa using k0
 apply fO
 · intro hk
   repeat' first
     | exact trivial
     | (refine af.by hP (sw h p.id (i:Int) o.at_.symm) ?_; cbv)
     | (refine Ix.mk (p) (Int.natCast_nonneg i) (o.hi) ?_; cbv)
     | (refine Pz.mk ?_; cbv) | (refine aW.mk ?_ (by kernel_rfl) ?_; rotate_left; cbv; rotate_right) | refine⟨rfl, ?_⟩ | refine And.intro ?_ ?_ | exact rfl | fail
   all_goals exact hk
 all_goals
   refine Br.split (fun h3=> ?_) (fun h3=> ?_) <;> cbv
   · have h3:(p.st == 2)=true:=h3;have h3:p.st=2:=by simpa using h3
     refine aD.by hP (FF h p dw hp.2) ?_;cbv;refine af.by hP (sD h.todo p.ag hs.2.2.2.1 (eD h.todo p.ag) rfl) ?_;cbv;refine aD.by hP (Bt (l5 h p) p hs.2.1 (ln.of (iZ _ _ _) hf)) ?_;cbv;obtain rfl:x=cW (l5 h p) p:=hx.trans (by rw[qP,if_pos h3])
     repeat' first | exact trivial | refine⟨rfl, ?_⟩ | fail
   · have h3:(p.st == 2)=false:=h3;have h3:¬p.st=2:=by simpa using h3
     repeat' first
      | exact trivial
      | (refine af.by hP (KZ (aB h p.ag).row p.id hp.1 (iX (aB h p.ag).row p.id) rfl (decide (0≤cU (aB h p.ag).row p.id)) rfl) ?_; cbv)
      | (refine Ob.mk (dw) ?_; cbv)
      | (refine Sv.mk (fun _=>(kO h p).cabins) (rfl) ?_; cbv)
      | (refine Pz.mk ?_; cbv) | (refine aW.mk ?_ (by kernel_rfl) ?_; rotate_left; cbv; rotate_right) | refine⟨rfl, ?_⟩ | refine And.intro ?_ ?_ | exact rfl | fail
     refine aD.by hP (Bt (kO h p) p hs.2.1 (ln.of (iZ _ _ _) hf)) ?_;cbv;obtain rfl:x=cW (kO h p) p:=hx.trans (by rw[qP,if_neg h3])
     repeat' first | exact trivial | refine⟨rfl, ?_⟩ | fail
set_option maxHeartbeats 4000000 in
theorem Uq (h :ai) (id:Int) (hs:a_ h) (x:ai) (hx:x=oe h id) (c:Int) (hc:c=aU h (jJ id)):Spec Tryz.prog 89 [cG h,iA id] (aG (.aS [(true,fb fun _=>x),(false,[.int .i64 fun _=>c])])):=by
 by_cases hv:aU h (jJ id)=0
 rotate_left
 · obtain rfl:x=h:=hx.trans (if_neg hv);have k1:(c != 0)=true:=by rw[hc]; simpa using hv
   refine aF au Tryz.func89 rfl rfl (fr:=true) (fun _=>by kernel_rfl) fun P hP hA=> ?_;cbv;refine af.by hP (jI x hs) ?_;cbv;refine af.by hP (jH x (jJ id) hs c hc) ?_;cbv;refine Br.split (fun k0=> ?_) (fun k0=> ?_) <;> cbv
   · repeat' first | exact trivial | refine⟨rfl, ?_⟩ | fail
   · have k0:(c != 0)=false:=k0;rw[k1] at k0; cases k0
 have hx:=hx.trans (if_pos hv);obtain⟨i,k,p,cb,o,rfl,ep⟩:=Bl hv;rw[ep] at hx;have hp:iS (aB h p.ag):=by rw[o.iJ]; exact hs.2.2.1.2 cb (List.mem_of_getElem? o.hk)
 have hf:=o.al;have dw:0≤p.ag∧p.ag<(h.cabins.length:Int):=o.lY;refine aF au Tryz.func89 rfl rfl (fr:=true) (fun _=>by kernel_rfl) fun P hP hA=> ?_;cbv;refine af.by hP (jI h hs) ?_;cbv;refine af.by hP (jH h (jJ p.id) hs c hc) ?_;cbv;refine Br.split (fun k0=> ?_) (fun k0=> ?_) <;> cbv
 · have k0:(c != 0)=true:=k0;have k0:¬c=0:=by simpa using k0
   exact absurd (hc.trans hv) k0
 have k0:(c != 0)=false:=k0;obtain rfl:c=0:=by simpa using k0
 have st:p.st=1∨p.st=2:=(iH o.ok).st;apply fO
 · intro hk
   repeat' first
     | exact trivial
     | (refine af.by hP (nV h p.id (i:Int) o.at_.symm) ?_; cbv)
     | (refine Ix.mk (p) (Int.natCast_nonneg i) (o.hi) ?_; cbv)
     | (refine Pz.mk ?_; cbv) | (refine aW.mk ?_ (by kernel_rfl) ?_; rotate_left; cbv; rotate_right) | refine⟨rfl, ?_⟩ | refine And.intro ?_ ?_ | exact rfl | fail
   all_goals exact hk
 repeat' first
   | exact trivial
   | (refine Ob.mk (dw) ?_; cbv)
   | (refine Pz.mk ?_; cbv) | (refine aW.mk ?_ (by kernel_rfl) ?_; rotate_left; cbv; rotate_right) | refine⟨rfl, ?_⟩ | refine And.intro ?_ ?_ | exact rfl | fail
 all_goals
   refine Br.split (fun h3=> ?_) (fun h3=> ?_) <;> cbv
   · have h3 :(p.st == 1)=true:=h3;have h3:¬p.st=2:=fun e=>by rw[e] at h3; cases h3
     repeat' first
       | exact trivial
       | (refine af.by hP (KY (aB h p.ag).row p.id hp.1 (iX (aB h p.ag).row p.id) rfl (decide (0≤cU (aB h p.ag).row p.id)) rfl) ?_; cbv)
       | (refine Ob.mk (rfl) ?_; cbv)
       | (refine Sv.mk (fun _=>(kO h p).cabins) (rfl) ?_; cbv)
       | (refine Pz.mk ?_; cbv) | (refine aW.mk ?_ (by kernel_rfl) ?_; rotate_left; cbv; rotate_right) | refine⟨rfl, ?_⟩ | refine And.intro ?_ ?_ | exact rfl | fail
     all_goals
       refine Br.split (fun h4=> ?_) (fun h4=> ?_) <;> cbv
       · have h4:(p.al != -1)=true:=h4;have h4:p.al≠ -1:=by simpa using h4
         have kT:=uk hf h4;have l6:0≤p.al∧p.al<((kO h p).cabins.length:Int):=um kT;obtain rfl:x=bN {kO h p with ae:=fu h.ae p.id} p.al (j_ (aB (kO h p) p.al) p.aj):=hx.trans (by rw[qP,if_neg h3]; exact wh h4);apply fO
         · intro hk
           repeat' first
            | exact trivial
            | (refine Ob.mk (l6) ?_; cbv)
            | (refine af.by hP (AX (aB (kO h p) p.al).seats p.aj (bz (aB (kO h p) p.al).seats p.aj 0 0 0 (-1)) rfl (bG (aB (kO h p) p.al).seats p.aj 0 0 0 (-1)) rfl) ?_; cbv)
            | (refine Sv.mk (fun _=>(bN (kO h p) p.al (j_ (aB (kO h p) p.al) p.aj)).cabins) (rfl) ?_; cbv)
            | (refine Pz.mk ?_; cbv) | (refine aW.mk ?_ (by kernel_rfl) ?_; rotate_left; cbv; rotate_right) | refine⟨rfl, ?_⟩ | refine And.intro ?_ ?_ | exact rfl | fail
           all_goals exact hk
         repeat' first
           | exact trivial
           | (refine af.by hP (vT h.ae p.id hs.2.1 (fu h.ae p.id) rfl) ?_; cbv)
           | (refine Pz.mk ?_; cbv) | (refine aW.mk ?_ (by kernel_rfl) ?_; rotate_left; cbv; rotate_right) | refine⟨rfl, ?_⟩ | refine And.intro ?_ ?_ | exact rfl | fail
       · have h4:(p.al != -1)=false:=h4;have h4:p.al = -1:=by simpa using h4
         obtain rfl:x = {kO h p with ae:=fu h.ae p.id}:=hx.trans (by rw[qP,if_neg h3]; exact Bq h4)
         repeat' first
           | exact trivial
           | (refine af.by hP (vT h.ae p.id hs.2.1 (fu h.ae p.id) rfl) ?_; cbv)
           | (refine Pz.mk ?_; cbv) | (refine aW.mk ?_ (by kernel_rfl) ?_; rotate_left; cbv; rotate_right) | refine⟨rfl, ?_⟩ | refine And.intro ?_ ?_ | exact rfl | fail
   · have h3 :(p.st == 1)=false:=h3;have h3:p.st=2:=st.resolve_left (fun e=>by rw[e] at h3; cases h3)
     let c1:ba:={aB h p.ag with spoke:=ik (aB h p.ag).spoke (dG p)}
     have e1:aB (bN h p.ag c1) p.ag=c1:=sX dw;have e2:(bN h p.ag c1).cabins.set p.ag.toNat {aB (bN h p.ag c1) p.ag with seats:=bz (aB (bN h p.ag c1) p.ag).seats p.aj 1 (-1) 0 0} = (c_ h p).cabins:=by rw[e1]; exact yN
     apply fO
     · intro hk
       repeat' first
         | exact trivial
         | (refine af.by hP (A3 (aB h p.ag).spoke (dG p) hp.2 (ik (aB h p.ag).spoke (dG p)) rfl (ij (aB h p.ag).spoke (dG p)) rfl) ?_; cbv)
         | (refine Ob.mk (rfl) ?_; cbv)
         | (refine Sv.mk (fun _=>(bN h p.ag c1).cabins) (rfl) ?_; cbv;(repeat (refine Pz.mk ?_; cbv)); exact hk)
         | (refine Pz.mk ?_; cbv) | (refine aW.mk ?_ (by kernel_rfl) ?_; rotate_left; cbv; rotate_right) | refine⟨rfl, ?_⟩ | refine And.intro ?_ ?_ | exact rfl | fail
     apply fO
     · intro hk
       repeat' first
         | exact trivial
         | (refine af.by hP (ES (aB (bN h p.ag c1) p.ag).seats p.aj (bz (aB (bN h p.ag c1) p.ag).seats p.aj 1 (-1) 0 0) rfl (bG (aB (bN h p.ag c1) p.ag).seats p.aj 1 (-1) 0 0) rfl) ?_; cbv)
         | (refine Ob.mk (rfl) ?_; cbv)
         | (refine Sv.mk (fun _=>(c_ h p).cabins) (e2) ?_; cbv;(repeat (refine Pz.mk ?_; cbv)); exact hk)
         | (refine Pz.mk ?_; cbv) | (refine aW.mk ?_ (by kernel_rfl) ?_; rotate_left; cbv; rotate_right) | refine⟨rfl, ?_⟩ | refine And.intro ?_ ?_ | exact rfl | fail
     repeat' first
       | exact trivial
       | (refine af.by hP (tZ h.todo p.ag hs.2.2.2.1 (eD h.todo p.ag) rfl) ?_; cbv)
       | (refine Pz.mk ?_; cbv) | (refine aW.mk ?_ (by kernel_rfl) ?_; rotate_left; cbv; rotate_right) | refine⟨rfl, ?_⟩ | refine And.intro ?_ ?_ | exact rfl | fail
     all_goals
       refine Br.split (fun h4=> ?_) (fun h4=> ?_) <;> cbv
       · have h4:(p.al != -1)=true:=h4;have h4:p.al≠ -1:=by simpa using h4
         have kT:=uk hf h4;have l6:0≤p.al∧p.al<((l5 h p).cabins.length:Int):=um kT;obtain rfl:x=bN {l5 h p with ae:=fu h.ae p.id} p.al (j_ (aB (l5 h p) p.al) p.aj):=hx.trans (by rw[qP,if_pos h3]; exact wh h4);apply fO
         · intro hk
           repeat' first
            | exact trivial
            | (refine Ob.mk (l6) ?_; cbv)
            | (refine af.by hP (AX (aB (l5 h p) p.al).seats p.aj (bz (aB (l5 h p) p.al).seats p.aj 0 0 0 (-1)) rfl (bG (aB (l5 h p) p.al).seats p.aj 0 0 0 (-1)) rfl) ?_; cbv)
            | (refine Sv.mk (fun _=>(bN (l5 h p) p.al (j_ (aB (l5 h p) p.al) p.aj)).cabins) (rfl) ?_; cbv)
            | (refine Pz.mk ?_; cbv) | (refine aW.mk ?_ (by kernel_rfl) ?_; rotate_left; cbv; rotate_right) | refine⟨rfl, ?_⟩ | refine And.intro ?_ ?_ | exact rfl | fail
           all_goals exact hk
         repeat' first
           | exact trivial
           | (refine af.by hP (vT h.ae p.id hs.2.1 (fu h.ae p.id) rfl) ?_; cbv)
           | (refine Pz.mk ?_; cbv) | (refine aW.mk ?_ (by kernel_rfl) ?_; rotate_left; cbv; rotate_right) | refine⟨rfl, ?_⟩ | refine And.intro ?_ ?_ | exact rfl | fail
       · have h4:(p.al != -1)=false:=h4;have h4:p.al = -1:=by simpa using h4
         obtain rfl:x = {l5 h p with ae:=fu h.ae p.id}:=hx.trans (by rw[qP,if_pos h3]; exact Bq h4)
         repeat' first
           | exact trivial
           | (refine af.by hP (vT h.ae p.id hs.2.1 (fu h.ae p.id) rfl) ?_; cbv)
           | (refine Pz.mk ?_; cbv) | (refine aW.mk ?_ (by kernel_rfl) ?_; rotate_left; cbv; rotate_right) | refine⟨rfl, ?_⟩ | refine And.intro ?_ ?_ | exact rfl | fail
end Go.Proofs.YtpklefhdkkegiaaGreat

