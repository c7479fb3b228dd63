/- Parts of a proof. No conditions. -/

import Derived.Test.YtpklefhdkkegiaaGreatG26
import Derived.Test.YtpklefhdkkegiaaGreatG25
set_option linter.unusedSimpArgs false
set_option linter.unusedVariables false
namespace Go.Proofs.YtpklefhdkkegiaaGreat
open Go
set_option maxRecDepth 100000
set_option maxHeartbeats 4000000 in
theorem Ut (h:ai) (id ag al aj aO:Int) (hs:a_ h) (x:ai) (hx:x=oo h id ag al aj aO) (c:Int) (hc:c=aU h (kP id ag al aj aO)):Spec Tryz.prog 221 [cG h,iA id,iA ag,iA al,iA aj,iA aO] (aG (.aS [(true,fb fun _=>x),(false,[.int .i64 fun _=>c])])):=by
 by_cases hv:aU h (kP id ag al aj aO)=0
 rotate_left
 · obtain rfl:x=h:=hx.trans (if_neg hv);have k1:(c != 0)=true:=by rw[hc]; simpa using hv
   refine aF au Tryz.func221 rfl rfl (fr:=true) (fun _=>by kernel_rfl) fun P hP hA=> ?_;cbv;refine af.by hP (kg x hs) ?_;cbv;refine af.by hP (iY x (kP id ag al aj aO) hs c hc) ?_;cbv;refine Br.split (fun k0=> ?_) (fun k0=> ?_) <;> cbv
   · repeat' first | exact trivial | refine⟨rfl, ?_⟩ | fail
   · have k0:(c != 0)=false:=k0;rw[k1] at k0; cases k0
 have hx:=hx.trans (if_pos hv);obtain⟨k,cb,o⟩:=Bm hv;have hp:iS (aB h ag):=by rw[show aB h ag=cb from o.iJ]; exact hs.2.2.1.2 cb (List.mem_of_getElem? o.hk)
 have hf:al = -1∨∃f,ln h (dv h id ag al aj aO) f:=o.al;have dw:0≤ag∧ag<(h.cabins.length:Int):=o.lY;have Uu:=o.FE;refine aF au Tryz.func221 rfl rfl (fr:=true) (fun _=>by kernel_rfl) fun P hP hA=> ?_;cbv;refine af.by hP (kg h hs) ?_;cbv;refine af.by hP (iY h (kP id ag al aj aO) hs c hc) ?_;cbv;refine Br.split (fun k0=> ?_) (fun k0=> ?_) <;> cbv
 · have k0:(c != 0)=true:=k0;have k0:¬c=0:=by simpa using k0
   exact absurd (hc.trans hv) k0
 have k0:(c != 0)=false:=k0;obtain rfl:c=0:=by simpa using k0
 repeat' first
   | exact trivial
   | (refine Ar.exact (by(try simp only[nc] at *); omega) (by(try simp only[nc] at *); omega) ?_; cbv)
   | (refine af.by hP (A0 h.ae (dv h id ag al aj aO) hs.2.1 (ff h.ae (dv h id ag al aj aO)) rfl) ?_; cbv)
   | (refine aD.by hP (L_ (oq h (dv h id ag al aj aO)) (dv h id ag al aj aO) dw hs.1 hp.1) ?_; cbv)
   | (refine Pz.mk ?_; cbv) | (refine aW.mk ?_ (by kernel_rfl) ?_; rotate_left; cbv; rotate_right) | refine⟨rfl, ?_⟩ | refine And.intro ?_ ?_ | exact rfl | fail
 all_goals
   refine Br.dec (fun h4=> ?_) (fun h4=> ?_) <;> cbv
   · have h4:al≥0:=h4;have h5:al≠ -1:=by omega
     have kT:0≤al∧al<(h.cabins.length:Int):=uk (p:=(dv h id ag al aj aO)) hf h5;have l6:0≤al∧al<((fD h (dv h id ag al aj aO)).cabins.length:Int):=by rw[fD,v8,iZ]; exact kT
     obtain rfl:x = {bN (fD h (dv h id ag al aj aO)) al (uo (aB (fD h (dv h id ag al aj aO)) al) aj) with todo:=eD h.todo ag}:=hx.trans (by rw[il,my,if_neg (show¬(dv h id ag al aj aO).al = -1 from h5)]; rfl);apply fO
     · intro hk
       repeat' first
        | exact trivial
        | (refine Ob.mk (l6) ?_; cbv)
        | (refine af.by hP (Sa (aB (fD h (dv h id ag al aj aO)) al).seats aj (bz (aB (fD h (dv h id ag al aj aO)) al).seats aj 0 0 0 1) rfl (bG (aB (fD h (dv h id ag al aj aO)) al).seats aj 0 0 0 1) rfl) ?_; cbv)
        | (refine Sv.mk (fun _=>(bN (fD h (dv h id ag al aj aO)) al (uo (aB (fD h (dv h id ag al aj aO)) al) aj)).cabins) (rfl) ?_; cbv;(repeat (refine Pz.mk ?_; cbv)); exact hk)
        | (refine Pz.mk ?_; cbv) | (refine aW.mk ?_ (by kernel_rfl) ?_; rotate_left; cbv; rotate_right) | refine⟨rfl, ?_⟩ | refine And.intro ?_ ?_ | exact rfl | fail
     repeat' first
       | exact trivial
       | (refine af.by hP (sD h.todo ag hs.2.2.2.1 (eD h.todo ag) rfl) ?_; cbv)
       | (refine Pz.mk ?_; cbv) | (refine aW.mk ?_ (by kernel_rfl) ?_; rotate_left; cbv; rotate_right) | refine⟨rfl, ?_⟩ | refine And.intro ?_ ?_ | exact rfl | fail
   · have h4:¬al≥0:=h4;have h5:al = -1:=hf.resolve_right (fun⟨f,q⟩=>by have:al=(f:Int):=q.eq; omega);obtain rfl:x = {fD h (dv h id ag al aj aO) with todo:=eD h.todo ag}:=hx.trans (by rw[il,my,if_pos (show(dv h id ag al aj aO).al = -1 from h5)]; rfl)
     repeat' first
       | exact trivial
       | (refine af.by hP (sD h.todo ag hs.2.2.2.1 (eD h.todo ag) rfl) ?_; cbv)
       | (refine Pz.mk ?_; cbv) | (refine aW.mk ?_ (by kernel_rfl) ?_; rotate_left; cbv; rotate_right) | refine⟨rfl, ?_⟩ | refine And.intro ?_ ?_ | exact rfl | fail
set_option maxHeartbeats 4000000 in
theorem Uv (h:ai) (id ag al aj aO:Int) (hs:a_ h) (x:ai) (hx:x=oo h id ag al aj aO) (c:Int) (hc:c=aU h (kP id ag al aj aO)):Spec Tryz.prog 88 [cG h,iA id,iA ag,iA al,iA aj,iA aO] (aG (.aS [(true,fb fun _=>x),(false,[.int .i64 fun _=>c])])):=by
 by_cases hv:aU h (kP id ag al aj aO)=0
 rotate_left
 · obtain rfl:x=h:=hx.trans (if_neg hv);have k1:(c != 0)=true:=by rw[hc]; simpa using hv
   refine aF au Tryz.func88 rfl rfl (fr:=true) (fun _=>by kernel_rfl) fun P hP hA=> ?_;cbv;refine af.by hP (jI x hs) ?_;cbv;refine af.by hP (jH x (kP id ag al aj aO) hs c hc) ?_;cbv;refine Br.split (fun k0=> ?_) (fun k0=> ?_) <;> cbv
   · repeat' first | exact trivial | refine⟨rfl, ?_⟩ | fail
   · have k0:(c != 0)=false:=k0;rw[k1] at k0; cases k0
 have hx:=hx.trans (if_pos hv);obtain⟨k,cb,o⟩:=Bm hv;have hp:iS (aB h ag):=by rw[show aB h ag=cb from o.iJ]; exact hs.2.2.1.2 cb (List.mem_of_getElem? o.hk)
 have hf:al = -1∨∃f,ln h (dv h id ag al aj aO) f:=o.al;have dw:0≤ag∧ag<(h.cabins.length:Int):=o.lY;have Uu:=o.FE;have hq:bP bd (cD h.rules (dv h id ag al aj aO) h.now) (aB h ag).row=sN (aB h ag).row (cD h.rules (dv h id ag al aj aO) h.now):=by rw[show aB h ag=cb from o.iJ]; exact o.FB.symm
 refine aF au Tryz.func88 rfl rfl (fr:=true) (fun _=>by kernel_rfl) fun P hP hA=> ?_;cbv;refine af.by hP (jI h hs) ?_;cbv;refine af.by hP (jH h (kP id ag al aj aO) hs c hc) ?_;cbv;refine Br.split (fun k0=> ?_) (fun k0=> ?_) <;> cbv
 · have k0:(c != 0)=true:=k0;have k0:¬c=0:=by simpa using k0
   exact absurd (hc.trans hv) k0
 have k0:(c != 0)=false:=k0;obtain rfl:c=0:=by simpa using k0
 repeat' first
   | exact trivial
   | (refine Ar.exact (by(try simp only[nc] at *); omega) (by(try simp only[nc] at *); omega) ?_; cbv)
   | (refine af.by hP (E2 h.ae (dv h id ag al aj aO) hs.2.1 (ff h.ae (dv h id ag al aj aO)) rfl) ?_; cbv)
   | (refine af.by hP (Eb h.rules (dv h id ag al aj aO) h.now hs.1 (cD h.rules (dv h id ag al aj aO) h.now) rfl (fq h.rules (dv h id ag al aj aO) h.now) rfl) ?_; cbv)
   | (refine Pz.mk ?_; cbv) | (refine aW.mk ?_ (by kernel_rfl) ?_; rotate_left; cbv; rotate_right) | refine⟨rfl, ?_⟩ | exact rfl | fail
 apply fO
 · intro hk
   repeat' first
     | exact trivial
     | (refine Ob.mk (dw) ?_; cbv)
     | (refine af.by hP (Lq (aB h ag).row (cD h.rules (dv h id ag al aj aO) h.now) hp.1 (bP bd (cD h.rules (dv h id ag al aj aO) h.now) (aB h ag).row) hq (jY (aB h ag).row (cD h.rules (dv h id ag al aj aO) h.now)) rfl) ?_; cbv)
     | (refine Sv.mk (fun _=>(fD h (dv h id ag al aj aO)).cabins) (rfl) ?_; cbv;(repeat (refine Pz.mk ?_; cbv)); exact hk)
     | (refine Pz.mk ?_; cbv) | (refine aW.mk ?_ (by kernel_rfl) ?_; rotate_left; cbv; rotate_right) | refine⟨rfl, ?_⟩ | refine And.intro ?_ ?_ | exact rfl | fail
 all_goals
   refine Br.split (fun h4=> ?_) (fun h4=> ?_) <;> cbv
   · have h4:(al != -1)=true:=h4;have h5:al≠ -1:=by simpa using h4
     have kT:0≤al∧al<(h.cabins.length:Int):=uk (p:=(dv h id ag al aj aO)) hf h5;have l6:0≤al∧al<((fD h (dv h id ag al aj aO)).cabins.length:Int):=by rw[fD,v8,iZ]; exact kT
     obtain rfl:x = {bN (fD h (dv h id ag al aj aO)) al (uo (aB (fD h (dv h id ag al aj aO)) al) aj) with todo:=eD h.todo ag}:=hx.trans (by rw[il,my,if_neg (show¬(dv h id ag al aj aO).al = -1 from h5)]; rfl);apply fO
     · intro hk
       repeat' first
        | exact trivial
        | (refine Ob.mk (l6) ?_; cbv)
        | (refine af.by hP (Sd (aB (fD h (dv h id ag al aj aO)) al).seats aj (bz (aB (fD h (dv h id ag al aj aO)) al).seats aj 0 0 0 1) rfl (bG (aB (fD h (dv h id ag al aj aO)) al).seats aj 0 0 0 1) rfl) ?_; cbv)
        | (refine Sv.mk (fun _=>(bN (fD h (dv h id ag al aj aO)) al (uo (aB (fD h (dv h id ag al aj aO)) al) aj)).cabins) (rfl) ?_; cbv;(repeat (refine Pz.mk ?_; cbv)); exact hk)
        | (refine Pz.mk ?_; cbv) | (refine aW.mk ?_ (by kernel_rfl) ?_; rotate_left; cbv; rotate_right) | refine⟨rfl, ?_⟩ | refine And.intro ?_ ?_ | exact rfl | fail
     repeat' first
       | exact trivial
       | (refine af.by hP (tZ h.todo ag hs.2.2.2.1 (eD h.todo ag) rfl) ?_; cbv)
       | (refine Pz.mk ?_; cbv) | (refine aW.mk ?_ (by kernel_rfl) ?_; rotate_left; cbv; rotate_right) | refine⟨rfl, ?_⟩ | refine And.intro ?_ ?_ | exact rfl | fail
   · have h4:(al != -1)=false:=h4;have h5:al = -1:=by simpa using h4
     obtain rfl:x = {fD h (dv h id ag al aj aO) with todo:=eD h.todo ag}:=hx.trans (by rw[il,my,if_pos (show(dv h id ag al aj aO).al = -1 from h5)]; rfl)
     repeat' first
       | exact trivial
       | (refine af.by hP (tZ h.todo ag hs.2.2.2.1 (eD h.todo ag) rfl) ?_; cbv)
       | (refine Pz.mk ?_; cbv) | (refine aW.mk ?_ (by kernel_rfl) ?_; rotate_left; cbv; rotate_right) | refine⟨rfl, ?_⟩ | refine And.intro ?_ ?_ | exact rfl | fail
end Go.Proofs.YtpklefhdkkegiaaGreat

