/- Parts of a proof. No conditions. -/

import Derived.Test.YtpklefhdkkegiaaGreatG26
import Derived.Test.YtpklefhdkkegiaaGreatG25
set_option linter.unusedSimpArgs false
set_option linter.unusedVariables false
namespace Go.Proofs.YtpklefhdkkegiaaGreat
open Go
set_option maxRecDepth 100000
set_option maxHeartbeats 4000000 in
theorem Ur (h:ai) (id:Int) (hs:a_ h) (x:ai) (hx:x=oh h id) (c:Int) (hc:c=aU h (kd id)):Spec Tryz.prog 224 [cG h,iA id] (aG (.aS [(true,fb fun _=>x),(false,[.int .i64 fun _=>c])])):=by
 by_cases hv:aU h (kd id)=0
 rotate_left
 · obtain rfl:x=h:=hx.trans (if_neg hv);have k1:(c != 0)=true:=by rw[hc]; simpa using hv
   refine aF au Tryz.func224 rfl rfl (fr:=true) (fun _=>by kernel_rfl) fun P hP hA=> ?_;cbv;refine af.by hP (kg x hs) ?_;cbv;refine af.by hP (iY x (kd id) hs c hc) ?_;cbv;refine Br.split (fun k0=> ?_) (fun k0=> ?_) <;> cbv
   · repeat' first | exact trivial | refine⟨rfl, ?_⟩ | fail
   · have k0:(c != 0)=false:=k0;rw[k1] at k0; cases k0
 have hx:=hx.trans (if_pos hv);obtain⟨i,k,p,cb,o,aZ,ep,st⟩:=sV (.inl rfl) hv;have hq:x=sW h p:=hx.trans (congrArg (sW h) ep);have hp:iS (aB h p.ag):=by rw[o.iJ]; exact hs.2.2.1.2 cb (List.mem_of_getElem? o.hk)
 have hf:=o.al;have dw:0≤p.ag∧p.ag<(h.cabins.length:Int):=o.lY;obtain rfl:p.id=id:=aZ;refine aF au Tryz.func224 rfl rfl (fr:=true) (fun _=>by kernel_rfl) fun P hP hA=> ?_;cbv;refine af.by hP (kg h hs) ?_;cbv;refine af.by hP (iY h (kd p.id) hs c hc) ?_;cbv;refine Br.split (fun k0=> ?_) (fun k0=> ?_) <;> cbv
 · have k0:(c != 0)=true:=k0;have k0:¬c=0:=by simpa using k0
   exact absurd (hc.trans hv) k0
 have k0:(c != 0)=false:=k0;obtain rfl:c=0:=by simpa using k0
 apply fO
 · intro hk
   repeat' first
     | exact trivial
     | (refine af.by hP (sw h p.id (i:Int) o.at_.symm) ?_; cbv)
     | (refine Ix.mk (p) (Int.natCast_nonneg i) (o.hi) ?_; cbv)
     | (refine Pz.mk ?_; cbv) | (refine aW.mk ?_ (by kernel_rfl) ?_; rotate_left; cbv; rotate_right) | refine⟨rfl, ?_⟩ | refine And.intro ?_ ?_ | exact rfl | fail
   all_goals exact hk
 repeat' first
   | exact trivial
   | (refine Ob.mk (dw) ?_; cbv)
   | (refine af.by hP (R5 (aB (h) p.ag).seats p.aj (bz (aB (h) p.ag).seats p.aj 0 (-1) 1 0) rfl (bG (aB (h) p.ag).seats p.aj 0 (-1) 1 0) rfl) ?_; cbv)
   | (refine af.by hP (K7 (aB h p.ag).spoke (dG p) hp.2 (ik (aB h p.ag).spoke (dG p)) rfl (ij (aB h p.ag).spoke (dG p)) rfl) ?_; cbv)
   | (refine Sv.mk (fun _=>(eV h p).cabins) (rfl) ?_; cbv)
   | (refine aD.by hP (Bt (eV h p) p hs.2.1 (ln.of (iZ _ _ _) hf)) ?_; cbv)
   | (refine Pz.mk ?_; cbv) | (refine aW.mk ?_ (by kernel_rfl) ?_; rotate_left; cbv; rotate_right) | refine⟨rfl, ?_⟩ | refine And.intro ?_ ?_ | exact rfl | fail
 all_goals
   refine Br.dec (fun h4=> ?_) (fun h4=> ?_) <;> cbv
   · have h4:p.al≥0:=h4;have h5:p.al≠ -1:=by omega
     have kT:=uk hf h5;have l6:0≤p.al∧p.al<((cW (eV h p) p).cabins.length:Int):=by rw[wh h5]; exact um (h:={eV h p with ae:=fu (eV h p).ae p.id}) (um kT)
     have ht:(cW (eV h p) p).todo.length≤aN:=by rw[wh h5]; exact hs.2.2.2.1
     obtain rfl:x=lp (cW (eV h p) p) p.al p.aj:=hq.trans (if_neg h5);refine aD.by hP (T9 (cW (eV h p) p) p.al l6 p.aj ht) ?_;cbv
     repeat' first | exact trivial | refine⟨rfl, ?_⟩ | fail
   · have h4:¬p.al≥0:=h4;have h5:p.al = -1:=hf.resolve_right (fun⟨f,q⟩=>by have:=q.eq; omega);obtain rfl:x=cW (eV h p) p:=hq.trans (if_pos h5)
     repeat' first | exact trivial | refine⟨rfl, ?_⟩ | fail
set_option maxHeartbeats 4000000 in
theorem Us (h:ai) (id:Int) (hs:a_ h) (x:ai) (hx:x=oh h id) (c:Int) (hc:c=aU h (kd id)):Spec Tryz.prog 91 [cG h,iA id] (aG (.aS [(true,fb fun _=>x),(false,[.int .i64 fun _=>c])])):=by
 by_cases hv:aU h (kd id)=0
 rotate_left
 · obtain rfl:x=h:=hx.trans (if_neg hv);have k1:(c != 0)=true:=by rw[hc]; simpa using hv
   refine aF au Tryz.func91 rfl rfl (fr:=true) (fun _=>by kernel_rfl) fun P hP hA=> ?_;cbv;refine af.by hP (jI x hs) ?_;cbv;refine af.by hP (jH x (kd id) hs c hc) ?_;cbv;refine Br.split (fun k0=> ?_) (fun k0=> ?_) <;> cbv
   · repeat' first | exact trivial | refine⟨rfl, ?_⟩ | fail
   · have k0:(c != 0)=false:=k0;rw[k1] at k0; cases k0
 have hx:=hx.trans (if_pos hv);obtain⟨i,k,p,cb,o,aZ,ep,st⟩:=sV (.inl rfl) hv;have hq:x=sW h p:=hx.trans (congrArg (sW h) ep);have hp:iS (aB h p.ag):=by rw[o.iJ]; exact hs.2.2.1.2 cb (List.mem_of_getElem? o.hk)
 have hf:=o.al;have dw:0≤p.ag∧p.ag<(h.cabins.length:Int):=o.lY;obtain rfl:p.id=id:=aZ;refine aF au Tryz.func91 rfl rfl (fr:=true) (fun _=>by kernel_rfl) fun P hP hA=> ?_;cbv;refine af.by hP (jI h hs) ?_;cbv;refine af.by hP (jH h (kd p.id) hs c hc) ?_;cbv;refine Br.split (fun k0=> ?_) (fun k0=> ?_) <;> cbv
 · have k0:(c != 0)=true:=k0;have k0:¬c=0:=by simpa using k0
   exact absurd (hc.trans hv) k0
 have k0:(c != 0)=false:=k0;obtain rfl:c=0:=by simpa using k0
 let c1:ba:={aB h p.ag with seats:=bz (aB h p.ag).seats p.aj 0 (-1) 1 0}
 have e1:aB (bN h p.ag c1) p.ag=c1:=sX dw;have e2:(bN h p.ag c1).cabins.set p.ag.toNat {aB (bN h p.ag c1) p.ag with spoke:=ik (aB (bN h p.ag c1) p.ag).spoke (dG p)} = (eV h p).cabins:=by rw[e1]; exact yN
 apply fO
 · intro hk
   repeat' first
     | exact trivial
     | (refine af.by hP (nV h p.id (i:Int) o.at_.symm) ?_; cbv)
     | (refine Ix.mk (p) (Int.natCast_nonneg i) (o.hi) ?_; cbv)
     | (refine Pz.mk ?_; cbv) | (refine aW.mk ?_ (by kernel_rfl) ?_; rotate_left; cbv; rotate_right) | refine⟨rfl, ?_⟩ | refine And.intro ?_ ?_ | exact rfl | fail
   all_goals exact hk
 apply fO
 · intro hk
   repeat' first
     | exact trivial
     | (refine Ob.mk (dw) ?_; cbv)
     | (refine Ob.mk (rfl) ?_; cbv)
     | (refine af.by hP (R8 (aB (h) p.ag).seats p.aj (bz (aB (h) p.ag).seats p.aj 0 (-1) 1 0) rfl (bG (aB (h) p.ag).seats p.aj 0 (-1) 1 0) rfl) ?_; cbv)
     | (refine Sv.mk (fun _=>(bN h p.ag c1).cabins) (rfl) ?_; cbv;(repeat (refine Pz.mk ?_; cbv)); exact hk)
     | (refine Pz.mk ?_; cbv) | (refine aW.mk ?_ (by kernel_rfl) ?_; rotate_left; cbv; rotate_right) | refine⟨rfl, ?_⟩ | refine And.intro ?_ ?_ | exact rfl | fail
 apply fO
 · intro hk
   repeat' first
     | exact trivial
     | (refine Ob.mk (rfl) ?_; cbv)
     | (refine af.by hP (A3 (aB (bN h p.ag c1) p.ag).spoke (dG p) (by rw[e1]; exact hp.2) (ik (aB (bN h p.ag c1) p.ag).spoke (dG p)) rfl (ij (aB (bN h p.ag c1) p.ag).spoke (dG p)) rfl) ?_; cbv)
     | (refine Sv.mk (fun _=>(eV h p).cabins) (e2) ?_; cbv;(repeat (refine Pz.mk ?_; cbv)); exact hk)
     | (refine Pz.mk ?_; cbv) | (refine aW.mk ?_ (by kernel_rfl) ?_; rotate_left; cbv; rotate_right) | refine⟨rfl, ?_⟩ | refine And.intro ?_ ?_ | exact rfl | fail
 repeat' first
   | exact trivial
   | (refine af.by hP (vT h.ae p.id hs.2.1 (fu h.ae p.id) rfl) ?_; cbv)
   | (refine Pz.mk ?_; cbv) | (refine aW.mk ?_ (by kernel_rfl) ?_; rotate_left; cbv; rotate_right) | refine⟨rfl, ?_⟩ | refine And.intro ?_ ?_ | exact rfl | fail
 all_goals
   refine Br.split (fun h4=> ?_) (fun h4=> ?_) <;> cbv
   · have h4:(p.al != -1)=true:=h4;have h4:p.al≠ -1:=by simpa using h4
     have kT:=uk hf h4;have l6:0≤p.al∧p.al<((eV h p).cabins.length:Int):=um kT
     let G:ai:=bN (eV h p) p.al (j_ (aB (eV h p) p.al) p.aj)
     have g1:aB G p.al=j_ (aB (eV h p) p.al) p.aj:=sX l6;obtain rfl:x=lp (bN {eV h p with ae:=fu h.ae p.id} p.al (j_ (aB (eV h p) p.al) p.aj)) p.al p.aj:=hq.trans ((if_neg h4).trans (by rw[wh h4]; rfl));apply fO
     · intro hk
       repeat' first
        | exact trivial
        | (refine Ob.mk (l6) ?_; cbv)
        | (refine Ob.mk (rfl) ?_; cbv)
        | (refine af.by hP (AX (aB (eV h p) p.al).seats p.aj (bz (aB (eV h p) p.al).seats p.aj 0 0 0 (-1)) rfl (bG (aB (eV h p) p.al).seats p.aj 0 0 0 (-1)) rfl) ?_; cbv)
        | (refine Sv.mk (fun _=>G.cabins) (rfl) ?_; cbv;(repeat (refine Pz.mk ?_; cbv)); exact hk)
        | (refine Pz.mk ?_; cbv) | (refine aW.mk ?_ (by kernel_rfl) ?_; rotate_left; cbv; rotate_right) | refine⟨rfl, ?_⟩ | refine And.intro ?_ ?_ | exact rfl | fail
     apply fO
     · intro hk
       repeat' first
        | exact trivial
        | (refine Ob.mk (rfl) ?_; cbv)
        | (refine af.by hP (KA (aB (G) p.al).seats p.aj (bz (aB (G) p.al).seats p.aj 1 0 (-1) 0) rfl (bG (aB (G) p.al).seats p.aj 1 0 (-1) 0) rfl) ?_; cbv)
        | (refine Sv.mk (fun _=>(lp G p.al p.aj).cabins) (rfl) ?_; cbv;(repeat (refine Pz.mk ?_; cbv)); exact hk)
        | (refine Pz.mk ?_; cbv) | (refine aW.mk ?_ (by kernel_rfl) ?_; rotate_left; cbv; rotate_right) | refine⟨rfl, ?_⟩ | refine And.intro ?_ ?_ | exact rfl | fail
     repeat' first
       | exact trivial
       | (refine af.by hP (tZ h.todo p.al hs.2.2.2.1 (eD h.todo p.al) rfl) ?_; cbv)
       | (refine Pz.mk ?_; cbv) | (refine aW.mk ?_ (by kernel_rfl) ?_; rotate_left; cbv; rotate_right) | refine⟨rfl, ?_⟩ | refine And.intro ?_ ?_ | exact rfl | fail
   · have h4:(p.al != -1)=false:=h4;have h4:p.al = -1:=by simpa using h4
     obtain rfl:x = {eV h p with ae:=fu h.ae p.id}:=hq.trans ((if_pos h4).trans (Bq h4))
     repeat' first | exact trivial | refine⟨rfl, ?_⟩ | fail
end Go.Proofs.YtpklefhdkkegiaaGreat

