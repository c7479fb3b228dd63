/- Parts of a proof. No conditions. -/

import Derived.Test.YtpklefhdkkegiaaGreatG26
import Derived.Test.YtpklefhdkkegiaaGreatG25
import Derived.Test.YtpklefhdkkegiaaGreatG20
import Derived.Test.YtpklefhdkkegiaaGreatG24
set_option linter.unusedSimpArgs false
set_option linter.unusedVariables false
namespace Go.Proofs.YtpklefhdkkegiaaGreat
open Go
set_option maxRecDepth 100000
theorem T_ {h:ai} {p:ax} (dw:0≤p.ag∧p.ag<(h.cabins.length:Int)) (l:List ax):aB {c_ h p with ae:=l} p.ag=fC (aB h p.ag) p:=sX dw
set_option maxHeartbeats 2000000 in
theorem Ma (h:ai) (p:ax) (hr:h.rules.seats.length≤aN) (hl:h.ae.length≤aN) (dw:0≤p.ag∧p.ag<(h.cabins.length:Int)) (hp:iS (aB h p.ag)) (hf:p.al = -1∨∃f,ln h p f):bJ Tryz.prog 143 [nf h,eA .aE p] (nU h) (dx (kB fun _=>dz h p) []):=by
 by_cases hk:eT h.rules p h.now=true
 · have ee:dz h p=od h p:=if_pos hk;rw[ee];refine fp au Tryz.func143 rfl rfl (fr:=true) (fun _=>by kernel_rfl) rfl rfl fun P hP hA hB=> ?_;cbv;refine aD.by hP (FF h p dw hp.2) ?_;cbv;refine af.by hP (Ls h.rules p h.now hr (dS h.rules p h.now) (if_pos hk).symm (eT h.rules p h.now) rfl) ?_;cbv;refine Br.split (fun k0=> ?_) (fun k0=> ?_) <;> cbv
   · have k0:(!eT h.rules p h.now)=true:=k0;rw[hk] at k0; cases k0
   refine af.by hP (A0 h.ae (dS h.rules p h.now) hl (ff h.ae (dS h.rules p h.now)) rfl) ?_;cbv;refine aD.by hP (L_ {c_ h p with ae:=ff h.ae (dS h.rules p h.now)} (dS h.rules p h.now) (um dw) hr (by show(aB {c_ h p with ae:=ff h.ae (dS h.rules p h.now)} p.ag).row.length≤aN; rw[T_ dw]; exact hp.1)) ?_;cbv
   repeat' first | exact trivial | refine⟨rfl, ?_⟩ | fail
 · have ee:dz h p=cW (c_ h p) p:=if_neg hk;rw[ee];refine fp au Tryz.func143 rfl rfl (fr:=true) (fun _=>by kernel_rfl) rfl rfl fun P hP hA hB=> ?_;cbv;refine aD.by hP (FF h p dw hp.2) ?_;cbv;refine af.by hP (Ls h.rules p h.now hr (A8 h.rules p h.now) rfl (eT h.rules p h.now) rfl) ?_;cbv;refine Br.split (fun k0=> ?_) (fun k0=> ?_) <;> cbv
   · refine aD.by hP (Bt (c_ h p) p hl (ln.of (iZ _ _ _) hf)) ?_;cbv
     repeat' first | exact trivial | refine⟨rfl, ?_⟩ | fail
   · have k0:(!eT h.rules p h.now)=false:=k0;exact absurd (by simpa using k0) hk
set_option maxHeartbeats 4000000 in
theorem Mb (h:ai) (hs:a_ h) {i k:Nat} {c:ba} (o:b_ h i k (h.ae.getD ((i:Int)).toNat default) c) (h2:(h.ae.getD ((i:Int)).toNat default).st=2) (id:Int) (fI:(h.ae.getD ((i:Int)).toNat default).id=id) (x:ai) (hx:x=dz h (h.ae.getD ((i:Int)).toNat default)):bJ Tryz.prog 132 [nf h,iA id] (nU h) (dx (kB fun _=>x) []):=by
 obtain⟨hi,ei⟩:=o.lt;have oi:0≤(i:Int)∧(i:Int)<(h.ae.length:Int):=by omega
 have sY:br h.ae id=(i:Int):=by rw[←fI]; exact o.at_
 have hp:iS (aB h (h.ae.getD ((i:Int)).toNat default).ag):=by rw[o.iJ]; exact hs.2.2.1.2 c (List.mem_of_getElem? o.hk)
 have hf:=o.al;have dw:0≤(h.ae.getD ((i:Int)).toNat default).ag∧(h.ae.getD ((i:Int)).toNat default).ag<(h.cabins.length:Int):=o.lY
 let c1:ba:={aB h (h.ae.getD ((i:Int)).toNat default).ag with seats:=bz (aB h (h.ae.getD ((i:Int)).toNat default).ag).seats (h.ae.getD ((i:Int)).toNat default).aj 1 (-1) 0 0}
 have e1:aB (bN h (h.ae.getD ((i:Int)).toNat default).ag c1) (h.ae.getD ((i:Int)).toNat default).ag=c1:=sX dw;have e2:(bN h (h.ae.getD ((i:Int)).toNat default).ag c1).cabins.set (h.ae.getD ((i:Int)).toNat default).ag.toNat {aB (bN h (h.ae.getD ((i:Int)).toNat default).ag c1) (h.ae.getD ((i:Int)).toNat default).ag with spoke:=ik (aB (bN h (h.ae.getD ((i:Int)).toNat default).ag c1) (h.ae.getD ((i:Int)).toNat default).ag).spoke (dG (h.ae.getD ((i:Int)).toNat default))} = (c_ h (h.ae.getD ((i:Int)).toNat default)).cabins:=by rw[e1]; exact yN
 by_cases hk:eT h.rules (h.ae.getD ((i:Int)).toNat default) h.now=true
 · have hx :x=od h (h.ae.getD ((i:Int)).toNat default):=hx.trans (if_pos hk);have e3:aB (c_ h (h.ae.getD ((i:Int)).toNat default)) (h.ae.getD ((i:Int)).toNat default).ag=fC (aB h (h.ae.getD ((i:Int)).toNat default).ag) (h.ae.getD ((i:Int)).toNat default):=sX dw
   have hq:sN (aB (c_ h (h.ae.getD ((i:Int)).toNat default)) (h.ae.getD ((i:Int)).toNat default).ag).row (cD h.rules (dS h.rules (h.ae.getD ((i:Int)).toNat default) h.now) h.now)=bP bd (cD h.rules (dS h.rules (h.ae.getD ((i:Int)).toNat default) h.now) h.now) (aB (c_ h (h.ae.getD ((i:Int)).toNat default)) (h.ae.getD ((i:Int)).toNat default).ag).row:=by
     rw[e3];show sN (aB h (h.ae.getD ((i:Int)).toNat default).ag).row _=bP bd _ (aB h (h.ae.getD ((i:Int)).toNat default).ag).row;rw[o.iJ];exact o.FB h2 hk
   have e4:(c_ h (h.ae.getD ((i:Int)).toNat default)).cabins.set (h.ae.getD ((i:Int)).toNat default).ag.toNat {aB (c_ h (h.ae.getD ((i:Int)).toNat default)) (h.ae.getD ((i:Int)).toNat default).ag with row:=bP bd (cD h.rules (dS h.rules (h.ae.getD ((i:Int)).toNat default) h.now) h.now) (aB (c_ h (h.ae.getD ((i:Int)).toNat default)) (h.ae.getD ((i:Int)).toNat default).ag).row} = (od h (h.ae.getD ((i:Int)).toNat default)).cabins:=rfl;refine fp au Tryz.func132 rfl rfl (fr:=true) (fun _=>by kernel_rfl) rfl rfl fun P hP hA hB=> ?_;cbv;apply fO
   · intro hk
     repeat' first
       | exact trivial
       | (refine af.by hP (nV h id (i:Int) sY.symm) ?_; cbv)
       | (refine Ob.mk (oi) ?_; cbv)
       | (refine Pz.mk ?_; cbv) | (refine aW.mk ?_ (by kernel_rfl) ?_; rotate_left; cbv; rotate_right) | refine⟨rfl, ?_⟩ | refine And.intro ?_ ?_ | exact rfl | fail
     all_goals exact hk
   apply fO
   · intro hk
     repeat' first
       | exact trivial
       | (refine Ob.mk (dw) ?_; cbv)
       | (refine Ob.mk (rfl) ?_; cbv)
       | (refine af.by hP (ES (aB h (h.ae.getD ((i:Int)).toNat default).ag).seats (h.ae.getD ((i:Int)).toNat default).aj (bz (aB h (h.ae.getD ((i:Int)).toNat default).ag).seats (h.ae.getD ((i:Int)).toNat default).aj 1 (-1) 0 0) rfl (bG (aB h (h.ae.getD ((i:Int)).toNat default).ag).seats (h.ae.getD ((i:Int)).toNat default).aj 1 (-1) 0 0) rfl) ?_; cbv)
       | (refine Sv.mk (fun _=>(bN h (h.ae.getD ((i:Int)).toNat default).ag c1).cabins) (rfl) ?_; cbv;(repeat (refine Pz.mk ?_; cbv)); exact hk)
       | (refine Pz.mk ?_; cbv) | (refine aW.mk ?_ (by kernel_rfl) ?_; rotate_left; cbv; rotate_right) | refine⟨rfl, ?_⟩ | refine And.intro ?_ ?_ | exact rfl | fail
   apply fO
   · intro hk
     repeat' first
       | exact trivial
       | (refine Ob.mk (rfl) ?_; cbv)
       | (refine af.by hP (A3 (aB (bN h (h.ae.getD ((i:Int)).toNat default).ag c1) (h.ae.getD ((i:Int)).toNat default).ag).spoke ⟨(h.ae.getD ((i:Int)).toNat default).dH,id⟩ (by rw[e1]; exact hp.2) (ik (aB (bN h (h.ae.getD ((i:Int)).toNat default).ag c1) (h.ae.getD ((i:Int)).toNat default).ag).spoke (dG (h.ae.getD ((i:Int)).toNat default))) (by rw[dG,fI]) (ij (aB (bN h (h.ae.getD ((i:Int)).toNat default).ag c1) (h.ae.getD ((i:Int)).toNat default).ag).spoke ⟨(h.ae.getD ((i:Int)).toNat default).dH,id⟩) rfl) ?_; cbv)
       | (refine Sv.mk (fun _=>(c_ h (h.ae.getD ((i:Int)).toNat default)).cabins) (e2) ?_; cbv;(repeat (refine Pz.mk ?_; cbv)); exact hk)
       | (refine Pz.mk ?_; cbv) | (refine aW.mk ?_ (by kernel_rfl) ?_; rotate_left; cbv; rotate_right) | refine⟨rfl, ?_⟩ | refine And.intro ?_ ?_ | exact rfl | fail
   repeat' first
     | exact trivial
     | (refine af.by hP (Lt h.rules (h.ae.getD ((i:Int)).toNat default) h.now hs.1 (dS h.rules (h.ae.getD ((i:Int)).toNat default) h.now) (if_pos hk).symm (eT h.rules (h.ae.getD ((i:Int)).toNat default) h.now) rfl) ?_; cbv)
     | (refine Pz.mk ?_; cbv) | (refine aW.mk ?_ (by kernel_rfl) ?_; rotate_left; cbv; rotate_right) | refine⟨rfl, ?_⟩ | exact rfl | fail
   all_goals
     refine Br.split (fun k0=> ?_) (fun k0=> ?_) <;> cbv
     · repeat' first
         | exact trivial
         | (refine af.by hP (E2 h.ae (dS h.rules (h.ae.getD ((i:Int)).toNat default) h.now) hs.2.1 (ff h.ae (dS h.rules (h.ae.getD ((i:Int)).toNat default) h.now)) rfl) ?_; cbv)
         | (refine af.by hP (Eb h.rules (dS h.rules (h.ae.getD ((i:Int)).toNat default) h.now) h.now hs.1 (cD h.rules (dS h.rules (h.ae.getD ((i:Int)).toNat default) h.now) h.now) rfl (fq h.rules (dS h.rules (h.ae.getD ((i:Int)).toNat default) h.now) h.now) rfl) ?_; cbv)
         | (refine Pz.mk ?_; cbv) | (refine aW.mk ?_ (by kernel_rfl) ?_; rotate_left; cbv; rotate_right) | refine⟨rfl, ?_⟩ | exact rfl | fail
       apply fO
       · intro hk
         repeat' first
          | exact trivial
          | (refine Ob.mk (rfl) ?_; cbv)
          | (refine af.by hP (Lq (aB (c_ h (h.ae.getD ((i:Int)).toNat default)) (h.ae.getD ((i:Int)).toNat default).ag).row (cD h.rules (dS h.rules (h.ae.getD ((i:Int)).toNat default) h.now) h.now) (by rw[e3]; exact hp.1) (bP bd (cD h.rules (dS h.rules (h.ae.getD ((i:Int)).toNat default) h.now) h.now) (aB (c_ h (h.ae.getD ((i:Int)).toNat default)) (h.ae.getD ((i:Int)).toNat default).ag).row) hq.symm (jY (aB (c_ h (h.ae.getD ((i:Int)).toNat default)) (h.ae.getD ((i:Int)).toNat default).ag).row (cD h.rules (dS h.rules (h.ae.getD ((i:Int)).toNat default) h.now) h.now)) rfl) ?_; cbv)
          | (refine Sv.mk (fun _=>(od h (h.ae.getD ((i:Int)).toNat default)).cabins) (e4) ?_; cbv;(repeat (refine Pz.mk ?_; cbv)); exact hk)
          | (refine Pz.mk ?_; cbv) | (refine aW.mk ?_ (by kernel_rfl) ?_; rotate_left; cbv; rotate_right) | refine⟨rfl, ?_⟩ | refine And.intro ?_ ?_ | exact rfl | fail
       all_goals
         obtain rfl:x=od h (h.ae.getD ((i:Int)).toNat default):=hx
         repeat' first | exact trivial | refine⟨rfl, ?_⟩ | fail
     · have k0:eT h.rules (h.ae.getD ((i:Int)).toNat default) h.now=false:=k0;rw[hk] at k0; cases k0
 · have hx :x=cW (c_ h (h.ae.getD ((i:Int)).toNat default)) (h.ae.getD ((i:Int)).toNat default):=hx.trans (if_neg hk);refine fp au Tryz.func132 rfl rfl (fr:=true) (fun _=>by kernel_rfl) rfl rfl fun P hP hA hB=> ?_;cbv;apply fO
   · intro hk
     repeat' first
       | exact trivial
       | (refine af.by hP (nV h id (i:Int) sY.symm) ?_; cbv)
       | (refine Ob.mk (oi) ?_; cbv)
       | (refine Pz.mk ?_; cbv) | (refine aW.mk ?_ (by kernel_rfl) ?_; rotate_left; cbv; rotate_right) | refine⟨rfl, ?_⟩ | refine And.intro ?_ ?_ | exact rfl | fail
     all_goals exact hk
   apply fO
   · intro hk
     repeat' first
       | exact trivial
       | (refine Ob.mk (dw) ?_; cbv)
       | (refine Ob.mk (rfl) ?_; cbv)
       | (refine af.by hP (ES (aB h (h.ae.getD ((i:Int)).toNat default).ag).seats (h.ae.getD ((i:Int)).toNat default).aj (bz (aB h (h.ae.getD ((i:Int)).toNat default).ag).seats (h.ae.getD ((i:Int)).toNat default).aj 1 (-1) 0 0) rfl (bG (aB h (h.ae.getD ((i:Int)).toNat default).ag).seats (h.ae.getD ((i:Int)).toNat default).aj 1 (-1) 0 0) rfl) ?_; cbv)
       | (refine Sv.mk (fun _=>(bN h (h.ae.getD ((i:Int)).toNat default).ag c1).cabins) (rfl) ?_; cbv;(repeat (refine Pz.mk ?_; cbv)); exact hk)
       | (refine Pz.mk ?_; cbv) | (refine aW.mk ?_ (by kernel_rfl) ?_; rotate_left; cbv; rotate_right) | refine⟨rfl, ?_⟩ | refine And.intro ?_ ?_ | exact rfl | fail
   apply fO
   · intro hk
     repeat' first
       | exact trivial
       | (refine Ob.mk (rfl) ?_; cbv)
       | (refine af.by hP (A3 (aB (bN h (h.ae.getD ((i:Int)).toNat default).ag c1) (h.ae.getD ((i:Int)).toNat default).ag).spoke ⟨(h.ae.getD ((i:Int)).toNat default).dH,id⟩ (by rw[e1]; exact hp.2) (ik (aB (bN h (h.ae.getD ((i:Int)).toNat default).ag c1) (h.ae.getD ((i:Int)).toNat default).ag).spoke (dG (h.ae.getD ((i:Int)).toNat default))) (by rw[dG,fI]) (ij (aB (bN h (h.ae.getD ((i:Int)).toNat default).ag c1) (h.ae.getD ((i:Int)).toNat default).ag).spoke ⟨(h.ae.getD ((i:Int)).toNat default).dH,id⟩) rfl) ?_; cbv)
       | (refine Sv.mk (fun _=>(c_ h (h.ae.getD ((i:Int)).toNat default)).cabins) (e2) ?_; cbv;(repeat (refine Pz.mk ?_; cbv)); exact hk)
       | (refine Pz.mk ?_; cbv) | (refine aW.mk ?_ (by kernel_rfl) ?_; rotate_left; cbv; rotate_right) | refine⟨rfl, ?_⟩ | refine And.intro ?_ ?_ | exact rfl | fail
   repeat' first
     | exact trivial
     | (refine af.by hP (Lt h.rules (h.ae.getD ((i:Int)).toNat default) h.now hs.1 (A8 h.rules (h.ae.getD ((i:Int)).toNat default) h.now) rfl (eT h.rules (h.ae.getD ((i:Int)).toNat default) h.now) rfl) ?_; cbv)
     | (refine Pz.mk ?_; cbv) | (refine aW.mk ?_ (by kernel_rfl) ?_; rotate_left; cbv; rotate_right) | refine⟨rfl, ?_⟩ | exact rfl | fail
   all_goals
     refine Br.split (fun k0=> ?_) (fun k0=> ?_) <;> cbv
     · have k0:eT h.rules (h.ae.getD ((i:Int)).toNat default) h.now=true:=k0;exact absurd k0 hk
     repeat' first
       | exact trivial
       | (refine af.by hP (vT h.ae id hs.2.1 (fu h.ae (h.ae.getD ((i:Int)).toNat default).id) (by rw[fI])) ?_; cbv)
       | (refine Pz.mk ?_; cbv) | (refine aW.mk ?_ (by kernel_rfl) ?_; rotate_left; cbv; rotate_right) | refine⟨rfl, ?_⟩ | refine And.intro ?_ ?_ | exact rfl | fail
     refine Br.split (fun h4=> ?_) (fun h4=> ?_) <;> cbv
     · have h4:((h.ae.getD ((i:Int)).toNat default).al != -1)=true:=h4;have h4:(h.ae.getD ((i:Int)).toNat default).al≠ -1:=by simpa using h4
       have kT:=uk hf h4;have l6:0≤(h.ae.getD ((i:Int)).toNat default).al∧(h.ae.getD ((i:Int)).toNat default).al<((c_ h (h.ae.getD ((i:Int)).toNat default)).cabins.length:Int):=um kT;obtain rfl:x=bN {c_ h (h.ae.getD ((i:Int)).toNat default) with ae:=fu h.ae (h.ae.getD ((i:Int)).toNat default).id} (h.ae.getD ((i:Int)).toNat default).al (j_ (aB (c_ h (h.ae.getD ((i:Int)).toNat default)) (h.ae.getD ((i:Int)).toNat default).al) (h.ae.getD ((i:Int)).toNat default).aj):=hx.trans (wh h4)
       repeat' first
         | exact trivial
         | (refine Ob.mk (l6) ?_; cbv)
         | (refine af.by hP (AX (aB (c_ h (h.ae.getD ((i:Int)).toNat default)) (h.ae.getD ((i:Int)).toNat default).al).seats (h.ae.getD ((i:Int)).toNat default).aj (bz (aB (c_ h (h.ae.getD ((i:Int)).toNat default)) (h.ae.getD ((i:Int)).toNat default).al).seats (h.ae.getD ((i:Int)).toNat default).aj 0 0 0 (-1)) rfl (bG (aB (c_ h (h.ae.getD ((i:Int)).toNat default)) (h.ae.getD ((i:Int)).toNat default).al).seats (h.ae.getD ((i:Int)).toNat default).aj 0 0 0 (-1)) rfl) ?_; cbv)
         | (refine Sv.mk (fun _=>(bN (c_ h (h.ae.getD ((i:Int)).toNat default)) (h.ae.getD ((i:Int)).toNat default).al (j_ (aB (c_ h (h.ae.getD ((i:Int)).toNat default)) (h.ae.getD ((i:Int)).toNat default).al) (h.ae.getD ((i:Int)).toNat default).aj)).cabins) (rfl) ?_; cbv)
         | (refine Pz.mk ?_; cbv) | (refine aW.mk ?_ (by kernel_rfl) ?_; rotate_left; cbv; rotate_right) | refine⟨rfl, ?_⟩ | refine And.intro ?_ ?_ | exact rfl | fail
     · have h4:((h.ae.getD ((i:Int)).toNat default).al != -1)=false:=h4;have h4:(h.ae.getD ((i:Int)).toNat default).al = -1:=by simpa using h4
       obtain rfl:x = {c_ h (h.ae.getD ((i:Int)).toNat default) with ae:=fu h.ae (h.ae.getD ((i:Int)).toNat default).id}:=hx.trans (Bq h4)
       repeat' first | exact trivial | refine⟨rfl, ?_⟩ | fail
set_option maxHeartbeats 4000000 in
theorem Ua (h:ai) (id:Int) (hs:a_ h) (x:ai) (hx:x=om h id) (c:Int) (hc:c=aU h (ke id)):Spec Tryz.prog 225 [cG h,iA id] (aG (.aS [(true,fb fun _=>x),(false,[.int .i64 fun _=>c])])):=by
 by_cases hv:aU h (ke id)=0
 rotate_left
 · obtain rfl:x=h:=hx.trans (if_neg hv);have k1:(c != 0)=true:=by rw[hc]; simpa using hv
   refine aF au Tryz.func225 rfl rfl (fr:=true) (fun _=>by kernel_rfl) fun P hP hA=> ?_;cbv;refine af.by hP (kg x hs) ?_;cbv;refine af.by hP (iY x (ke id) hs c hc) ?_;cbv;refine Br.split (fun k0=> ?_) (fun k0=> ?_) <;> cbv
   · repeat' first | exact trivial | refine⟨rfl, ?_⟩ | fail
   · have k0:(c != 0)=false:=k0;rw[k1] at k0; cases k0
 have hx:=hx.trans (if_pos hv);obtain⟨i,k,p,cb,o,aZ,ep,st⟩:=sV (.inr rfl) hv;have hq:x=uj h p:=hx.trans (congrArg (uj h) ep);have hp:iS (aB h p.ag):=by rw[o.iJ]; exact hs.2.2.1.2 cb (List.mem_of_getElem? o.hk)
 have hf:=o.al;have dw:0≤p.ag∧p.ag<(h.cabins.length:Int):=o.lY;obtain rfl:p.id=id:=aZ;have pe:h.ae.getD ((i:Int)).toNat default=p:=by rw[Int.toNat_natCast,List.getD_eq_getElem?_getD,o.hi]; rfl
 have pJ:(dz h p).todo.length≤aN:=by rw[o.iv.2.2.2.1]; exact hs.2.2.2.1
 obtain rfl:x=uj h p:=hq;refine aF au Tryz.func225 rfl rfl (fr:=true) (fun _=>by kernel_rfl) fun P hP hA=> ?_;cbv;refine af.by hP (kg h hs) ?_;cbv;refine af.by hP (iY h (ke p.id) hs c hc) ?_;cbv;refine Br.split (fun k0=> ?_) (fun k0=> ?_) <;> cbv
 · have k0:(c != 0)=true:=k0;have k0:¬c=0:=by simpa using k0
   exact absurd (hc.trans hv) k0
 have k0:(c != 0)=false:=k0;obtain rfl:c=0:=by simpa using k0
 apply fO
 · intro hk
   repeat' first
     | exact trivial
     | (refine af.by hP (sw h p.id (i:Int) o.at_.symm) ?_; cbv)
     | (refine Ix.mk (p) (Int.natCast_nonneg i) (o.hi) ?_; cbv)
     | (refine Pz.mk ?_; cbv) | (refine aW.mk ?_ (by kernel_rfl) ?_; rotate_left; cbv; rotate_right) | refine⟨rfl, ?_⟩ | refine And.intro ?_ ?_ | exact rfl | fail
   all_goals exact hk
 repeat' first
   | exact trivial
   | (refine aD.by hP (Ma h p hs.1 hs.2.1 dw hp hf) ?_; cbv)
   | (refine af.by hP (sD (dz h p).todo p.ag pJ (eD (dz h p).todo p.ag) rfl) ?_; cbv)
   | (refine Pz.mk ?_; cbv) | (refine aW.mk ?_ (by kernel_rfl) ?_; rotate_left; cbv; rotate_right) | refine⟨rfl, ?_⟩ | refine And.intro ?_ ?_ | exact rfl | fail
set_option maxHeartbeats 4000000 in
theorem Ub (h:ai) (id:Int) (hs:a_ h) (x:ai) (hx:x=om h id) (c:Int) (hc:c=aU h (ke id)):Spec Tryz.prog 92 [cG h,iA id] (aG (.aS [(true,fb fun _=>x),(false,[.int .i64 fun _=>c])])):=by
 by_cases hv:aU h (ke id)=0
 rotate_left
 · obtain rfl:x=h:=hx.trans (if_neg hv);have k1:(c != 0)=true:=by rw[hc]; simpa using hv
   refine aF au Tryz.func92 rfl rfl (fr:=true) (fun _=>by kernel_rfl) fun P hP hA=> ?_;cbv;refine af.by hP (jI x hs) ?_;cbv;refine af.by hP (jH x (ke id) hs c hc) ?_;cbv;refine Br.split (fun k0=> ?_) (fun k0=> ?_) <;> cbv
   · repeat' first | exact trivial | refine⟨rfl, ?_⟩ | fail
   · have k0:(c != 0)=false:=k0;rw[k1] at k0; cases k0
 have hx:=hx.trans (if_pos hv);obtain⟨i,k,p,cb,o,aZ,ep,st⟩:=sV (.inr rfl) hv;have hq:x=uj h p:=hx.trans (congrArg (uj h) ep);have hp:iS (aB h p.ag):=by rw[o.iJ]; exact hs.2.2.1.2 cb (List.mem_of_getElem? o.hk)
 have hf:=o.al;have dw:0≤p.ag∧p.ag<(h.cabins.length:Int):=o.lY;obtain rfl:p.id=id:=aZ;have pe:h.ae.getD ((i:Int)).toNat default=p:=by rw[Int.toNat_natCast,List.getD_eq_getElem?_getD,o.hi]; rfl
 have pJ:(dz h p).todo.length≤aN:=by rw[o.iv.2.2.2.1]; exact hs.2.2.2.1
 obtain rfl:x=uj h p:=hq;refine aF au Tryz.func92 rfl rfl (fr:=true) (fun _=>by kernel_rfl) fun P hP hA=> ?_;cbv;refine af.by hP (jI h hs) ?_;cbv;refine af.by hP (jH h (ke p.id) hs c hc) ?_;cbv;refine Br.split (fun k0=> ?_) (fun k0=> ?_) <;> cbv
 · have k0:(c != 0)=true:=k0;have k0:¬c=0:=by simpa using k0
   exact absurd (hc.trans hv) k0
 have k0:(c != 0)=false:=k0;obtain rfl:c=0:=by simpa using k0
 apply fO
 · intro hk
   repeat' first
     | exact trivial
     | (refine af.by hP (nV h p.id (i:Int) o.at_.symm) ?_; cbv)
     | (refine Ix.mk (p) (Int.natCast_nonneg i) (o.hi) ?_; cbv)
     | (refine Pz.mk ?_; cbv) | (refine aW.mk ?_ (by kernel_rfl) ?_; rotate_left; cbv; rotate_right) | refine⟨rfl, ?_⟩ | refine And.intro ?_ ?_ | exact rfl | fail
   all_goals exact hk
 repeat' first
   | exact trivial
   | (refine aD.by hP (Mb h hs (i:=i) (k:=k) (c:=cb) (by rw[pe]; exact o) (by rw[pe]; exact st) p.id (by rw[pe]) (dz h p) (by rw[pe])) ?_; cbv)
   | (refine af.by hP (tZ (dz h p).todo p.ag pJ (eD (dz h p).todo p.ag) rfl) ?_; cbv)
   | (refine Pz.mk ?_; cbv) | (refine aW.mk ?_ (by kernel_rfl) ?_; rotate_left; cbv; rotate_right) | refine⟨rfl, ?_⟩ | refine And.intro ?_ ?_ | exact rfl | fail
end Go.Proofs.YtpklefhdkkegiaaGreat

