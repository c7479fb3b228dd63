/- Parts of a proof. No conditions. -/

import Derived.Test.YtpklefhdkkegiaaGreatG26
import Derived.Test.YtpklefhdkkegiaaGreatG25
import Derived.Test.YtpklefhdkkegiaaGreatG20
import Derived.Test.YtpklefhdkkegiaaGreatG24
set_option linter.unusedSimpArgs false
set_option linter.unusedVariables false
namespace Go.Proofs.YtpklefhdkkegiaaGreat
open Go
set_option maxRecDepth 100000
set_option maxHeartbeats 4000000 in
theorem IG (h:al) (hs:bJ h) {i k:Nat} {c:bh} (o:cE h i k (h.ae.getD ((i:Int)).toNat default) c) (h2:(h.ae.getD ((i:Int)).toNat default).st=2) (id:Int) (mj:(h.ae.getD ((i:Int)).toNat default).id=id) (x:al) (hx:x=fM h (h.ae.getD ((i:Int)).toNat default)):bY Tryz.prog 132 [MP h,iA id] (MQ h) (eV (sJ fun _=>x) []):=by
 obtain⟨hi,ei⟩:=o.lt;have oi:0≤(i:Int)∧(i:Int)<(h.ae.length:Int):=by omega
 have vV:bq h.ae id=(i:Int):=by rw[←mj]; exact o.at_
 have hp:ln (aE h (h.ae.getD ((i:Int)).toNat default).ah):=by rw[o.mi]; exact hs.2.2.1.2 c (List.mem_of_getElem? o.hk)
 have hf:=o.aq;have fQ:0≤(h.ae.getD ((i:Int)).toNat default).ah∧(h.ae.getD ((i:Int)).toNat default).ah<(h.cabins.length:Int):=o.tg
 let c1:bh:={aE h (h.ae.getD ((i:Int)).toNat default).ah with ai:=bW (aE h (h.ae.getD ((i:Int)).toNat default).ah).ai (h.ae.getD ((i:Int)).toNat default).au 1 (-1) 0 0}
 have e1:aE (bU h (h.ae.getD ((i:Int)).toNat default).ah c1) (h.ae.getD ((i:Int)).toNat default).ah=c1:=rG fQ;have e2:(bU h (h.ae.getD ((i:Int)).toNat default).ah c1).cabins.set (h.ae.getD ((i:Int)).toNat default).ah.toNat {aE (bU h (h.ae.getD ((i:Int)).toNat default).ah c1) (h.ae.getD ((i:Int)).toNat default).ah with spoke:=iK (aE (bU h (h.ae.getD ((i:Int)).toNat default).ah c1) (h.ae.getD ((i:Int)).toNat default).ah).spoke (eB (h.ae.getD ((i:Int)).toNat default))} = (dE h (h.ae.getD ((i:Int)).toNat default)).cabins:=by rw[e1]; exact vS
 by_cases hk:il h.rules (h.ae.getD ((i:Int)).toNat default) h.now=true
 · have hx :x=nj h (h.ae.getD ((i:Int)).toNat default):=hx.trans (if_pos hk);have e3:aE (dE h (h.ae.getD ((i:Int)).toNat default)) (h.ae.getD ((i:Int)).toNat default).ah=fZ (aE h (h.ae.getD ((i:Int)).toNat default).ah) (h.ae.getD ((i:Int)).toNat default):=rG fQ
   have hq:qm (aE (dE h (h.ae.getD ((i:Int)).toNat default)) (h.ae.getD ((i:Int)).toNat default).ah).row (dj h.rules (fA h.rules (h.ae.getD ((i:Int)).toNat default) h.now) h.now)=bE bd (dj h.rules (fA h.rules (h.ae.getD ((i:Int)).toNat default) h.now) h.now) (aE (dE h (h.ae.getD ((i:Int)).toNat default)) (h.ae.getD ((i:Int)).toNat default).ah).row:=by
     rw[e3];show qm (aE h (h.ae.getD ((i:Int)).toNat default).ah).row _=bE bd _ (aE h (h.ae.getD ((i:Int)).toNat default).ah).row;rw[o.mi];exact o.Co h2 hk
   have e4:(dE h (h.ae.getD ((i:Int)).toNat default)).cabins.set (h.ae.getD ((i:Int)).toNat default).ah.toNat {aE (dE h (h.ae.getD ((i:Int)).toNat default)) (h.ae.getD ((i:Int)).toNat default).ah with row:=bE bd (dj h.rules (fA h.rules (h.ae.getD ((i:Int)).toNat default) h.now) h.now) (aE (dE h (h.ae.getD ((i:Int)).toNat default)) (h.ae.getD ((i:Int)).toNat default).ah).row} = (nj h (h.ae.getD ((i:Int)).toNat default)).cabins:=rfl;refine iB aD Tryz.func132 rfl rfl (fr:=true) (fun _=>by kernel_rfl) rfl rfl fun P hP hA hB=> ?_;cbv;apply gz
   · intro hk
     repeat' first
       | exact trivial
       | (refine ag.by hP (m9 h id (i:Int) vV.symm) ?_; cbv)
       | (refine Ob.mk (oi) ?_; cbv)
       | (refine Pz.mk ?_; cbv) | (refine bp.mk ?_ (by kernel_rfl) ?_; rotate_left; cbv; rotate_right) | refine⟨rfl, ?_⟩ | refine And.intro ?_ ?_ | exact rfl | fail
     all_goals exact hk
   apply gz
   · intro hk
     repeat' first
       | exact trivial
       | (refine Ob.mk (fQ) ?_; cbv)
       | (refine Ob.mk (rfl) ?_; cbv)
       | (refine ag.by hP (BE (aE h (h.ae.getD ((i:Int)).toNat default).ah).ai (h.ae.getD ((i:Int)).toNat default).au (bW (aE h (h.ae.getD ((i:Int)).toNat default).ah).ai (h.ae.getD ((i:Int)).toNat default).au 1 (-1) 0 0) rfl (bS (aE h (h.ae.getD ((i:Int)).toNat default).ah).ai (h.ae.getD ((i:Int)).toNat default).au 1 (-1) 0 0) rfl) ?_; cbv)
       | (refine Sv.mk (fun _=>(bU h (h.ae.getD ((i:Int)).toNat default).ah c1).cabins) (rfl) ?_; cbv;(repeat (refine Pz.mk ?_; cbv)); exact hk)
       | (refine Pz.mk ?_; cbv) | (refine bp.mk ?_ (by kernel_rfl) ?_; rotate_left; cbv; rotate_right) | refine⟨rfl, ?_⟩ | refine And.intro ?_ ?_ | exact rfl | fail
   apply gz
   · intro hk
     repeat' first
       | exact trivial
       | (refine Ob.mk (rfl) ?_; cbv)
       | (refine ag.by hP (xX (aE (bU h (h.ae.getD ((i:Int)).toNat default).ah c1) (h.ae.getD ((i:Int)).toNat default).ah).spoke ⟨(h.ae.getD ((i:Int)).toNat default).dP,id⟩ (by rw[e1]; exact hp.2) (iK (aE (bU h (h.ae.getD ((i:Int)).toNat default).ah c1) (h.ae.getD ((i:Int)).toNat default).ah).spoke (eB (h.ae.getD ((i:Int)).toNat default))) (by rw[eB,mj]) (i_ (aE (bU h (h.ae.getD ((i:Int)).toNat default).ah c1) (h.ae.getD ((i:Int)).toNat default).ah).spoke ⟨(h.ae.getD ((i:Int)).toNat default).dP,id⟩) rfl) ?_; cbv)
       | (refine Sv.mk (fun _=>(dE h (h.ae.getD ((i:Int)).toNat default)).cabins) (e2) ?_; cbv;(repeat (refine Pz.mk ?_; cbv)); exact hk)
       | (refine Pz.mk ?_; cbv) | (refine bp.mk ?_ (by kernel_rfl) ?_; rotate_left; cbv; rotate_right) | refine⟨rfl, ?_⟩ | refine And.intro ?_ ?_ | exact rfl | fail
   repeat' first
     | exact trivial
     | (refine ag.by hP (HS h.rules (h.ae.getD ((i:Int)).toNat default) h.now hs.1 (fA h.rules (h.ae.getD ((i:Int)).toNat default) h.now) (if_pos hk).symm (il h.rules (h.ae.getD ((i:Int)).toNat default) h.now) rfl) ?_; cbv)
     | (refine Pz.mk ?_; cbv) | (refine bp.mk ?_ (by kernel_rfl) ?_; rotate_left; cbv; rotate_right) | refine⟨rfl, ?_⟩ | exact rfl | fail
   all_goals
     refine Br.split (fun k0=> ?_) (fun k0=> ?_) <;> cbv
     · repeat' first
         | exact trivial
         | (refine ag.by hP (BO h.ae (fA h.rules (h.ae.getD ((i:Int)).toNat default) h.now) hs.2.1 (gM h.ae (fA h.rules (h.ae.getD ((i:Int)).toNat default) h.now)) rfl) ?_; cbv)
         | (refine ag.by hP (A8 h.rules (fA h.rules (h.ae.getD ((i:Int)).toNat default) h.now) h.now hs.1 (dj h.rules (fA h.rules (h.ae.getD ((i:Int)).toNat default) h.now) h.now) rfl (eo h.rules (fA h.rules (h.ae.getD ((i:Int)).toNat default) h.now) h.now) rfl) ?_; cbv)
         | (refine Pz.mk ?_; cbv) | (refine bp.mk ?_ (by kernel_rfl) ?_; rotate_left; cbv; rotate_right) | refine⟨rfl, ?_⟩ | exact rfl | fail
       apply gz
       · intro hk
         repeat' first
          | exact trivial
          | (refine Ob.mk (rfl) ?_; cbv)
          | (refine ag.by hP (HO (aE (dE h (h.ae.getD ((i:Int)).toNat default)) (h.ae.getD ((i:Int)).toNat default).ah).row (dj h.rules (fA h.rules (h.ae.getD ((i:Int)).toNat default) h.now) h.now) (by rw[e3]; exact hp.1) (bE bd (dj h.rules (fA h.rules (h.ae.getD ((i:Int)).toNat default) h.now) h.now) (aE (dE h (h.ae.getD ((i:Int)).toNat default)) (h.ae.getD ((i:Int)).toNat default).ah).row) hq.symm (iL (aE (dE h (h.ae.getD ((i:Int)).toNat default)) (h.ae.getD ((i:Int)).toNat default).ah).row (dj h.rules (fA h.rules (h.ae.getD ((i:Int)).toNat default) h.now) h.now)) rfl) ?_; cbv)
          | (refine Sv.mk (fun _=>(nj h (h.ae.getD ((i:Int)).toNat default)).cabins) (e4) ?_; cbv;(repeat (refine Pz.mk ?_; cbv)); exact hk)
          | (refine Pz.mk ?_; cbv) | (refine bp.mk ?_ (by kernel_rfl) ?_; rotate_left; cbv; rotate_right) | refine⟨rfl, ?_⟩ | refine And.intro ?_ ?_ | exact rfl | fail
       all_goals
         obtain rfl:x=nj h (h.ae.getD ((i:Int)).toNat default):=hx
         repeat' first | exact trivial | refine⟨rfl, ?_⟩ | fail
     · have k0:il h.rules (h.ae.getD ((i:Int)).toNat default) h.now=false:=k0;rw[hk] at k0; cases k0
 · have hx :x=hC (dE h (h.ae.getD ((i:Int)).toNat default)) (h.ae.getD ((i:Int)).toNat default):=hx.trans (if_neg hk);refine iB aD Tryz.func132 rfl rfl (fr:=true) (fun _=>by kernel_rfl) rfl rfl fun P hP hA hB=> ?_;cbv;apply gz
   · intro hk
     repeat' first
       | exact trivial
       | (refine ag.by hP (m9 h id (i:Int) vV.symm) ?_; cbv)
       | (refine Ob.mk (oi) ?_; cbv)
       | (refine Pz.mk ?_; cbv) | (refine bp.mk ?_ (by kernel_rfl) ?_; rotate_left; cbv; rotate_right) | refine⟨rfl, ?_⟩ | refine And.intro ?_ ?_ | exact rfl | fail
     all_goals exact hk
   apply gz
   · intro hk
     repeat' first
       | exact trivial
       | (refine Ob.mk (fQ) ?_; cbv)
       | (refine Ob.mk (rfl) ?_; cbv)
       | (refine ag.by hP (BE (aE h (h.ae.getD ((i:Int)).toNat default).ah).ai (h.ae.getD ((i:Int)).toNat default).au (bW (aE h (h.ae.getD ((i:Int)).toNat default).ah).ai (h.ae.getD ((i:Int)).toNat default).au 1 (-1) 0 0) rfl (bS (aE h (h.ae.getD ((i:Int)).toNat default).ah).ai (h.ae.getD ((i:Int)).toNat default).au 1 (-1) 0 0) rfl) ?_; cbv)
       | (refine Sv.mk (fun _=>(bU h (h.ae.getD ((i:Int)).toNat default).ah c1).cabins) (rfl) ?_; cbv;(repeat (refine Pz.mk ?_; cbv)); exact hk)
       | (refine Pz.mk ?_; cbv) | (refine bp.mk ?_ (by kernel_rfl) ?_; rotate_left; cbv; rotate_right) | refine⟨rfl, ?_⟩ | refine And.intro ?_ ?_ | exact rfl | fail
   apply gz
   · intro hk
     repeat' first
       | exact trivial
       | (refine Ob.mk (rfl) ?_; cbv)
       | (refine ag.by hP (xX (aE (bU h (h.ae.getD ((i:Int)).toNat default).ah c1) (h.ae.getD ((i:Int)).toNat default).ah).spoke ⟨(h.ae.getD ((i:Int)).toNat default).dP,id⟩ (by rw[e1]; exact hp.2) (iK (aE (bU h (h.ae.getD ((i:Int)).toNat default).ah c1) (h.ae.getD ((i:Int)).toNat default).ah).spoke (eB (h.ae.getD ((i:Int)).toNat default))) (by rw[eB,mj]) (i_ (aE (bU h (h.ae.getD ((i:Int)).toNat default).ah c1) (h.ae.getD ((i:Int)).toNat default).ah).spoke ⟨(h.ae.getD ((i:Int)).toNat default).dP,id⟩) rfl) ?_; cbv)
       | (refine Sv.mk (fun _=>(dE h (h.ae.getD ((i:Int)).toNat default)).cabins) (e2) ?_; cbv;(repeat (refine Pz.mk ?_; cbv)); exact hk)
       | (refine Pz.mk ?_; cbv) | (refine bp.mk ?_ (by kernel_rfl) ?_; rotate_left; cbv; rotate_right) | refine⟨rfl, ?_⟩ | refine And.intro ?_ ?_ | exact rfl | fail
   repeat' first
     | exact trivial
     | (refine ag.by hP (HS h.rules (h.ae.getD ((i:Int)).toNat default) h.now hs.1 (HP h.rules (h.ae.getD ((i:Int)).toNat default) h.now) rfl (il h.rules (h.ae.getD ((i:Int)).toNat default) h.now) rfl) ?_; cbv)
     | (refine Pz.mk ?_; cbv) | (refine bp.mk ?_ (by kernel_rfl) ?_; rotate_left; cbv; rotate_right) | refine⟨rfl, ?_⟩ | exact rfl | fail
   all_goals
     refine Br.split (fun k0=> ?_) (fun k0=> ?_) <;> cbv
     · have k0:il h.rules (h.ae.getD ((i:Int)).toNat default) h.now=true:=k0;exact absurd k0 hk
     repeat' first
       | exact trivial
       | (refine ag.by hP (s6 h.ae id hs.2.1 (fX h.ae (h.ae.getD ((i:Int)).toNat default).id) (by rw[mj])) ?_; cbv)
       | (refine Pz.mk ?_; cbv) | (refine bp.mk ?_ (by kernel_rfl) ?_; rotate_left; cbv; rotate_right) | refine⟨rfl, ?_⟩ | refine And.intro ?_ ?_ | exact rfl | fail
     refine Br.split (fun h4=> ?_) (fun h4=> ?_) <;> cbv
     · have h4:((h.ae.getD ((i:Int)).toNat default).aq != -1)=true:=h4;have h4:(h.ae.getD ((i:Int)).toNat default).aq≠ -1:=by simpa using h4
       have lK:=vU hf h4;have nt:0≤(h.ae.getD ((i:Int)).toNat default).aq∧(h.ae.getD ((i:Int)).toNat default).aq<((dE h (h.ae.getD ((i:Int)).toNat default)).cabins.length:Int):=yn lK;obtain rfl:x=bU {dE h (h.ae.getD ((i:Int)).toNat default) with ae:=fX h.ae (h.ae.getD ((i:Int)).toNat default).id} (h.ae.getD ((i:Int)).toNat default).aq (kH (aE (dE h (h.ae.getD ((i:Int)).toNat default)) (h.ae.getD ((i:Int)).toNat default).aq) (h.ae.getD ((i:Int)).toNat default).au):=hx.trans (yk h4)
       repeat' first
         | exact trivial
         | (refine Ob.mk (nt) ?_; cbv)
         | (refine ag.by hP (xT (aE (dE h (h.ae.getD ((i:Int)).toNat default)) (h.ae.getD ((i:Int)).toNat default).aq).ai (h.ae.getD ((i:Int)).toNat default).au (bW (aE (dE h (h.ae.getD ((i:Int)).toNat default)) (h.ae.getD ((i:Int)).toNat default).aq).ai (h.ae.getD ((i:Int)).toNat default).au 0 0 0 (-1)) rfl (bS (aE (dE h (h.ae.getD ((i:Int)).toNat default)) (h.ae.getD ((i:Int)).toNat default).aq).ai (h.ae.getD ((i:Int)).toNat default).au 0 0 0 (-1)) rfl) ?_; cbv)
         | (refine Sv.mk (fun _=>(bU (dE h (h.ae.getD ((i:Int)).toNat default)) (h.ae.getD ((i:Int)).toNat default).aq (kH (aE (dE h (h.ae.getD ((i:Int)).toNat default)) (h.ae.getD ((i:Int)).toNat default).aq) (h.ae.getD ((i:Int)).toNat default).au)).cabins) (rfl) ?_; cbv)
         | (refine Pz.mk ?_; cbv) | (refine bp.mk ?_ (by kernel_rfl) ?_; rotate_left; cbv; rotate_right) | refine⟨rfl, ?_⟩ | refine And.intro ?_ ?_ | exact rfl | fail
     · have h4:((h.ae.getD ((i:Int)).toNat default).aq != -1)=false:=h4;have h4:(h.ae.getD ((i:Int)).toNat default).aq = -1:=by simpa using h4
       obtain rfl:x = {dE h (h.ae.getD ((i:Int)).toNat default) with ae:=fX h.ae (h.ae.getD ((i:Int)).toNat default).id}:=hx.trans (yl h4)
       repeat' first | exact trivial | refine⟨rfl, ?_⟩ | fail
set_option maxHeartbeats 4000000 in
theorem Qh (h:al) (id:Int) (hs:bJ h) (x:al) (hx:x=tn h id) (c:Int) (hc:c=bx h (nq id)):Spec Tryz.prog 92 [dV h,iA id] (aM (.ba [(true,jq fun _=>x),(false,[.int .i64 fun _=>c])])):=by
 by_cases hv:bx h (nq id)=0
 rotate_left
 · obtain rfl:x=h:=hx.trans (if_neg hv);have k1:(c != 0)=true:=by rw[hc]; simpa using hv
   refine aN aD Tryz.func92 rfl rfl (fr:=true) (fun _=>by kernel_rfl) fun P hP hA=> ?_;cbv;refine ag.by hP (iE x hs) ?_;cbv;refine ag.by hP (jw x (nq id) hs c hc) ?_;cbv;refine Br.split (fun k0=> ?_) (fun k0=> ?_) <;> cbv
   · repeat' first | exact trivial | refine⟨rfl, ?_⟩ | fail
   · have k0:(c != 0)=false:=k0;rw[k1] at k0; cases k0
 have hx:=hx.trans (if_pos hv);obtain⟨i,k,p,cb,o,bm,ep,st⟩:=yi (.inr rfl) hv;have hq:x=ym h p:=hx.trans (congrArg (ym h) ep);have hp:ln (aE h p.ah):=by rw[o.mi]; exact hs.2.2.1.2 cb (List.mem_of_getElem? o.hk)
 have hf:=o.aq;have fQ:0≤p.ah∧p.ah<(h.cabins.length:Int):=o.tg;obtain rfl:p.id=id:=bm;have pe:h.ae.getD ((i:Int)).toNat default=p:=by rw[Int.toNat_natCast,List.getD_eq_getElem?_getD,o.hi]; rfl
 have s_:(fM h p).todo.length≤aS:=by rw[o.mJ.2.2.2.1]; exact hs.2.2.2.1
 obtain rfl:x=ym h p:=hq;refine aN aD Tryz.func92 rfl rfl (fr:=true) (fun _=>by kernel_rfl) fun P hP hA=> ?_;cbv;refine ag.by hP (iE h hs) ?_;cbv;refine ag.by hP (jw h (nq p.id) hs c hc) ?_;cbv;refine Br.split (fun k0=> ?_) (fun k0=> ?_) <;> cbv
 · have k0:(c != 0)=true:=k0;have k0:¬c=0:=by simpa using k0
   exact absurd (hc.trans hv) k0
 have k0:(c != 0)=false:=k0;obtain rfl:c=0:=by simpa using k0
 apply gz
 · intro hk
   repeat' first
     | exact trivial
     | (refine ag.by hP (m9 h p.id (i:Int) o.at_.symm) ?_; cbv)
     | (refine Ix.mk (p) (Int.natCast_nonneg i) (o.hi) ?_; cbv)
     | (refine Pz.mk ?_; cbv) | (refine bp.mk ?_ (by kernel_rfl) ?_; rotate_left; cbv; rotate_right) | refine⟨rfl, ?_⟩ | refine And.intro ?_ ?_ | exact rfl | fail
   all_goals exact hk
 repeat' first
   | exact trivial
   | (refine aJ.by hP (IG h hs (i:=i) (k:=k) (c:=cb) (by rw[pe]; exact o) (by rw[pe]; exact st) p.id (by rw[pe]) (fM h p) (by rw[pe])) ?_; cbv)
   | (refine ag.by hP (rr (fM h p).todo p.ah s_ (fj (fM h p).todo p.ah) rfl) ?_; cbv)
   | (refine Pz.mk ?_; cbv) | (refine bp.mk ?_ (by kernel_rfl) ?_; rotate_left; cbv; rotate_right) | refine⟨rfl, ?_⟩ | refine And.intro ?_ ?_ | exact rfl | fail
end Go.Proofs.YtpklefhdkkegiaaGreat

