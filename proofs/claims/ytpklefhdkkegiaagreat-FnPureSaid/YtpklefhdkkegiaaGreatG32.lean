/- Parts of a proof. No conditions. -/

import Derived.Test.YtpklefhdkkegiaaGreatG31
import Derived.Test.YtpklefhdkkegiaaGreatG26
import Derived.Test.YtpklefhdkkegiaaGreatG25
import Derived.Test.YtpklefhdkkegiaaGreatG14
import Derived.Test.YtpklefhdkkegiaaGreatG04
set_option linter.unusedSimpArgs false
set_option linter.unusedVariables false
namespace Go.Proofs.YtpklefhdkkegiaaGreat
open Go
set_option maxRecDepth 100000
set_option maxHeartbeats 4000000 in
theorem IH (h:al) (k:Int) (hs:bJ h) (x:al) (hx:x=gO h k) (y:Int) (hy:y=eh h k):Spec Tryz.prog 67 [dV h,iA k] (aM (.ba [(true,jq fun _=>x),(false,[.int .i64 fun _=>y])])):=by
 by_cases hv:eh h k=0
 · obtain rfl:x=h:=hx.trans (if_pos hv);refine aN aD Tryz.func67 rfl rfl (fr:=true) (fun _=>by kernel_rfl) fun P hP hA=> ?_;cbv;refine ag.by hP (iE x hs) ?_;cbv;refine ag.by hP (GX x k hs y hy) ?_;cbv;refine Br.split (fun k0=> ?_) (fun k0=> ?_) <;> cbv
   · obtain rfl:y=0:=hy.trans hv
     repeat' first | exact trivial | refine⟨rfl, ?_⟩ | fail
   · have k0:(y == 0)=false:=k0;rw[hy.trans hv] at k0; cases k0
 obtain⟨n,cb,i,p,rfl,o,st,fr,bm,ep⟩:=Iw hv;have hx:x=oH h (n:Int) p:=hx.trans ((if_neg hv).trans (by rw[ep]));rw[←bm] at hy;have hk:=bD o.hk;have fQ:0≤(n:Int)∧(n:Int)<(h.cabins.length:Int):=by omega
 have hp:ln (aE h (n:Int)):=by rw[show aE h (n:Int)=cb from nk o.hk]; exact hs.2.2.1.2 cb (List.mem_of_getElem? o.hk)
 have h1:1≤p.id:=(qn o.ok).id.1;have hw:=(fv o.hg.rules).cC;have Rx:=bF o.hg.now
 let G1:al:=bU h (n:Int) {aE h (n:Int) with ai:=bW (aE h (n:Int)).ai p.au (-1) 1 0 0}
 let G2:al:=bU h (n:Int) {aE h (n:Int) with ai:=bW (aE h (n:Int)).ai p.au (-1) 1 0 0,row:=iZ (aE h (n:Int)).row p.id}
 have g1:aE G1 (n:Int) = {aE h (n:Int) with ai:=bW (aE h (n:Int)).ai p.au (-1) 1 0 0}:=rG fQ;have g2:aE G2 (n:Int) = {aE h (n:Int) with ai:=bW (aE h (n:Int)).ai p.au (-1) 1 0 0,row:=iZ (aE h (n:Int)).row p.id}:=rG fQ;have e2:G1.cabins.set ((n:Int)).toNat {aE G1 (n:Int) with row:=iZ (aE G1 (n:Int)).row p.id} = G2.cabins:=by rw[g1]; exact vS
 have e3:G2.cabins.set ((n:Int)).toNat {aE G2 (n:Int) with spoke:=jt (aE G2 (n:Int)).spoke (eB (hG h p))} = (oH h (n:Int) p).cabins:=by rw[g2]; exact vS
 refine aN aD Tryz.func67 rfl rfl (fr:=true) (fun _=>by kernel_rfl) fun P hP hA=> ?_;cbv;refine ag.by hP (iE h hs) ?_;cbv;refine ag.by hP (GX h (n:Int) hs y (hy.trans bm)) ?_;cbv;refine Br.split (fun k0=> ?_) (fun k0=> ?_) <;> cbv
 · have k0:(y == 0)=true:=k0;have k0:y=0:=by simpa using k0
   omega
 obtain rfl:y=p.id:=hy
 repeat' first
   | exact trivial
   | (refine ag.by hP (m9 h p.id (i:Int) o.at_.symm) ?_; cbv)
   | (refine Ix.mk (p) (Int.natCast_nonneg i) (o.hi) ?_; cbv)
   | (refine Ob.mk (fQ) ?_; cbv)
   | (refine Ob.mk (rfl) ?_; cbv)
   | (refine Ar.exact (by(try simp only[nc] at *); omega) (by(try simp only[nc] at *); omega) ?_; cbv)
   | (refine ag.by hP (NP (aE h (n:Int)).ai p.au (bW (aE h (n:Int)).ai p.au (-1) 1 0 0) rfl (bS (aE h (n:Int)).ai p.au (-1) 1 0 0) rfl) ?_; cbv)
   | (refine Sv.mk (fun _=>G1.cabins) (rfl) ?_; cbv)
   | (refine ag.by hP (Ho (aE G1 (n:Int)).row p.id (by rw[g1]; exact hp.1) (iZ (aE G1 (n:Int)).row p.id) rfl (decide (0≤dx (aE G1 (n:Int)).row p.id)) rfl) ?_; cbv)
   | (refine Sv.mk (fun _=>G2.cabins) (e2) ?_; cbv)
   | (refine ag.by hP (BO h.ae (hG h p) hs.2.1 (gM h.ae (hG h p)) rfl) ?_; cbv)
   | (refine ag.by hP (Oz (aE G2 (n:Int)).spoke (eB (hG h p)) (by rw[g2]; exact hp.2) (jt (aE G2 (n:Int)).spoke (eB (hG h p))) rfl (fy (aE G2 (n:Int)).spoke (eB (hG h p))) rfl) ?_; cbv)
   | (refine Sv.mk (fun _=>(oH h (n:Int) p).cabins) (e3) ?_; cbv)
   | (refine Pz.mk ?_; cbv) | (refine bp.mk ?_ (by kernel_rfl) ?_; rotate_left; cbv; rotate_right) | refine⟨rfl, ?_⟩ | refine And.intro ?_ ?_ | exact rfl | fail
 all_goals
   obtain rfl:x=oH h (n:Int) p:=hx
   repeat' first | exact trivial | refine⟨rfl, ?_⟩ | fail
end Go.Proofs.YtpklefhdkkegiaaGreat

