/- Parts of a proof. No conditions. -/

import Derived.Test.YtpklefhdkkegiaaGreatG31
import Derived.Test.YtpklefhdkkegiaaGreatG26
import Derived.Test.YtpklefhdkkegiaaGreatG25
import Derived.Test.YtpklefhdkkegiaaGreatG14
import Derived.Test.YtpklefhdkkegiaaGreatG04
set_option linter.unusedSimpArgs false
set_option linter.unusedVariables false
namespace Go.Proofs.YtpklefhdkkegiaaGreat
open Go
set_option maxRecDepth 100000
def Ug (h:ai):List (Nat × dQ):=[(0, .own .int fun _=>h.rules.seats),(1, .own .aE fun _=>h.ae),(2, .own .ag fun _=>h.cabins),(3, .own .int fun _=>h.todo),(4, .own .int fun _=>h.aq)]
set_option maxHeartbeats 4000000 in
theorem Me (h:ai) (k:Int) (hs:a_ h) (x:ai) (hx:x=dU h k) (y:Int) (hy:y=cH h k):Spec Tryz.prog 67 [cG h,iA k] (aG (.aS [(true,fb fun _=>x),(false,[.int .i64 fun _=>y])])):=by
 by_cases hv:cH h k=0
 · obtain rfl:x=h:=hx.trans (if_pos hv);refine aF au Tryz.func67 rfl rfl (fr:=true) (fun _=>by kernel_rfl) fun P hP hA=> ?_;cbv;refine af.by hP (jI x hs) ?_;cbv;refine af.by hP (EP x k hs y hy) ?_;cbv;refine Br.split (fun k0=> ?_) (fun k0=> ?_) <;> cbv
   · obtain rfl:y=0:=hy.trans hv
     repeat' first | exact trivial | refine⟨rfl, ?_⟩ | fail
   · have k0:(y == 0)=false:=k0;rw[hy.trans hv] at k0; cases k0
 obtain⟨n,cb,i,p,rfl,o,st,fr,aZ,ep⟩:=Bk hv;have hx:x=kL h (n:Int) p:=hx.trans ((if_neg hv).trans (by rw[ep]));rw[←aZ] at hy;have hk:=bC o.hk;have dw:0≤(n:Int)∧(n:Int)<(h.cabins.length:Int):=by omega
 have hp:iS (aB h (n:Int)):=by rw[show aB h (n:Int)=cb from jt o.hk]; exact hs.2.2.1.2 cb (List.mem_of_getElem? o.hk)
 have h1:1≤p.id:=(iH o.ok).id.1;have hw:=(eB o.hg.rules).bE;have Mf:=bD o.hg.now
 let G1:ai:=bN h (n:Int) {aB h (n:Int) with seats:=bz (aB h (n:Int)).seats p.aj (-1) 1 0 0}
 let G2:ai:=bN h (n:Int) {aB h (n:Int) with seats:=bz (aB h (n:Int)).seats p.aj (-1) 1 0 0,row:=iX (aB h (n:Int)).row p.id}
 have g1:aB G1 (n:Int) = {aB h (n:Int) with seats:=bz (aB h (n:Int)).seats p.aj (-1) 1 0 0}:=sX dw;have g2:aB G2 (n:Int) = {aB h (n:Int) with seats:=bz (aB h (n:Int)).seats p.aj (-1) 1 0 0,row:=iX (aB h (n:Int)).row p.id}:=sX dw;have e2:G1.cabins.set ((n:Int)).toNat {aB G1 (n:Int) with row:=iX (aB G1 (n:Int)).row p.id} = G2.cabins:=by rw[g1]; exact yN
 have e3:G2.cabins.set ((n:Int)).toNat {aB G2 (n:Int) with spoke:=kJ (aB G2 (n:Int)).spoke (dG (fU h p))} = (kL h (n:Int) p).cabins:=by rw[g2]; exact yN
 refine aF au Tryz.func67 rfl rfl (fr:=true) (fun _=>by kernel_rfl) fun P hP hA=> ?_;cbv;refine af.by hP (jI h hs) ?_;cbv;refine af.by hP (EP h (n:Int) hs y (hy.trans aZ)) ?_;cbv;refine Br.split (fun k0=> ?_) (fun k0=> ?_) <;> cbv
 · have k0:(y == 0)=true:=k0;have k0:y=0:=by simpa using k0
   omega
 obtain rfl:y=p.id:=hy
 repeat' first
   | exact trivial
   | (refine af.by hP (nV h p.id (i:Int) o.at_.symm) ?_; cbv)
   | (refine Ix.mk (p) (Int.natCast_nonneg i) (o.hi) ?_; cbv)
   | (refine Ob.mk (dw) ?_; cbv)
   | (refine Ob.mk (rfl) ?_; cbv)
   | (refine Ar.exact (by(try simp only[nc] at *); omega) (by(try simp only[nc] at *); omega) ?_; cbv)
   | (refine af.by hP (RZ (aB h (n:Int)).seats p.aj (bz (aB h (n:Int)).seats p.aj (-1) 1 0 0) rfl (bG (aB h (n:Int)).seats p.aj (-1) 1 0 0) rfl) ?_; cbv)
   | (refine Sv.mk (fun _=>G1.cabins) (rfl) ?_; cbv)
   | (refine af.by hP (KY (aB G1 (n:Int)).row p.id (by rw[g1]; exact hp.1) (iX (aB G1 (n:Int)).row p.id) rfl (decide (0≤cU (aB G1 (n:Int)).row p.id)) rfl) ?_; cbv)
   | (refine Sv.mk (fun _=>G2.cabins) (e2) ?_; cbv)
   | (refine af.by hP (E2 h.ae (fU h p) hs.2.1 (ff h.ae (fU h p)) rfl) ?_; cbv)
   | (refine af.by hP (SM (aB G2 (n:Int)).spoke (dG (fU h p)) (by rw[g2]; exact hp.2) (kJ (aB G2 (n:Int)).spoke (dG (fU h p))) rfl (gq (aB G2 (n:Int)).spoke (dG (fU h p))) rfl) ?_; cbv)
   | (refine Sv.mk (fun _=>(kL h (n:Int) p).cabins) (e3) ?_; cbv)
   | (refine Pz.mk ?_; cbv) | (refine aW.mk ?_ (by kernel_rfl) ?_; rotate_left; cbv; rotate_right) | refine⟨rfl, ?_⟩ | refine And.intro ?_ ?_ | exact rfl | fail
 all_goals
   obtain rfl:x=kL h (n:Int) p:=hx
   repeat' first | exact trivial | refine⟨rfl, ?_⟩ | fail
set_option maxHeartbeats 4000000 in
theorem Uh (h:ai) (n:Nat) (hs:a_ h) {i:Nat} {cb:ba} (o:b_ h i n (h.ae.getD ((i:Int)).toNat default) cb) (st:(h.ae.getD ((i:Int)).toNat default).st=1) (id:Int) (aZ:(h.ae.getD ((i:Int)).toNat default).id=id) (fI:id=mo h cb) (x:ai) (hx:x=kL h (n:Int) (h.ae.getD ((i:Int)).toNat default)):bJ Tryz.prog 79 [nf h,nT fun _=>n] (nU h) (dx (.aS [(true,fb fun _=>x),(false,[.int .i64 fun _=>id])]) []):=by
 have hk:=bC o.hk;have dw:0≤(n:Int)∧(n:Int)<(h.cabins.length:Int):=by omega
 have hp:iS (aB h (n:Int)):=by rw[show aB h (n:Int)=cb from jt o.hk]; exact hs.2.2.1.2 cb (List.mem_of_getElem? o.hk)
 have h1:1≤(h.ae.getD ((i:Int)).toNat default).id:=(iH o.ok).id.1;have hw:=(eB o.hg.rules).bE;have Mf:=bD o.hg.now
 have A5:h.cabins[n]=cb:=by
   have:=o.hk;rw[List.getElem?_eq_getElem hk] at this;exact Option.some.inj this
 have sY:br h.ae id=(i:Int):=by rw[←aZ]; exact o.at_
 obtain⟨hi,_⟩:=o.lt;have oi:0≤(i:Int)∧(i:Int)<(h.ae.length:Int):=by omega
 have WM:1≤id:=by rw[←aZ]; exact h1
 refine PZ au Tryz.func79 rfl rfl (fr:=true) (fun _=>by kernel_rfl) rfl rfl fun P hP hA hB=> ?_;cbv;refine af.by hP (Ky h n hk (dy.2 o.hg) id (by rw[A5]; exact fI)) ?_;cbv;refine Br.split (fun k0=> ?_) (fun k0=> ?_) <;> cbv
 · have k0:(id == 0)=true:=k0;have k0:id=0:=by simpa using k0
   omega
 repeat' first
   | exact trivial
   | (refine af.by hP (sw h id (i:Int) sY.symm) ?_; cbv)
   | (refine Ob.mk (oi) ?_; cbv)
   | (refine Ar.exact (by(try simp only[nc] at *); omega) (by(try simp only[nc] at *); omega) ?_; cbv)
   | (refine af.by hP (A0 h.ae (fU h (h.ae.getD ((i:Int)).toNat default)) hs.2.1 (ff h.ae (fU h (h.ae.getD ((i:Int)).toNat default))) rfl) ?_; cbv)
   | (refine Ob.mk (dw) ?_; cbv)
   | (refine af.by hP (RW (aB h (n:Int)).seats (h.ae.getD ((i:Int)).toNat default).aj (bz (aB h (n:Int)).seats (h.ae.getD ((i:Int)).toNat default).aj (-1) 1 0 0) rfl (bG (aB h (n:Int)).seats (h.ae.getD ((i:Int)).toNat default).aj (-1) 1 0 0) rfl) ?_; cbv)
   | (refine af.by hP (KZ (aB h (n:Int)).row id hp.1 (iX (aB h (n:Int)).row (h.ae.getD ((i:Int)).toNat default).id) (by rw[aZ]) (decide (0≤cU (aB h (n:Int)).row id)) rfl) ?_; cbv)
   | (refine af.by hP (K8 (aB h (n:Int)).spoke ⟨h.now+h.rules.bE,id⟩ hp.2 (kJ (aB h (n:Int)).spoke (dG (fU h (h.ae.getD ((i:Int)).toNat default)))) (by rw[show dG (fU h (h.ae.getD ((i:Int)).toNat default))=⟨h.now+h.rules.bE,(h.ae.getD ((i:Int)).toNat default).id⟩ from rfl,aZ]) (gq (aB h (n:Int)).spoke ⟨h.now+h.rules.bE,id⟩) rfl) ?_; cbv)
   | (refine Sv.mk (fun _=>(kL h (n:Int) (h.ae.getD ((i:Int)).toNat default)).cabins) (rfl) ?_; cbv)
   | (refine Pz.mk ?_; cbv) | (refine aW.mk ?_ (by kernel_rfl) ?_; rotate_left; cbv; rotate_right) | refine⟨rfl, ?_⟩ | refine And.intro ?_ ?_ | exact rfl | fail
 all_goals
   obtain rfl:x=kL h (n:Int) (h.ae.getD ((i:Int)).toNat default):=hx
   repeat' first | exact trivial | refine⟨rfl, ?_⟩ | fail
end Go.Proofs.YtpklefhdkkegiaaGreat

