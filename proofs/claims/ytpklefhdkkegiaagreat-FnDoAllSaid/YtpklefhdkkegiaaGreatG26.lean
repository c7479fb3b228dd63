/- Parts of a proof. No conditions. -/

import Derived.Test.YtpklefhdkkegiaaGreatG24
import Derived.Test.YtpklefhdkkegiaaGreatG21
set_option linter.unusedSimpArgs false
set_option linter.unusedVariables false
namespace Go.Proofs.YtpklefhdkkegiaaGreat
open Go
set_option maxRecDepth 100000
set_option maxHeartbeats 1000000 in
theorem FF (h:ai) (p:ax) (hc:0≤p.ag∧p.ag<(h.cabins.length:Int)) (hw:kC (aB h p.ag).spoke):bJ Tryz.prog 203 [nf h,eA .aE p] (nU h) (dx (kB fun _=>c_ h p) []):=by
 refine fp au Tryz.func203 rfl rfl (fr:=true) (fun _=>by kernel_rfl) rfl rfl fun P hP hA hB=> ?_;cbv
 repeat' first
  | exact trivial
  | (refine Ob.mk (hc) ?_; cbv)
  | (refine af.by hP (R0 (aB h p.ag).seats p.aj (bz (aB h p.ag).seats p.aj 1 (-1) 0 0) rfl (bG (aB h p.ag).seats p.aj 1 (-1) 0 0) rfl) ?_; cbv)
  | (refine af.by hP (K7 (aB h p.ag).spoke (dG p) hw (ik (aB h p.ag).spoke (dG p)) rfl (ij (aB h p.ag).spoke (dG p)) rfl) ?_; cbv)
  | (refine Sv.mk (fun _=>(c_ h p).cabins) (rfl) ?_; cbv)
  | (refine Pz.mk ?_; cbv) | (refine aW.mk ?_ (by kernel_rfl) ?_; rotate_left; cbv; rotate_right) | refine⟨rfl, ?_⟩ | refine And.intro ?_ ?_ | exact rfl | fail
set_option maxHeartbeats 1000000 in
theorem Bt (h:ai) (p:ax) (hl:h.ae.length≤aN) (hf:p.al = -1∨∃f,ln h p f):bJ Tryz.prog 205 [nf h,eA .aE p] (nU h) (dx (kB fun _=>cW h p) []):=by
 refine fp au Tryz.func205 rfl rfl (fr:=true) (fun _=>by kernel_rfl) rfl rfl fun P hP hA hB=> ?_;cbv;refine af.by hP (Sz h.ae p.id hl (fu h.ae p.id) rfl) ?_;cbv;refine Br.dec (fun h0=> ?_) (fun h0=> ?_) <;> cbv
 · have h0:p.al≥0:=h0;obtain⟨f,hf⟩:=hf.resolve_left (by omega);have oi:0≤p.al∧p.al<(h.cabins.length:Int):=by have:=hf.lt; have:=hf.eq; omega
   have ee:cW h p=bN {h with ae:=fu h.ae p.id} p.al (j_ (aB h p.al) p.aj):=by
    rw[cW,ka,if_neg (by omega)]; rfl
   rw[ee]
   repeat' first
    | exact trivial
    | (refine Ob.mk (oi) ?_; cbv)
    | (refine af.by hP (Se (aB h p.al).seats p.aj (bz (aB h p.al).seats p.aj 0 0 0 (-1)) rfl (bG (aB h p.al).seats p.aj 0 0 0 (-1)) rfl) ?_; cbv)
    | (refine Sv.mk (fun _=>(bN h p.al (j_ (aB h p.al) p.aj)).cabins) (rfl) ?_; cbv)
    | (refine Pz.mk ?_; cbv) | (refine aW.mk ?_ (by kernel_rfl) ?_; rotate_left; cbv; rotate_right) | refine⟨rfl, ?_⟩ | refine And.intro ?_ ?_ | exact rfl | fail
 · have h0:¬p.al≥0:=h0;have h1:p.al = -1:=hf.resolve_right (fun⟨f,hf⟩=>by have:=hf.eq; omega);have ee:cW h p = {h with ae:=fu h.ae p.id}:=by rw[cW,ka,if_pos h1]
   rw[ee];cbv
   repeat' first | exact trivial | refine⟨rfl, ?_⟩ | fail
set_option maxHeartbeats 1000000 in
theorem L_ (h:ai) (p:ax) (hc:0≤p.ag∧p.ag<(h.cabins.length:Int)) (hs:h.rules.seats.length≤aN) (hw:(aB h p.ag).row.length≤aN):bJ Tryz.prog 206 [nf h,eA .aE p] (nU h) (dx (kB fun _=>v8 h p) []):=by
 refine fp au Tryz.func206 rfl rfl (fr:=true) (fun _=>by kernel_rfl) rfl rfl fun P hP hA hB=> ?_;cbv
 repeat' first
  | exact trivial
  | (refine af.by hP (JI h.rules p h.now hs (cD h.rules p h.now) rfl (fq h.rules p h.now) rfl) ?_; cbv)
  | (refine Ob.mk (hc) ?_; cbv)
  | (refine af.by hP (En (aB h p.ag).row (cD h.rules p h.now) hw) ?_; cbv)
  | (refine Sv.mk (fun _=>(v8 h p).cabins) (rfl) ?_; cbv)
  | (refine Pz.mk ?_; cbv) | (refine aW.mk ?_ (by kernel_rfl) ?_; rotate_left; cbv; rotate_right) | refine⟨rfl, ?_⟩ | refine And.intro ?_ ?_ | exact rfl | fail
set_option maxHeartbeats 1000000 in
theorem T9 (h:ai) (k:Int) (hk:0≤k∧k<(h.cabins.length:Int)) (n:Int) (ht:h.todo.length≤aN):bJ Tryz.prog 264 [nf h,iA k,iA n] (nU h) (dx (kB fun _=>lp h k n) []):=by
 refine fp au Tryz.func264 rfl rfl (fr:=true) (fun _=>by kernel_rfl) rfl rfl fun P hP hA hB=> ?_;cbv
 repeat' first
  | exact trivial
  | (refine Ob.mk (hk) ?_; cbv)
  | (refine af.by hP (Kz (h.cabins.getD k.toNat default).seats n (bz (aB h k).seats n 1 0 (-1) 0) rfl (bG (aB h k).seats n 1 0 (-1) 0) rfl) ?_; cbv)
  | (refine Sv.mk (fun _=>(lp h k n).cabins) (rfl) ?_; cbv)
  | (refine af.by hP (sD h.todo k ht (eD h.todo k) rfl) ?_; cbv)
  | (refine Pz.mk ?_; cbv) | (refine aW.mk ?_ (by kernel_rfl) ?_; rotate_left; cbv; rotate_right) | refine⟨rfl, ?_⟩ | refine And.intro ?_ ?_ | exact rfl | fail
end Go.Proofs.YtpklefhdkkegiaaGreat

