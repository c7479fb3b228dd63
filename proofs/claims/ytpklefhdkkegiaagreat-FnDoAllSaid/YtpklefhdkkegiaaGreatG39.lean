/- Parts of a proof. No conditions. -/

import Derived.Test.YtpklefhdkkegiaaGreatGHo
import Derived.Test.YtpklefhdkkegiaaGreatG12
import Derived.Test.YtpklefhdkkegiaaGreatG14
set_option linter.unusedSimpArgs false
set_option linter.unusedVariables false
namespace Go.Proofs.YtpklefhdkkegiaaGreat
open Go
set_option maxRecDepth 100000
theorem UU (x:bA):yd x x=true:=by simp[yd]
theorem UW (x:bn):lS x x=true:=by simp[lS]
theorem HG.UX {h:ai} (hg:HG h) {j:Nat} {c:ba} (hj:h.cabins[j]? = some c):gX c=true:=by
 have:=hg.ag j c hj;simp only[iU,gb,Bool.and_eq_true] at this;exact this.2.2.1
theorem UY {c:ba} (h:gX c=true):lh c c=true:=by
 have hw:bw c.spoke=true:=by simp only[gX,Bool.and_eq_true] at h; exact h.2.2
 simp[lh,h,UU,sB,hw]
theorem Bz {h:ai} (hg:HG h):iE h h=true:=by
 have hc:nj h.cabins h.cabins=true:=by
  rw[nj,decide_eq_true rfl,EK rfl fun j x hx y hy=>by rw[hx] at hy; cases hy; exact UY (hg.UX hx)]; rfl
 simp[iE,dy.2 hg,UW,hc]
theorem Mz {r:bn} (hr:ca r=true):HG (lW r):=by
 have rg:=eB hr;have hw:bw (List.replicate 9 ([]:List aC))=true:=by decide
 have hp:bB (List.replicate 9 ([]:List aC)) = []:=by rw[bB,if_pos hw]; rfl
 refine⟨hr,rfl,rfl,Nat.zero_le _, ?_,dq.nil r 0 1,⟨(fun x hx=>by cases hx),List.Pairwise.nil,fun x hx=> ?_⟩, ?_,fun j c hj=> ?_⟩
 · show(r.seats.map fH).length=_;rw[List.length_map]; rfl
 · have:x = -1:=(List.mem_replicate.1 hx).2;subst this;have hl:=rg.len;simp only[ak,Bool.and_eq_true,decide_eq_true_eq];refine⟨by omega, ?_⟩;show(-1:Int)≤((r.seats.map fH).length:Int) - 1;omega
 · show(((List.replicate r.bm.toNat (-1:Int)).length:Nat):Int)=r.bm;rw[List.length_replicate];have:=rg.bm;omega
 · have hj:(r.seats.map fH)[j]? = some c:=hj;rw[List.getElem?_map] at hj;cases hs:r.seats[j]? with
   | none=>rw[hs] at hj; cases hj
   | some n=>
     rw[hs] at hj;have hj:fH n=c:=Option.some.inj hj
     have hn:ak n 1 60=true:=by
      have MA:=hr;simp only[ca,Bool.and_eq_true,List.all_eq_true] at MA;exact MA.2.1 n (List.mem_of_getElem? hs)
     rw[fH,if_pos hn] at hj;subst hj;have WQ:=rg.room
     have e1:(n == r.seats.getD j 0)=true:=by
      rw[List.getD_eq_getElem?_getD,hs]; simp
     have e2:decide (((0:Nat):Int)≤r.room)=true:=decide_eq_true (by omega);show((n == r.seats.getD j 0) && (decide (((0:Nat):Int)≤r.room) && ((aX (nS n) && (dJ [] && bw (List.replicate 9 []))) && (decide (([]:List Entry)=fK r [] (j:Int) 0) && (decide (bB (List.replicate 9 [])=gH [] (j:Int)) && (((0:Int) == ((0:Nat):Int)) && ((0:Int) == ((0:Nat):Int))))))))=true;rw[e1,e2,D3,hn,hw,hp];rfl
theorem MB {r:bn} (hr:ca r=true):a_ (lW r):=by
 have hF:=yx hr;have hl:=hF.len;have hc:=hF.hi;have h1:=(S8 r).1;rw[pI,if_pos hr] at h1;refine⟨?_,Nat.zero_le _,h1,Nat.zero_le _, ?_⟩
 · show r.seats.length≤1048576;omega
 · show(List.replicate r.bm.toNat (-1:Int)).length≤1048576;rw[List.length_replicate]; omega
theorem UZ {r:bn} (hr:ca r=true):((lW r).aq.length:Int)=r.bm∧(((lW r).aq.count (-1):Nat):Int)=r.bm:=by
 have hF:=yx hr;have hc:=hF.lo;have e:(lW r).aq=List.replicate r.bm.toNat (-1):=rfl;rw[e,List.length_replicate,List.count_replicate_self];omega
end Go.Proofs.YtpklefhdkkegiaaGreat

