/- Parts of a proof. No conditions. -/

import Derived.Test.YtpklefhdkkegiaaGreatG45
import Derived.Test.YtpklefhdkkegiaaGreatG46
import Derived.Test.YtpklefhdkkegiaaGreatG38
import Derived.Test.YtpklefhdkkegiaaGreatG35
import Derived.Test.YtpklefhdkkegiaaGreatGCw
set_option linter.unusedSimpArgs false
set_option linter.unusedVariables false
namespace Go.Proofs.YtpklefhdkkegiaaGreat
open Go
set_option maxRecDepth 100000
set_option maxHeartbeats 8000000 in
theorem VU (code:List UInt8):bJ Tryz.prog 7 [.c (.own 0)] [(0, .view .byte fun _=>code)] (dx (bR fun _=>true) []):=by
 refine fp au Tryz.func7 rfl rfl (fr:=true) (fun _=>by kernel_rfl) rfl rfl fun P hP hA hB=> ?_;cbv;refine af.by hP (uv code) ?_;cbv;refine Br.dec (fun h0=> ?_) (fun h0=> ?_) <;> cbv
 · repeat' first | exact trivial | refine⟨rfl, ?_⟩ | fail
 have hc:=uu h0;refine aD.ex hP (Tn code hc) fun⟨g,who⟩ hg=> ?_;cbv;have hs:a_ g:=(show gu g from hg).1;obtain⟨A,g_⟩:∃A,A=eG g who:=⟨_,rfl⟩;obtain⟨v,hv⟩:∃v,v=aU g (eW who):=⟨_,rfl⟩;obtain⟨ids,l7⟩:∃y,y=iK g who:=⟨_,rfl⟩;have yR:a_ A:=by rw[g_]; exact FI hs who
 refine af.by hP (FL g who hs A g_ v hv ids l7) ?_;cbv;refine af.by hP (iY g (eW who) hs v hv) ?_;cbv;refine Br.split (fun k1=> ?_) (fun k1=> ?_) <;> cbv
 · have k1:(v != v)=true:=k1;simp at k1
 refine Br.split (fun k2=> ?_) (fun k2=> ?_) <;> cbv
 · have k2:(v != 0)=true:=k2;have k2:¬aU g (eW who)=0:=by rw[←hv]; simpa using k2
   refine⟨?_,trivial⟩;show(((ids.length:Nat):Int) == 0)=true;rw[l7,iK,if_neg k2]; rfl
 have k2:(v != 0)=false:=k2;have k2:v=0:=by simpa using k2
 have k3:aU g (eW who)=0:=hv▸k2;obtain⟨hG,w,ew,hw,ej,e1,e2⟩:=sZ k3;obtain rfl:=ew;have ow:0≤(w:Int)∧(w:Int)<(g.aq.length:Int):=by omega
 have gj:bM .int (fun _=>g.aq) (fun _=>((w:Nat):Int).toNat) ()=g.aq[w]:=qQ (Int.toNat_natCast w) (List.getElem?_eq_getElem hw);have jr:=bD (hG.aq.aq _ (List.getElem_mem hw))
 by_cases hj:g.aq[w]<0
 · have iq:g.aq[w] = -1:=by omega
   obtain⟨t,ts,ht⟩:=e1 iq;obtain⟨p1,p2,p3,p4,p5,p6⟩:=Vu k3 hw iq ht;rw[←l7] at p2;rw[←g_] at p1 p4 p5 p6;have c1:bM .int (fun _=>g.aq) (fun _=>((w:Nat):Int).toNat) ()<0:=by rw[gj]; exact hj
   have o0:0≤(0:Int)∧(0:Int)<(g.todo.length:Int):=by rw[ht,List.length_cons]; omega
   have gt:bM .int (fun _=>g.todo) (fun _=>(0:Int).toNat) ()=t:=qQ rfl (by rw[ht]; rfl);have MY:A.aq=g.aq.set w t:=by rw[p1]
   have MZ:A.todo=ts:=by rw[p1]
   have oA:0≤(w:Int)∧(w:Int)<(A.aq.length:Int):=by rw[MY,List.length_set]; exact ow
   have gA:bM .int (fun _=>A.aq) (fun _=>((w:Nat):Int).toNat) ()=t:=qQ (Int.toNat_natCast w) (by rw[MY,List.getElem?_set,if_pos rfl,if_pos hw]);have t1:(((ids.length:Nat):Int) != 0)=false:=by rw[p2]; rfl
   have t2:(bM .int (fun _=>A.aq) (fun _=>((w:Nat):Int).toNat) () != bM .int (fun _=>g.todo) (fun _=>(0:Int).toNat) ())=false:=by rw[gA,gt]; simp
   have t3:false=hasB A.todo (bM .int (fun _=>g.todo) (fun _=>(0:Int).toNat) ()):=by rw[MZ,gt,p3]
   have tl:g.todo.length≤1048576:=hs.2.2.2.1;have r1: -9223372036854775808≤(g.todo.length:Int) - 1:=by omega
   have r2:(g.todo.length:Int) - 1≤9223372036854775807:=by omega
   have t4:((A.todo.length:Int) != (g.todo.length:Int) - 1)=false:=by
    have:(A.todo.length:Int)=(g.todo.length:Int) - 1:=by rw[MZ,ht,List.length_cons]; omega
    rw[this]; simp
   obtain⟨B,F8⟩:∃B,B=eG A (w:Int):=⟨_,rfl⟩;obtain⟨F9,M0⟩:∃y,y=iK A (w:Int):=⟨_,rfl⟩;have WX:a_ B:=by rw[F8]; exact FI yR _
   rw[←M0] at p5;rw[←F8] at p6;have WY:=bC p6;have oB:0≤(w:Int)∧(w:Int)<(B.aq.length:Int):=by omega
   have gB:bM .int (fun _=>B.aq) (fun _=>((w:Nat):Int).toNat) () = -1:=qQ (Int.toNat_natCast w) p6;have t5:(bM .int (fun _=>B.aq) (fun _=>((w:Nat):Int).toNat) () == -1)=true:=by rw[gB]; rfl
   obtain⟨C,F_⟩:∃C,C=(bH g t).1:=⟨_,rfl⟩;obtain⟨y,hy⟩:∃y,y=(bH g t).2:=⟨_,rfl⟩;have t6:decide (F9=y)=true:=decide_eq_true (p5.trans hy.symm)
   repeat' first
    | exact trivial
    | (refine Pz.mk ?_; cbv)
    | (refine Ob.mk ow ?_; cbv)
    | (refine Br.yes (decide_eq_true c1) ?_; cbv)
    | (refine Ob.mk o0 ?_; cbv)
    | (refine Br.no t1 ?_; cbv)
    | (refine Ob.mk oA ?_; cbv)
    | (refine Br.no t2 ?_; cbv)
    | (refine af.by hP (U5 A.todo (bM .int (fun _=>g.todo) (fun _=>(0:Int).toNat) ()) yR.2.2.2.1 false t3) ?_; cbv)
    | (refine Br.no (by with_reducible rfl) ?_; cbv)
    | (refine Ar.exact (by exact r1) (by exact r2) ?_; cbv)
    | (refine Br.no t4 ?_; cbv)
    | (refine af.by hP (FL A (w:Int) yR B F8 0 p4.symm F9 M0) ?_; cbv)
    | (refine af.lg hP (Bv g t hs C F_ y hy) (by rw[←gt]; rfl) ?_; cbv)
    | (refine Br.yes (by first | with_reducible rfl | exact(rfl:((0:Int) == 0)=true)) ?_; cbv)
    | (refine af.by hP (BA F9 y) ?_; cbv)
    | (refine Br.yes t6 ?_; cbv)
    | (refine Ob.mk oB ?_; cbv)
    | refine⟨t5, ?_⟩
    | refine And.intro ?_ ?_
    | fail
 · obtain⟨p1,p2,p3⟩:=Vv k3 hw hj;rw[←l7] at p1;rw[←g_] at p2 p3;have c1:¬bM .int (fun _=>g.aq) (fun _=>((w:Nat):Int).toNat) ()<0:=by rw[gj]; exact hj
   have WZ:=bC p2;have oA:0≤(w:Int)∧(w:Int)<(A.aq.length:Int):=by omega
   have gA:bM .int (fun _=>A.aq) (fun _=>((w:Nat):Int).toNat) () = -1:=qQ (Int.toNat_natCast w) p2;have t5:(bM .int (fun _=>A.aq) (fun _=>((w:Nat):Int).toNat) () == -1)=true:=by rw[gA]; rfl
   obtain⟨C,F_⟩:∃C,C=(bH g g.aq[w]).1:=⟨_,rfl⟩;obtain⟨y,hy⟩:∃y,y=(bH g g.aq[w]).2:=⟨_,rfl⟩;have t6:decide (ids=y)=true:=decide_eq_true (p1.trans hy.symm);have t7:decide (A.todo=g.todo)=true:=decide_eq_true p3
   repeat' first
    | exact trivial
    | (refine Pz.mk ?_; cbv)
    | (refine Ob.mk ow ?_; cbv)
    | (refine Br.no (decide_eq_false c1) ?_; cbv)
    | (refine af.lg hP (Bv g g.aq[w] hs C F_ y hy) (by rw[←gj]; rfl) ?_; cbv)
    | (refine af.by hP (BA ids y) ?_; cbv)
    | (refine Br.yes t6 ?_; cbv)
    | (refine Ob.mk oA ?_; cbv)
    | (refine Br.yes t5 ?_; cbv)
    | (refine af.by hP (BA A.todo g.todo) ?_; cbv)
    | refine⟨t7, ?_⟩
    | refine And.intro ?_ ?_
    | fail
theorem VV (code:List UInt8):Spec Tryz.prog 7 [lA .byte code] (aG (bR fun _=>true)):=Spec.tU (VU code)
end Go.Proofs.YtpklefhdkkegiaaGreat

