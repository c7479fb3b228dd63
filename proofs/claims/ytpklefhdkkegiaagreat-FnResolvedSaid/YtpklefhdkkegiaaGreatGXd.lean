/- Parts of a proof. No conditions. -/

import Derived.Test.YtpklefhdkkegiaaGreatG47
import Derived.Test.YtpklefhdkkegiaaGreatG46
import Derived.Test.YtpklefhdkkegiaaGreatG38
import Derived.Test.YtpklefhdkkegiaaGreatG36
set_option linter.unusedSimpArgs false
set_option linter.unusedVariables false
namespace Go.Proofs.YtpklefhdkkegiaaGreat
open Go
set_option maxRecDepth 100000
theorem VL {h:ai} {q:bS} (hv:aU h q=0) (k:q.kind=7):q=eW q.id∧jL h q=eG h q.id:=by
 obtain⟨h0,h1,h2⟩:=l4 hv;have e:=yS h2 (.inr (.inr (.inr k)));rw[k] at e;refine⟨e.symm, ?_⟩;rw[jL,if_pos hv,stepOf,if_neg (by omega),if_neg (by omega),if_neg (by omega),if_neg (by omega),if_neg (by omega),if_neg (by omega)]
set_option maxHeartbeats 8000000 in
theorem VM (code:List UInt8):bJ Tryz.prog 6 [.c (.own 0)] [(0, .view .byte fun _=>code)] (dx (bR fun _=>true) []):=by
 refine fp au Tryz.func6 rfl rfl (fr:=true) (fun _=>by kernel_rfl) rfl rfl fun P hP hA hB=> ?_;cbv;refine af.by hP (uv code) ?_;cbv;refine Br.dec (fun h0=> ?_) (fun h0=> ?_) <;> cbv
 · repeat' first | exact trivial | refine⟨rfl, ?_⟩ | fail
 have hc:=uu h0;refine aD.ex hP (ME code hc) fun⟨g,L⟩ hg=> ?_;cbv;have hs:a_ g:=(show jM g∧L.length≤40 from hg).1.1;have hL:L.length≤40:=(show jM g∧L.length≤40 from hg).2;have MU:false=bU default:=rfl;have MV:a_ default:=⟨Nat.zero_le _,Nat.zero_le _,⟨Nat.zero_le _,fun c h=>by cases h⟩,Nat.zero_le _,Nat.zero_le _⟩;apply aR.xH (A:=ai) (B:=Int) (fun E j=>[(3,pN 3),(4,oN 4),(5,iT fun _=>j)]) (fun E j=>(3, .box (np 10 E))::(4,aH .da fun _=>L)::pK 10 E) (fun E j=>a_ E∧0≤j∧j.toNat≤L.length) (fun E j _=>L.length - j.toNat)
 · cbv
   (try dsimp only)
   repeat' first | exact trivial | refine⟨rfl, ?_⟩ | fail
 · exact⟨hs,by omega,Nat.zero_le _⟩
 rintro E j ⟨yY,q1,q2⟩
 cbv;have fin:∀u:Bool,u=false→(!u)=true:=fun u h=>by rw[h]; rfl
 by_cases c1:j<(L.length:Int)
 rotate_left
 · repeat' first
    | exact trivial
    | (refine Pz.mk ?_; cbv)
    | (refine Br.no (decide_eq_false c1) ?_; cbv)
    | (refine af.by hP (qG default MV false MU) ?_; cbv)
    | refine⟨rfl, ?_⟩
    | fail
 cases hC:bU E with
 | false=>
   repeat' first
    | exact trivial
    | (refine Pz.mk ?_; cbv)
    | (refine Br.yes (decide_eq_true c1) ?_; cbv)
    | (refine af.by hP (kF E yY false hC.symm) ?_; cbv)
    | (refine Br.no (by with_reducible rfl) ?_; cbv)
    | (refine af.by hP (qG default MV false MU) ?_; cbv)
    | refine⟨rfl, ?_⟩
    | fail
 | true =>
   have hG:=dy.1 hC;have c2:j.toNat<L.length:=by omega
   have c3:(j+1).toNat=j.toNat+1:=by omega
   obtain⟨q,hq⟩:∃q,q=(bM .da (fun _=>L) (fun _=>j.toNat) ()):=⟨_,rfl⟩;obtain⟨D,hD⟩:∃D,D=jL E q:=⟨_,rfl⟩;obtain⟨y,hy⟩:∃y,y=mz E q:=⟨_,rfl⟩;obtain⟨v,hv⟩:∃v,v=aU E q:=⟨_,rfl⟩;have qS:a_ D:=by rw[hD]; exact Bx yY q
   have F5:HG D:=by rw[hD]; exact By hG q
   have yc:y.code=v:=by rw[hy,hv]; exact MH E q
   have t1:(y.code != v)=false:=by rw[yc]; simp
   have WU:=bD F5.now;have WV:=(eB F5.rules).bE;have r1: -9223372036854775808≤j+1:=by omega
   have r2:j+1≤9223372036854775807:=by omega
   have r3: -9223372036854775808≤D.now+D.rules.bE:=by omega
   have r4:D.now+D.rules.bE≤9223372036854775807:=by omega
   have WW:D.ae.length≤1048576:=qS.2.1
   have VN:((bM .da (fun _=>L) (fun _=>j.toNat) ()).kind == 7)=false∨(((bM .da (fun _=>L) (fun _=>j.toNat) ()).kind == 7)=true∧(y.code == 0)=false)∨(((bM .da (fun _=>L) (fun _=>j.toNat) ()).kind == 7)=true∧(y.code == 0)=true∧(0≤(bM .da (fun _=>L) (fun _=>j.toNat) ()).id∧(bM .da (fun _=>L) (fun _=>j.toNat) ()).id<(E.aq.length:Int))∧decide (0≤(bM .int (fun _=>E.aq) (fun _=>(bM .da (fun _=>L) (fun _=>j.toNat) ()).id.toNat) ()))=false)∨
      (((bM .da (fun _=>L) (fun _=>j.toNat) ()).kind == 7)=true∧(y.code == 0)=true∧(0≤(bM .da (fun _=>L) (fun _=>j.toNat) ()).id∧(bM .da (fun _=>L) (fun _=>j.toNat) ()).id<(E.aq.length:Int))∧decide (0≤(bM .int (fun _=>E.aq) (fun _=>(bM .da (fun _=>L) (fun _=>j.toNat) ()).id.toNat) ()))=true∧ []=bj D (bM .int (fun _=>E.aq) (fun _=>(bM .da (fun _=>L) (fun _=>j.toNat) ()).id.toNat) ())):=by
    rw[←hq]
    by_cases k7:q.kind=7
    · have F6:(q.kind == 7)=true:=by rw[k7]; rfl
      by_cases v0:v=0
      · have y0:(y.code == 0)=true:=by rw[yc,v0]; rfl
        have MW:aU E q=0:=hv.symm.trans v0;obtain⟨eq,ed⟩:=VL MW k7;have rK:=MW;rw[eq] at rK;obtain⟨_,w,ew,hw,_,_,_⟩:=sZ rK;have ew:q.id=(w:Int):=ew;have gj:bM .int (fun _=>E.aq) (fun _=>q.id.toNat) ()=E.aq[w]:=qQ (by show q.id.toNat=w; omega) (List.getElem?_eq_getElem hw);rw[gj];have ix:0≤q.id∧q.id<(E.aq.length:Int):=by omega
        by_cases j0:0≤E.aq[w]
        · refine .inr (.inr (.inr ⟨F6,y0,ix,decide_eq_true j0, ?_⟩));rw[ew] at rK;have:=VK rK hw (by omega);rw[hD,ed,ew,this]
        · exact .inr (.inr (.inl ⟨F6,y0,ix,decide_eq_false j0⟩))
      · exact .inr (.inl ⟨F6,by rw[yc]; simpa using v0⟩)
    · exact .inl (by simpa using k7)
   rcases VN with h1 | ⟨h1,h2⟩ | ⟨h1,h2,h3,h4⟩ | ⟨h1,h2,h3,h4,h5⟩
   all_goals
    repeat' first
      | exact trivial
      | (refine Pz.mk ?_; cbv)
      | (refine Br.yes (decide_eq_true c1) ?_; cbv)
      | (refine af.by hP (kF E yY true hC.symm) ?_; cbv)
      | (refine Br.yes (by with_reducible rfl) ?_; cbv)
      | fail
    apply fO
    · intro hk
      repeat' first
        | exact trivial
        | (refine Ob.mk (⟨q1,c1⟩) ?_; cbv)
        | (refine af.lg hP (FM E q yY D hD y hy) (by rw[hq]; rfl) ?_; cbv)
        | (refine Pz.mk ?_; cbv) | (refine aW.mk ?_ (by kernel_rfl) ?_; rotate_left; cbv; rotate_right) | refine⟨rfl, ?_⟩ | refine And.intro ?_ ?_ | exact rfl | fail
      all_goals exact hk
    apply fO
    · intro hk
      repeat' first
        | exact trivial
        | (refine Ob.mk (⟨q1,c1⟩) ?_; cbv)
        | (refine af.lg hP (iY E q yY v hv) (by rw[hq]; rfl) ?_; cbv)
        | (refine Pz.mk ?_; cbv) | (refine aW.mk ?_ (by kernel_rfl) ?_; rotate_left; cbv; rotate_right) | refine⟨rfl, ?_⟩ | refine And.intro ?_ ?_ | exact rfl | fail
      all_goals exact hk
    refine Br.no t1 ?_;cbv
    repeat' first
      | exact trivial
      | (refine Pz.mk ?_; cbv)
      | (refine Ob.mk ⟨q1,c1⟩ ?_; cbv)
      | (refine Br.yes h1 ?_; cbv)
      | (refine Br.no h1 ?_; cbv)
      | (refine Br.yes h2 ?_; cbv)
      | (refine Br.no h2 ?_; cbv)
      | (refine Ob.mk h3 ?_; cbv)
      | (refine Br.yes h4 ?_; cbv)
      | (refine Br.no h4 ?_; cbv)
      | (refine af.by hP (Bb D (bM .int (fun _=>E.aq) (fun _=>(bM .da (fun _=>L) (fun _=>j.toNat) ()).id.toNat) ()) qS [] h5) ?_; cbv)
      | (refine Br.no (by decide) ?_; cbv)
      | refine And.intro ?_ ?_
      | fail
   all_goals
    apply aR.vD (A:=Int) (fun k=>[(3,pN 3),(4,oN 4),(5,iT fun _=>j),(6,pN 6),(8,iT fun _=>k)]) (fun k=>(3, .box (np 10 E))::(4,aH .da fun _=>L)::(6, .box (np 20 D))::(pK 10 E++pK 20 D)) (fun k=>0≤k∧k.toNat≤D.ae.length) (fun k _=>D.ae.length - k.toNat)
    · cbv
      (try dsimp only)
      repeat' first | exact trivial | refine⟨rfl, ?_⟩ | fail
    · exact⟨by omega,Nat.zero_le _⟩
    rintro k ⟨p1,p2⟩
    cbv;refine Br.dec (fun pF=> ?_) (fun pF=> ?_) <;> cbv
    · have AY :k<(D.ae.length:Int):=pF;have iG:k.toNat+1≤D.ae.length∧(k+1).toNat=k.toNat+1:=by omega
      obtain⟨z,hz⟩:∃z,z=(bM .aE (fun _=>D.ae) (fun _=>k.toNat) ()):=⟨_,rfl⟩;have zm:z∈D.ae:=by rw[hz]; exact FQ iG.1
      obtain⟨w1,w2⟩:=VJ F5 zm;obtain⟨aI,hp⟩:∃p,p=sC D z.id:=⟨_,rfl⟩;obtain⟨o,ho⟩:∃o,o=jq D z.id:=⟨_,rfl⟩;have t2:(o != ((bM .aE (fun _=>D.ae) (fun _=>k.toNat) ()).st == 2))=false:=by rw[←hz,ho,w1]; simp
      have r5: -9223372036854775808≤k+1:=by omega
      have r6:k+1≤9223372036854775807:=by omega
      rw[←hp,←ho] at w2;cases F7:o with
      | true =>
        have t3:¬D.now+D.rules.bE<aI.tm:=Int.not_lt.2 (w2 F7);rw[F7] at t2 ho
        repeat' first
          | exact trivial
          | (refine Pz.mk ?_; cbv)
          | (refine Ob.mk ⟨p1,pF⟩ ?_; cbv)
          | (refine af.lg hP (EM D z.id qS aI hp _ ho) (by rw[hz]; rfl) ?_; cbv)
          | (refine Br.no t2 ?_; cbv)
          | (refine Br.yes (by with_reducible rfl) ?_; cbv)
          | (refine Ar.exact (by exact r3) (by exact r4) ?_; cbv)
          | (refine Br.no (decide_eq_false t3) ?_; cbv)
          | (refine Ar.exact (by exact r5) (by exact r6) ?_; cbv)
          | fail
        any_goals
          apply aL.pz
          · cbv
            (try dsimp only)
            repeat' first | exact trivial | refine⟨rfl, ?_⟩ | fail
          · (try dsimp only)
            exact⟨by omega,by rw[iG.2]; exact iG.1⟩
          · (try dsimp only)
            rw[iG.2]; omega
      | false =>
        rw[F7] at t2 ho
        repeat' first
          | exact trivial
          | (refine Pz.mk ?_; cbv)
          | (refine Ob.mk ⟨p1,pF⟩ ?_; cbv)
          | (refine af.lg hP (EM D z.id qS aI hp _ ho) (by rw[hz]; rfl) ?_; cbv)
          | (refine Br.no t2 ?_; cbv)
          | (refine Br.no (by with_reducible rfl) ?_; cbv)
          | (refine Ar.exact (by exact r5) (by exact r6) ?_; cbv)
          | fail
        any_goals
          apply aL.pz
          · cbv
            (try dsimp only)
            repeat' first | exact trivial | refine⟨rfl, ?_⟩ | fail
          · (try dsimp only)
            exact⟨by omega,by rw[iG.2]; exact iG.1⟩
          · (try dsimp only)
            rw[iG.2]; omega
    · repeat' first
        | exact trivial
        | (refine Pz.mk ?_; cbv)
        | (refine Ar.exact (by exact r1) (by exact r2) ?_; cbv)
        | fail
      any_goals
        apply aL.QM
        · cbv
          (try dsimp only)
          repeat' first | exact trivial | refine⟨rfl, ?_⟩ | fail
        · (try dsimp only)
          exact⟨qS,by omega,by rw[c3]; exact c2⟩
        · (try dsimp only)
          rw[c3]; omega
theorem VO (code:List UInt8):Spec Tryz.prog 6 [lA .byte code] (aG (bR fun _=>true)):=Spec.tU (VM code)
end Go.Proofs.YtpklefhdkkegiaaGreat

