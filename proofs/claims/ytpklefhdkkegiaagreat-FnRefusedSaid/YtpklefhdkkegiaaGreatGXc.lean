/- Parts of a proof. No conditions. -/

import Derived.Test.YtpklefhdkkegiaaGreatG45
import Derived.Test.YtpklefhdkkegiaaGreatG46
import Derived.Test.YtpklefhdkkegiaaGreatG38
import Derived.Test.YtpklefhdkkegiaaGreatG15
import Derived.Test.YtpklefhdkkegiaaGreatG36
import Derived.Test.YtpklefhdkkegiaaGreatGCw
set_option linter.unusedSimpArgs false
set_option linter.unusedVariables false
namespace Go.Proofs.YtpklefhdkkegiaaGreat
open Go
set_option maxRecDepth 100000
set_option maxHeartbeats 8000000 in
theorem VS (code:List UInt8):bJ Tryz.prog 8 [.c (.own 0)] [(0, .view .byte fun _=>code)] (dx (bR fun _=>true) []):=by
 refine fp au Tryz.func8 rfl rfl (fr:=true) (fun _=>by kernel_rfl) rfl rfl fun P hP hA hB=> ?_;cbv;refine af.by hP (uv code) ?_;cbv;refine Br.dec (fun h0=> ?_) (fun h0=> ?_) <;> cbv
 · repeat' first | exact trivial | refine⟨rfl, ?_⟩ | fail
 have hc:=uu h0;refine aD.ex hP (To code hc) fun⟨g,q⟩ hg=> ?_;cbv;have hs:a_ g:=(show gu g from hg).1;obtain⟨D,hD⟩:∃D,D=jL g q:=⟨_,rfl⟩;obtain⟨y,hy⟩:∃y,y=mz g q:=⟨_,rfl⟩;obtain⟨v,hv⟩:∃v,v=aU g q:=⟨_,rfl⟩;obtain⟨b,hb⟩:∃b,b=bU g:=⟨_,rfl⟩;have qS:a_ D:=by rw[hD]; exact Bx hs q
 have yc:y.code=v:=by rw[hy,hv]; exact MH g q
 have yi:¬v=0→y.ids = []:=fun h=>by rw[hy]; exact(MI (by rw[←hv]; exact h)).2
 have yh:¬v=0→D=g:=fun h=>by rw[hD]; exact(MI (by rw[←hv]; exact h)).1
 have vr:=Vj g q;rw[←hv] at vr;have t1:(y.code != v)=false:=by rw[yc]; simp
 obtain⟨s,MX⟩:∃s,s=ux y.code:=⟨_,rfl⟩
 have sn:s≠ [63]:=by
   rw[MX,yc];have:v=0∨v=1∨v=2∨v=3∨v=4∨v=5∨v=6∨v=7∨v=8∨v=9∨v=10∨v=11∨v=12∨v=13∨v=14∨v=15∨v=16∨v=17:=by omega
   rcases this with h | h | h | h | h | h | h | h | h | h | h | h | h | h | h | h | h | h <;> subst h <;> decide
 have t2:(s == [63])=false:=by simpa using sn
 have t3:(s != s)=false:=by simp
 have w1:=VR y.code;have w2:=VQ y.code;rw[←MX] at w1 w2;refine af.by hP (FM g q hs D hD y hy) ?_;cbv;cases hC:bU g with
 | false=>
   have g1:(!b)=true:=by rw[hb,hC]; rfl
   have v1:v=1:=by rw[hv]; exact yB hC
   have t4:(y.code == 1)=true:=by rw[yc,v1]; rfl
   have t5:(((y.ids.length:Nat):Int) == 0)=true:=by rw[yi (by omega)]; rfl
   repeat' first
     | exact trivial
     | (refine Pz.mk ?_; cbv)
     | (refine af.by hP (jH g q hs v hv) ?_; cbv)
     | (refine af.by hP (iY g q hs v hv) ?_; cbv)
     | (refine Br.no t1 ?_; cbv)
     | (refine af.by hP w1 ?_; cbv)
     | (refine af.by hP w2 ?_; cbv)
     | (refine Br.no t2 ?_; cbv)
     | (refine Br.no t3 ?_; cbv)
     | (refine af.by hP (kF g hs b hb) ?_; cbv)
     | (refine Br.yes g1 ?_; cbv)
     | (refine Br.yes t4 ?_; cbv)
     | refine⟨t5, ?_⟩
     | refine And.intro ?_ ?_
     | fail
 | true =>
   have g1:(!b)=false:=by rw[hb,hC]; rfl
   have hG:=dy.1 hC
   by_cases v0:v=0
   · have t4:(y.code != 0)=false:=by rw[yc,v0]; rfl
     have ok:bU D=true:=by rw[hD]; exact dy.2 (By hG q)
     repeat' first
      | exact trivial
      | (refine Pz.mk ?_; cbv)
      | (refine af.by hP (jH g q hs v hv) ?_; cbv)
      | (refine af.by hP (iY g q hs v hv) ?_; cbv)
      | (refine Br.no t1 ?_; cbv)
      | (refine af.by hP w1 ?_; cbv)
      | (refine af.by hP w2 ?_; cbv)
      | (refine Br.no t2 ?_; cbv)
      | (refine Br.no t3 ?_; cbv)
      | (refine af.by hP (kF g hs b hb) ?_; cbv)
      | (refine Br.no g1 ?_; cbv)
      | (refine Br.no t4 ?_; cbv)
      | (refine af.by hP (kF D qS true ok.symm) ?_; cbv)
      | (refine af.by hP (qG D qS true ok.symm) ?_; cbv)
      | (refine Br.yes (by with_reducible rfl) ?_; cbv)
      | refine⟨rfl, ?_⟩
      | refine And.intro ?_ ?_
      | fail
   · have t4:(y.code != 0)=true:=by rw[yc]; simpa using v0
     have sm:true=iE g D:=by rw[yh v0,Bz hG]
     have t5:(((y.ids.length:Nat):Int) == 0)=true:=by rw[yi v0]; rfl
     repeat' first
      | exact trivial
      | (refine Pz.mk ?_; cbv)
      | (refine af.by hP (jH g q hs v hv) ?_; cbv)
      | (refine af.by hP (iY g q hs v hv) ?_; cbv)
      | (refine Br.no t1 ?_; cbv)
      | (refine af.by hP w1 ?_; cbv)
      | (refine af.by hP w2 ?_; cbv)
      | (refine Br.no t2 ?_; cbv)
      | (refine Br.no t3 ?_; cbv)
      | (refine af.by hP (kF g hs b hb) ?_; cbv)
      | (refine Br.no g1 ?_; cbv)
      | (refine Br.yes t4 ?_; cbv)
      | (refine af.by hP (ER g D hs qS true sm) ?_; cbv)
      | (refine Br.yes (by with_reducible rfl) ?_; cbv)
      | refine⟨t5, ?_⟩
      | refine And.intro ?_ ?_
      | fail
theorem VT (code:List UInt8):Spec Tryz.prog 8 [lA .byte code] (aG (bR fun _=>true)):=Spec.tU (VS code)
end Go.Proofs.YtpklefhdkkegiaaGreat

