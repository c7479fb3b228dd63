/- Parts of a proof. No conditions. -/

import Derived.Test.YtpklefhdkkegiaaGreatG40
import Derived.Test.YtpklefhdkkegiaaGreatG46
import Derived.Test.YtpklefhdkkegiaaGreatGHo
import Derived.Test.YtpklefhdkkegiaaGreatG13
import Derived.Test.YtpklefhdkkegiaaGreatG15
import Derived.Test.YtpklefhdkkegiaaGreatG39
set_option linter.unusedSimpArgs false
set_option linter.unusedVariables false
namespace Go.Proofs.YtpklefhdkkegiaaGreat
open Go
set_option maxRecDepth 100000
theorem V6 (code:List UInt8) (hc:code.length≤aN):bJ Tryz.prog 12 [.c (.own 0)] [(0, .view .byte fun _=>code)] (pf bn (fun r=>r.seats.length≤5) (fun r=>xM fun _=>r) (fun _=>[(0, .vw)])):=by
 refine eP (pk:=[0]) au Tryz.func12 rfl rfl (fr:=true) (fun _=>by kernel_rfl) (fun _=>rfl) rfl rfl fun P hP hA hB=> ?_;cbv;refine aD.vE hP (xO code hc) ?_;cbv;refine aD.ex hP (Qp code 0 (su code (min code.length 4000)) ⟨Int.le_refl 0,Int.natCast_nonneg _⟩ hc) fun⟨r,i1,h1⟩ ⟨b1,c1⟩=> ?_;cbv;refine⟨r,b1, ?_⟩;cbv
 repeat' first | exact trivial | refine⟨rfl, ?_⟩ | fail
theorem V7 (code:List UInt8):bJ Tryz.prog 3 [.c (.own 0)] [(0, .view .byte fun _=>code)] (dx (bR fun _=>true) []):=by
 refine fp au Tryz.func3 rfl rfl (fr:=true) (fun _=>by kernel_rfl) rfl rfl fun P hP hA hB=> ?_;cbv
 repeat (refine Pz.mk ?_; cbv)
 refine af.by hP (uv code) ?_;cbv
 repeat (refine Pz.mk ?_; cbv)
 refine Br.dec (fun h0=> ?_) (fun h0=> ?_) <;> (cbv; repeat (refine Pz.mk ?_; cbv))
 · repeat' first | exact trivial | refine⟨rfl, ?_⟩ | fail
 · have hc:code.length≤aN:=uu h0;refine aD.ex hP (V6 code hc) fun r b1=> ?_;cbv
   repeat (refine Pz.mk ?_; cbv)
   have b1:r.seats.length≤5:=b1;have hr:r.seats.length≤aN:=Nat.le_trans b1 (by decide);obtain⟨E,hE⟩:∃E,E=pI r:=⟨_,rfl⟩;obtain⟨b,hb⟩:∃b,b=ca r:=⟨_,rfl⟩;refine af.by hP (S7 r hr E hE b hb) ?_;cbv
   repeat (refine Pz.mk ?_; cbv)
   refine af.by hP (xQ r hr b hb) ?_;cbv
   repeat (refine Pz.mk ?_; cbv)
   refine Br.split (fun h1=> ?_) (fun h1=> ?_) <;> (cbv; repeat (refine Pz.mk ?_; cbv))
   · have h1:b=false:=by simpa using h1
     have pR:E=default:=by rw[hE,pI,if_neg (by rw[←hb,h1]; simp)]
     refine Br.split (fun h2=> ?_) (fun h2=> ?_) <;> (cbv; repeat (refine Pz.mk ?_; cbv))
     · refine⟨?_,trivial⟩;show(((E.cabins.length:Nat):Int) == 0)=true;rw[pR]; rfl
     · rw[h1] at h2;cases h2
   · have h1:b=true:=by simpa using h1
     have pR:E=lW r:=by rw[hE,pI,if_pos (by rw[←hb,h1])]
     refine Br.split (fun h2=> ?_) (fun h2=> ?_) <;> (cbv; repeat (refine Pz.mk ?_; cbv))
     · have BH:ca r=true:=by rw[←hb]; exact h1
       have yZ:a_ E:=by rw[pR]; exact MB BH
       have M5:bU E=true:=by rw[pR]; exact dy.2 (Mz BH)
       have V8:iE E E=true:=by rw[pR]; exact Bz (Mz BH)
       have jb:=UZ BH;rw[←pR] at jb;have tn:E.aA=1:=by rw[pR]; rfl
       have td:E.todo = []:=by rw[pR]; rfl
       have gJ:E.aq.length≤aN:=yZ.2.2.2.2;have t1:(((E.aq.length:Nat):Int) == r.bm)=true:=by rw[jb.1]; simp
       have t2:(((E.aq.count (-1):Nat):Int) == r.bm)=true:=by rw[jb.2]; simp
       have t3:(((E.todo.length:Nat):Int) == 0)=true:=by rw[td]; rfl
       have t4:(E.aA == 1)=true:=by rw[tn]; rfl
       repeat' first
        | exact trivial
        | (refine Pz.mk ?_; cbv)
        | (refine Br.yes h1 ?_; cbv)
        | (refine af.by hP (kF E yZ true M5.symm) ?_; cbv)
        | (refine af.by hP (qG E yZ true M5.symm) ?_; cbv)
        | (refine Br.yes (by with_reducible rfl) ?_; cbv)
        | (refine Br.yes t1 ?_; cbv)
        | (refine af.by hP (FR E.aq (-1) gJ) ?_; cbv)
        | (refine Br.yes t2 ?_; cbv)
        | (refine Br.yes t3 ?_; cbv)
        | (refine Br.yes t4 ?_; cbv)
        | (refine af.by hP (RQ E E yZ yZ true V8.symm) ?_; cbv)
        | refine⟨rfl, ?_⟩
        | refine And.intro ?_ ?_
        | fail
     · rw[h1] at h2;cases h2
theorem V9 (code:List UInt8):Spec Tryz.prog 3 [lA .byte code] (aG (bR fun _=>true)):=Spec.tU (V7 code)
end Go.Proofs.YtpklefhdkkegiaaGreat

