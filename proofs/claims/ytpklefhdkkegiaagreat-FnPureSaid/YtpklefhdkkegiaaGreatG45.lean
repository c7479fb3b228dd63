/- Parts of a proof. No conditions. -/

import Derived.Test.YtpklefhdkkegiaaGreatG43
set_option linter.unusedSimpArgs false
set_option linter.unusedVariables false
namespace Go.Proofs.YtpklefhdkkegiaaGreat
open Go
set_option maxRecDepth 100000
theorem HL {A B:cf × Int × Int→Prop} (a1 a2 a3 a4 a5 a6 i h:Int) (H:B (⟨a1,a2,a3,a4,a5,a6⟩,i,h)) (H1:A (⟨a1,a2,a3,a4,a5,a6⟩,i,h)):∃x,A x∧B x:=⟨_,H1,H⟩
set_option maxHeartbeats 4000000 in
theorem O9 (code:List UInt8) (i h:Int) (hi:dW code i) (hc:code.length≤aS):bY Tryz.prog 99 [cP] (fU code i h) (cJ code lB fun h=>sJ fun _=>h):=by
 unfold cJ;refine fu (pk:=[0,1]) aD Tryz.func99 rfl rfl (fr:=true) (fun _=>by kernel_rfl) (fun _=>rfl) rfl rfl fun P hP hA hB=> ?_;cbv;refine aJ.ex hP (HI code i h hi hc) fun⟨g,i1,h1⟩ ⟨hg,jL⟩=> ?_;cbv;have hg:s9 g:=hg;obtain⟨⟨s1,s2,s3,s4,s5⟩,t1,t2,t3,t4⟩:=hg.draw
 repeat' first
  | exact trivial
  | (refine Pz.mk ?_; cbv)
  | (refine aJ.ex hP (cY code _ _ _ (by assumption) hc) ?_; rintro⟨x,i2,h2⟩ ⟨hx,aC⟩;(try dsimp only at hx aC); cbv)
  | (refine aJ.ex hP (eW code _ _ _ (by assumption) hc) ?_; rintro⟨x,i2,h2⟩ ⟨hx,aC⟩;(try dsimp only at hx aC); cbv)
  | (refine aJ.ex hP (fe code _ _ _ (by decide) (by assumption) hc) ?_; rintro⟨x,i2,h2⟩ ⟨hx,aC⟩;(try dsimp only at hx aC); cbv)
  | (refine Br.yes (by first | assumption | exact decide_eq_true (by assumption)) ?_; cbv)
  | (refine Br.no (by first | assumption | exact decide_eq_false (by assumption)) ?_; cbv)
  | (refine Br.dec (fun hb=> ?_) (fun hb=> ?_) <;> cbv)
  | (refine Br.split (fun hb=> ?_) (fun hb=> ?_) <;> cbv)
  | (refine Ar.exact (by omega) (by omega) ?_; cbv)
  | (refine Ix.ex (by omega) (by(try simp only[nc] at *); omega) ?_; intro y; cbv)
  | (refine Ar.any ?_; intro u; cbv)
  | (refine bp.mk ?_ (by kernel_rfl) ?_; rotate_left; cbv; rotate_right) | refine⟨rfl, ?_⟩ | refine And.intro ?_ ?_ | exact rfl | fail
 all_goals
  apply HK
  · cbv
    (try dsimp only)
    repeat' first | exact trivial | refine⟨rfl, ?_⟩ | fail
  · exact⟨⟨⟨s1,s2,s3,by first | exact s4 | exact Nat.zero_le _,s5⟩,t1,by first | exact t2 | exact Nat.zero_le _,t3,t4⟩,by assumption⟩
set_option maxHeartbeats 8000000 in
theorem O_ (code:List UInt8) (i h:Int) (hi:dW code i) (hc:code.length≤aS) (g:al) (hg:g.rules.size≤6∧g.ae.length≤aS):bY Tryz.prog 154 [cP,dV g] (fU code i h) (cJ code (fun _:cf=>True) fun q=>eR .fC fun _=>q):=by
 obtain⟨g1,g2⟩:=hg;have g2:g.ae.length≤1048576:=g2;unfold cJ;refine fu (pk:=[0,1]) aD Tryz.func154 rfl rfl (fr:=true) (fun _=>by kernel_rfl) (fun _=>rfl) rfl rfl fun P hP hA hB=> ?_;cbv
 repeat' first
  | exact trivial
  | (refine Pz.mk ?_; cbv)
  | (refine ag.ex hP (Gd _ _) ?_; intro u hu; cbv)
  | (refine aJ.ex hP (cY code _ _ _ (by assumption) hc) ?_; rintro⟨x,i2,h2⟩ ⟨hx,aC⟩;(try dsimp only at hx aC); cbv)
  | (refine aJ.ex hP (eW code _ _ _ (by assumption) hc) ?_; rintro⟨x,i2,h2⟩ ⟨hx,aC⟩;(try dsimp only at hx aC); cbv)
  | (refine aJ.ex hP (fe code _ _ _ (by decide) (by assumption) hc) ?_; rintro⟨x,i2,h2⟩ ⟨hx,aC⟩;(try dsimp only at hx aC); cbv)
  | (refine Br.yes (by first | assumption | exact decide_eq_true (by assumption)) ?_; cbv)
  | (refine Br.no (by first | assumption | exact decide_eq_false (by assumption)) ?_; cbv)
  | (refine Br.dec (fun hb=> ?_) (fun hb=> ?_) <;> cbv)
  | (refine Br.split (fun hb=> ?_) (fun hb=> ?_) <;> cbv)
  | (refine Ar.exact (by omega) (by omega) ?_; cbv)
  | (refine Ix.ex (by omega) (by(try simp only[nc] at *); omega) ?_; intro y; cbv)
  | (refine Ar.any ?_; intro u; cbv)
  | (refine bp.mk ?_ (by kernel_rfl) ?_; rotate_left; cbv; rotate_right) | refine⟨rfl, ?_⟩ | refine And.intro ?_ ?_ | exact rfl | fail
 all_goals
  apply HL
  · cbv
    (try dsimp only)
    repeat' first | exact trivial | refine⟨rfl, ?_⟩ | fail
  · exact⟨trivial,by assumption⟩
set_option maxHeartbeats 8000000 in
theorem Pb (code:List UInt8) (i h:Int) (hi:dW code i) (hc:code.length≤aS) (g:al) (hg:g.rules.size≤6∧g.ae.length≤aS):bY Tryz.prog 156 [cP,dV g] (fU code i h) (cJ code (fun _:cf=>True) fun q=>eR .fC fun _=>q):=by
 unfold cJ;refine fu (pk:=[0,1]) aD Tryz.func156 rfl rfl (fr:=true) (fun _=>by kernel_rfl) (fun _=>rfl) rfl rfl fun P hP hA hB=> ?_;cbv
 repeat' first
  | exact trivial
  | (refine Pz.mk ?_; cbv)
  | (refine aJ.ex hP (O_ code _ _ (by assumption) hc g hg) ?_; rintro⟨x,i2,h2⟩ ⟨hx,aC⟩;(try dsimp only at hx aC); cbv)
  | (refine aJ.ex hP (cY code _ _ _ (by assumption) hc) ?_; rintro⟨x,i2,h2⟩ ⟨hx,aC⟩;(try dsimp only at hx aC); cbv)
  | (refine aJ.ex hP (eW code _ _ _ (by assumption) hc) ?_; rintro⟨x,i2,h2⟩ ⟨hx,aC⟩;(try dsimp only at hx aC); cbv)
  | (refine aJ.ex hP (fe code _ _ _ (by decide) (by assumption) hc) ?_; rintro⟨x,i2,h2⟩ ⟨hx,aC⟩;(try dsimp only at hx aC); cbv)
  | (refine Br.yes (by first | assumption | exact decide_eq_true (by assumption)) ?_; cbv)
  | (refine Br.no (by first | assumption | exact decide_eq_false (by assumption)) ?_; cbv)
  | (refine Br.dec (fun hb=> ?_) (fun hb=> ?_) <;> cbv)
  | (refine Br.split (fun hb=> ?_) (fun hb=> ?_) <;> cbv)
  | (refine Ar.exact (by omega) (by omega) ?_; cbv)
  | (refine Ix.ex (by omega) (by(try simp only[nc] at *); omega) ?_; intro y; cbv)
  | (refine Ar.any ?_; intro u; cbv)
  | (refine bp.mk ?_ (by kernel_rfl) ?_; rotate_left; cbv; rotate_right) | refine⟨rfl, ?_⟩ | refine And.intro ?_ ?_ | exact rfl | fail
 all_goals
  apply HL
  · cbv
    (try dsimp only)
    repeat' first | exact trivial | refine⟨rfl, ?_⟩ | fail
  · exact⟨trivial,by assumption⟩
def HM (x:Unit→cf):List Sh:=[.int .i64 fun _=>(x ()).kind, .int .i64 fun _=>(x ()).id, .int .i64 fun _=>(x ()).ah, .int .i64 fun _=>(x ()).aq, .int .i64 fun _=>(x ()).au, .int .i64 fun _=>(x ()).aT]
theorem HN {α β:Type} {A B:α × β→Prop} (a:α) (b:β) (H:B (a,b)) (H1:A (a,b)):∃x,A x∧B x:=⟨_,H1,H⟩
theorem lB.rq {g:al} (h:lB g):g.rules.size≤6∧g.ae.length≤aS:=⟨h.2.2.2.2.2.1,h.1.2.1⟩
set_option maxHeartbeats 8000000 in
theorem Pc (code:List UInt8) (hc:code.length≤aS):bY Tryz.prog 102 [.c (.own 0)] [(0, .view .byte fun _=>code)] (u9 (al × cf) (fun x=>lB x.1) (fun x=> .ba [(true,jq fun _=>x.1),(true,HM fun _=>x.2)]) (fun _=>[(0, .vw)])):=by
 have gv:dW code 0:=⟨Int.le_refl 0,Int.natCast_nonneg _⟩;refine fu (pk:=[0]) aD Tryz.func102 rfl rfl (fr:=true) (fun _=>by kernel_rfl) (fun _=>rfl) rfl rfl fun P hP hA hB=> ?_;cbv;refine aJ.Mb hP (Ml code hc) ?_;cbv
 repeat' first
  | exact trivial
  | (refine Pz.mk ?_; cbv)
  | (refine aJ.ex hP (O9 code _ _ (by assumption) hc) ?_; rintro⟨x,i2,h2⟩ ⟨hx,aC⟩;(try dsimp only at hx aC); cbv)
  | (refine aJ.ex hP (O8 code _ _ (by assumption) hc) ?_; rintro⟨x,i2,h2⟩ ⟨hx,aC⟩;(try dsimp only at hx aC); cbv)
  | (refine aJ.ex hP (Pb code _ _ (by assumption) hc _ (lB.rq (by assumption))) ?_; rintro⟨x,i2,h2⟩ ⟨hx,aC⟩;(try dsimp only at hx aC); cbv)
  | (refine aJ.ex hP (cY code _ _ _ (by assumption) hc) ?_; rintro⟨x,i2,h2⟩ ⟨hx,aC⟩;(try dsimp only at hx aC); cbv)
  | (refine aJ.ex hP (eW code _ _ _ (by assumption) hc) ?_; rintro⟨x,i2,h2⟩ ⟨hx,aC⟩;(try dsimp only at hx aC); cbv)
  | (refine aJ.ex hP (fe code _ _ _ (by decide) (by assumption) hc) ?_; rintro⟨x,i2,h2⟩ ⟨hx,aC⟩;(try dsimp only at hx aC); cbv)
  | (refine Br.yes (by first | assumption | exact decide_eq_true (by assumption)) ?_; cbv)
  | (refine Br.no (by first | assumption | exact decide_eq_false (by assumption)) ?_; cbv)
  | (refine Br.dec (fun hb=> ?_) (fun hb=> ?_) <;> cbv)
  | (refine Br.split (fun hb=> ?_) (fun hb=> ?_) <;> cbv)
  | (refine Ar.exact (by omega) (by omega) ?_; cbv)
  | (refine Ix.ex (by omega) (by(try simp only[nc] at *); omega) ?_; intro y; cbv)
  | (refine Ar.any ?_; intro u; cbv)
  | (refine bp.mk ?_ (by kernel_rfl) ?_; rotate_left; cbv; rotate_right) | refine⟨rfl, ?_⟩ | refine And.intro ?_ ?_ | exact rfl | fail
 all_goals
  apply HN
  · cbv
    (try dsimp only)
    repeat' first | exact trivial | refine⟨rfl, ?_⟩ | fail
  · exact(by assumption:lB _)
theorem Pd (code:List UInt8) (hc:code.length≤aS):bY Tryz.prog 36 [.c (.own 0)] [(0, .view .byte fun _=>code)] (u9 (al × cf) (fun x=>lB x.1) (fun x=> .ba [(true,jq fun _=>x.1),(true,HM fun _=>x.2)]) (fun _=>[(0, .vw)])):=by
 refine fu (pk:=[0]) aD Tryz.func36 rfl rfl (fr:=true) (fun _=>by kernel_rfl) (fun _=>rfl) rfl rfl fun P hP hA hB=> ?_;cbv;refine aJ.ex hP (Pc code hc) fun⟨x,y⟩ hx=> ?_;cbv;have hx:lB x:=hx
 all_goals
  apply HN
  · cbv
    (try dsimp only)
    repeat' first | exact trivial | refine⟨rfl, ?_⟩ | fail
  · exact(by assumption:lB _)
end Go.Proofs.YtpklefhdkkegiaaGreat

