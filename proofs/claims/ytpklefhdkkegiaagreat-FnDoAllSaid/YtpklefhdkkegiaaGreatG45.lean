/- Parts of a proof. No conditions. -/

import Derived.Test.YtpklefhdkkegiaaGreatG43
set_option linter.unusedSimpArgs false
set_option linter.unusedVariables false
namespace Go.Proofs.YtpklefhdkkegiaaGreat
open Go
set_option maxRecDepth 100000
theorem E9 {A B:bS × Int × Int→Prop} (a1 a2 a3 a4 a5 a6 i h:Int) (H:B (⟨a1,a2,a3,a4,a5,a6⟩,i,h)) (H1:A (⟨a1,a2,a3,a4,a5,a6⟩,i,h)):∃x,A x∧B x:=⟨_,H1,H⟩
set_option maxHeartbeats 4000000 in
theorem E_ (code:List UInt8) (i h:Int) (hi:dI code i) (hc:code.length≤aN):bJ Tryz.prog 99 [cP] (f_ code i h) (cJ code gu fun h=>kB fun _=>h):=by
 unfold cJ;refine eP (pk:=[0,1]) au Tryz.func99 rfl rfl (fr:=true) (fun _=>by kernel_rfl) (fun _=>rfl) rfl rfl fun P hP hA hB=> ?_;cbv;refine aD.ex hP (E8 code i h hi hc) fun⟨g,i1,h1⟩ ⟨hg,lI⟩=> ?_;cbv;have hg:uc g:=hg;obtain⟨⟨s1,s2,s3,s4,s5⟩,t1,t2,t3,t4⟩:=hg.draw
 repeat' first
  | exact trivial
  | (refine Pz.mk ?_; cbv)
  | (refine aD.ex hP (cT code _ _ _ (by assumption) hc) ?_; rintro⟨x,i2,h2⟩ ⟨hx,aw⟩;(try dsimp only at hx aw); cbv)
  | (refine aD.ex hP (eS code _ _ _ (by assumption) hc) ?_; rintro⟨x,i2,h2⟩ ⟨hx,aw⟩;(try dsimp only at hx aw); cbv)
  | (refine aD.ex hP (eQ code _ _ _ (by decide) (by assumption) hc) ?_; rintro⟨x,i2,h2⟩ ⟨hx,aw⟩;(try dsimp only at hx aw); cbv)
  | (refine Br.yes (by first | assumption | exact decide_eq_true (by assumption)) ?_; cbv)
  | (refine Br.no (by first | assumption | exact decide_eq_false (by assumption)) ?_; cbv)
  | (refine Br.dec (fun hb=> ?_) (fun hb=> ?_) <;> cbv)
  | (refine Br.split (fun hb=> ?_) (fun hb=> ?_) <;> cbv)
  | (refine Ar.exact (by omega) (by omega) ?_; cbv)
  | (refine Ix.ex (by omega) (by(try simp only[nc] at *); omega) ?_; intro y; cbv)
  | (refine Ar.any ?_; intro u; cbv)
  | (refine aW.mk ?_ (by kernel_rfl) ?_; rotate_left; cbv; rotate_right) | refine⟨rfl, ?_⟩ | refine And.intro ?_ ?_ | exact rfl | fail
 all_goals
  apply Ln
  · cbv
    (try dsimp only)
    repeat' first | exact trivial | refine⟨rfl, ?_⟩ | fail
  · exact⟨⟨⟨s1,s2,s3,by first | exact s4 | exact Nat.zero_le _,s5⟩,t1,by first | exact t2 | exact Nat.zero_le _,t3,t4⟩,by assumption⟩
set_option maxHeartbeats 8000000 in
theorem Fa (code:List UInt8) (i h:Int) (hi:dI code i) (hc:code.length≤aN) (g:ai) (hg:g.rules.size≤6∧g.ae.length≤aN):bJ Tryz.prog 154 [cP,cG g] (f_ code i h) (cJ code (fun _:bS=>True) fun q=>eR .da fun _=>q):=by
 obtain⟨g1,g2⟩:=hg;have g2:g.ae.length≤1048576:=g2;unfold cJ;refine eP (pk:=[0,1]) au Tryz.func154 rfl rfl (fr:=true) (fun _=>by kernel_rfl) (fun _=>rfl) rfl rfl fun P hP hA hB=> ?_;cbv
 repeat' first
  | exact trivial
  | (refine Pz.mk ?_; cbv)
  | (refine af.ex hP (xS _ _) ?_; intro u hu; cbv)
  | (refine aD.ex hP (cT code _ _ _ (by assumption) hc) ?_; rintro⟨x,i2,h2⟩ ⟨hx,aw⟩;(try dsimp only at hx aw); cbv)
  | (refine aD.ex hP (eS code _ _ _ (by assumption) hc) ?_; rintro⟨x,i2,h2⟩ ⟨hx,aw⟩;(try dsimp only at hx aw); cbv)
  | (refine aD.ex hP (eQ code _ _ _ (by decide) (by assumption) hc) ?_; rintro⟨x,i2,h2⟩ ⟨hx,aw⟩;(try dsimp only at hx aw); cbv)
  | (refine Br.yes (by first | assumption | exact decide_eq_true (by assumption)) ?_; cbv)
  | (refine Br.no (by first | assumption | exact decide_eq_false (by assumption)) ?_; cbv)
  | (refine Br.dec (fun hb=> ?_) (fun hb=> ?_) <;> cbv)
  | (refine Br.split (fun hb=> ?_) (fun hb=> ?_) <;> cbv)
  | (refine Ar.exact (by omega) (by omega) ?_; cbv)
  | (refine Ix.ex (by omega) (by(try simp only[nc] at *); omega) ?_; intro y; cbv)
  | (refine Ar.any ?_; intro u; cbv)
  | (refine aW.mk ?_ (by kernel_rfl) ?_; rotate_left; cbv; rotate_right) | refine⟨rfl, ?_⟩ | refine And.intro ?_ ?_ | exact rfl | fail
 all_goals
  apply E9
  · cbv
    (try dsimp only)
    repeat' first | exact trivial | refine⟨rfl, ?_⟩ | fail
  · exact⟨trivial,by assumption⟩
set_option maxHeartbeats 8000000 in
theorem Fb (code:List UInt8) (i h:Int) (hi:dI code i) (hc:code.length≤aN) (g:ai) (hg:g.rules.size≤6∧g.ae.length≤aN):bJ Tryz.prog 156 [cP,cG g] (f_ code i h) (cJ code (fun _:bS=>True) fun q=>eR .da fun _=>q):=by
 unfold cJ;refine eP (pk:=[0,1]) au Tryz.func156 rfl rfl (fr:=true) (fun _=>by kernel_rfl) (fun _=>rfl) rfl rfl fun P hP hA hB=> ?_;cbv
 repeat' first
  | exact trivial
  | (refine Pz.mk ?_; cbv)
  | (refine aD.ex hP (Fa code _ _ (by assumption) hc g hg) ?_; rintro⟨x,i2,h2⟩ ⟨hx,aw⟩;(try dsimp only at hx aw); cbv)
  | (refine aD.ex hP (cT code _ _ _ (by assumption) hc) ?_; rintro⟨x,i2,h2⟩ ⟨hx,aw⟩;(try dsimp only at hx aw); cbv)
  | (refine aD.ex hP (eS code _ _ _ (by assumption) hc) ?_; rintro⟨x,i2,h2⟩ ⟨hx,aw⟩;(try dsimp only at hx aw); cbv)
  | (refine aD.ex hP (eQ code _ _ _ (by decide) (by assumption) hc) ?_; rintro⟨x,i2,h2⟩ ⟨hx,aw⟩;(try dsimp only at hx aw); cbv)
  | (refine Br.yes (by first | assumption | exact decide_eq_true (by assumption)) ?_; cbv)
  | (refine Br.no (by first | assumption | exact decide_eq_false (by assumption)) ?_; cbv)
  | (refine Br.dec (fun hb=> ?_) (fun hb=> ?_) <;> cbv)
  | (refine Br.split (fun hb=> ?_) (fun hb=> ?_) <;> cbv)
  | (refine Ar.exact (by omega) (by omega) ?_; cbv)
  | (refine Ix.ex (by omega) (by(try simp only[nc] at *); omega) ?_; intro y; cbv)
  | (refine Ar.any ?_; intro u; cbv)
  | (refine aW.mk ?_ (by kernel_rfl) ?_; rotate_left; cbv; rotate_right) | refine⟨rfl, ?_⟩ | refine And.intro ?_ ?_ | exact rfl | fail
 all_goals
  apply E9
  · cbv
    (try dsimp only)
    repeat' first | exact trivial | refine⟨rfl, ?_⟩ | fail
  · exact⟨trivial,by assumption⟩
def Lo (x:Unit→bS):List Sh:=[.int .i64 fun _=>(x ()).kind, .int .i64 fun _=>(x ()).id, .int .i64 fun _=>(x ()).ag, .int .i64 fun _=>(x ()).al, .int .i64 fun _=>(x ()).aj, .int .i64 fun _=>(x ()).aO]
def np (k:Nat) (x:ai):List C:=[.own k, .lf (.int .i64 fun _=>x.rules.bX), .lf (.int .i64 fun _=>x.rules.room), .lf (.int .i64 fun _=>x.rules.size), .lf (.int .i64 fun _=>x.rules.period), .lf (.int .i64 fun _=>x.rules.bE), .lf (.int .i64 fun _=>x.rules.rest), .lf (.int .i64 fun _=>x.rules.tries), .lf (.int .i64 fun _=>x.rules.bm), .lf (.int .i64 fun _=>x.now), .lf (.int .i64 fun _=>x.aA), .own (k+1), .own (k+2), .own (k+3), .own (k+4)]
def pK (k:Nat) (x:ai):List (Nat × an):=[(k,aH .int fun _=>x.rules.seats),(k+1,aH .aE fun _=>x.ae),(k+2,aH .ag fun _=>x.cabins),(k+3,aH .int fun _=>x.todo),(k+4,aH .int fun _=>x.aq)]
theorem vX {α β:Type} {A B:α × β→Prop} (a:α) (b:β) (H:B (a,b)) (H1:A (a,b)):∃x,A x∧B x:=⟨_,H1,H⟩
theorem gu.rq {g:ai} (h:gu g):g.rules.size≤6∧g.ae.length≤aN:=⟨h.2.2.2.2.2.1,h.1.2.1⟩
set_option maxHeartbeats 8000000 in
theorem Tl (code:List UInt8) (hc:code.length≤aN):bJ Tryz.prog 102 [.c (.own 0)] [(0, .view .byte fun _=>code)] (pf (ai × bS) (fun x=>gu x.1) (fun x=> .aS [(true,fb fun _=>x.1),(true,Lo fun _=>x.2)]) (fun _=>[(0, .vw)])):=by
 have dZ:dI code 0:=⟨Int.le_refl 0,Int.natCast_nonneg _⟩;refine eP (pk:=[0]) au Tryz.func102 rfl rfl (fr:=true) (fun _=>by kernel_rfl) (fun _=>rfl) rfl rfl fun P hP hA hB=> ?_;cbv;refine aD.vE hP (xO code hc) ?_;cbv
 repeat' first
  | exact trivial
  | (refine Pz.mk ?_; cbv)
  | (refine aD.ex hP (E_ code _ _ (by assumption) hc) ?_; rintro⟨x,i2,h2⟩ ⟨hx,aw⟩;(try dsimp only at hx aw); cbv)
  | (refine aD.ex hP (A7 code _ _ (by assumption) hc) ?_; rintro⟨x,i2,h2⟩ ⟨hx,aw⟩;(try dsimp only at hx aw); cbv)
  | (refine aD.ex hP (Fb code _ _ (by assumption) hc _ (gu.rq (by assumption))) ?_; rintro⟨x,i2,h2⟩ ⟨hx,aw⟩;(try dsimp only at hx aw); cbv)
  | (refine aD.ex hP (cT code _ _ _ (by assumption) hc) ?_; rintro⟨x,i2,h2⟩ ⟨hx,aw⟩;(try dsimp only at hx aw); cbv)
  | (refine aD.ex hP (eS code _ _ _ (by assumption) hc) ?_; rintro⟨x,i2,h2⟩ ⟨hx,aw⟩;(try dsimp only at hx aw); cbv)
  | (refine aD.ex hP (eQ code _ _ _ (by decide) (by assumption) hc) ?_; rintro⟨x,i2,h2⟩ ⟨hx,aw⟩;(try dsimp only at hx aw); cbv)
  | (refine Br.yes (by first | assumption | exact decide_eq_true (by assumption)) ?_; cbv)
  | (refine Br.no (by first | assumption | exact decide_eq_false (by assumption)) ?_; cbv)
  | (refine Br.dec (fun hb=> ?_) (fun hb=> ?_) <;> cbv)
  | (refine Br.split (fun hb=> ?_) (fun hb=> ?_) <;> cbv)
  | (refine Ar.exact (by omega) (by omega) ?_; cbv)
  | (refine Ix.ex (by omega) (by(try simp only[nc] at *); omega) ?_; intro y; cbv)
  | (refine Ar.any ?_; intro u; cbv)
  | (refine aW.mk ?_ (by kernel_rfl) ?_; rotate_left; cbv; rotate_right) | refine⟨rfl, ?_⟩ | refine And.intro ?_ ?_ | exact rfl | fail
 all_goals
  apply vX
  · cbv
    (try dsimp only)
    repeat' first | exact trivial | refine⟨rfl, ?_⟩ | fail
  · exact(by assumption:gu _)
set_option maxHeartbeats 8000000 in
theorem Tm (code:List UInt8) (hc:code.length≤aN):bJ Tryz.prog 65 [.c (.own 0)] [(0, .view .byte fun _=>code)] (pf (ai × Int) (fun x=>gu x.1) (fun x=> .aS [(true,fb fun _=>x.1),(false,[.int .i64 fun _=>x.2])]) (fun _=>[(0, .vw)])):=by
 have dZ:dI code 0:=⟨Int.le_refl 0,Int.natCast_nonneg _⟩;refine eP (pk:=[0]) au Tryz.func65 rfl rfl (fr:=true) (fun _=>by kernel_rfl) (fun _=>rfl) rfl rfl fun P hP hA hB=> ?_;cbv;refine aD.vE hP (xO code hc) ?_;cbv
 repeat' first
  | exact trivial
  | (refine Pz.mk ?_; cbv)
  | (refine aD.ex hP (E_ code _ _ (by assumption) hc) ?_; rintro⟨x,i2,h2⟩ ⟨hx,aw⟩;(try dsimp only at hx aw); cbv)
  | (refine aD.ex hP (A7 code _ _ (by assumption) hc) ?_; rintro⟨x,i2,h2⟩ ⟨hx,aw⟩;(try dsimp only at hx aw); cbv)
  | (refine af.ex hP (xS _ _) ?_; intro u hu; cbv)
  | (refine aD.ex hP (cT code _ _ _ (by assumption) hc) ?_; rintro⟨x,i2,h2⟩ ⟨hx,aw⟩;(try dsimp only at hx aw); cbv)
  | (refine aD.ex hP (eS code _ _ _ (by assumption) hc) ?_; rintro⟨x,i2,h2⟩ ⟨hx,aw⟩;(try dsimp only at hx aw); cbv)
  | (refine aD.ex hP (eQ code _ _ _ (by decide) (by assumption) hc) ?_; rintro⟨x,i2,h2⟩ ⟨hx,aw⟩;(try dsimp only at hx aw); cbv)
  | (refine Br.yes (by first | assumption | exact decide_eq_true (by assumption)) ?_; cbv)
  | (refine Br.no (by first | assumption | exact decide_eq_false (by assumption)) ?_; cbv)
  | (refine Br.dec (fun hb=> ?_) (fun hb=> ?_) <;> cbv)
  | (refine Br.split (fun hb=> ?_) (fun hb=> ?_) <;> cbv)
  | (refine Ar.exact (by omega) (by omega) ?_; cbv)
  | (refine Ix.ex (by omega) (by(try simp only[nc] at *); omega) ?_; intro y; cbv)
  | (refine Ar.any ?_; intro u; cbv)
  | (refine aW.mk ?_ (by kernel_rfl) ?_; rotate_left; cbv; rotate_right) | refine⟨rfl, ?_⟩ | refine And.intro ?_ ?_ | exact rfl | fail
 all_goals
  apply vX
  · cbv
    (try dsimp only)
    repeat' first | exact trivial | refine⟨rfl, ?_⟩ | fail
  · exact(by assumption:gu _)
set_option maxHeartbeats 8000000 in
theorem Tn (code:List UInt8) (hc:code.length≤aN):bJ Tryz.prog 33 [.c (.own 0)] [(0, .view .byte fun _=>code)] (pf (ai × Int) (fun x=>gu x.1) (fun x=> .aS [(true,fb fun _=>x.1),(false,[.int .i64 fun _=>x.2])]) (fun _=>[(0, .vw)])):=by
 have dZ:dI code 0:=⟨Int.le_refl 0,Int.natCast_nonneg _⟩;refine eP (pk:=[0]) au Tryz.func33 rfl rfl (fr:=true) (fun _=>by kernel_rfl) (fun _=>rfl) rfl rfl fun P hP hA hB=> ?_;cbv;refine aD.vE hP (xO code hc) ?_;cbv
 repeat' first
  | exact trivial
  | (refine Pz.mk ?_; cbv)
  | (refine aD.ex hP (E_ code _ _ (by assumption) hc) ?_; rintro⟨x,i2,h2⟩ ⟨hx,aw⟩;(try dsimp only at hx aw); cbv)
  | (refine aD.ex hP (A7 code _ _ (by assumption) hc) ?_; rintro⟨x,i2,h2⟩ ⟨hx,aw⟩;(try dsimp only at hx aw); cbv)
  | (refine af.ex hP (xS _ _) ?_; intro u hu; cbv)
  | (refine aD.ex hP (cT code _ _ _ (by assumption) hc) ?_; rintro⟨x,i2,h2⟩ ⟨hx,aw⟩;(try dsimp only at hx aw); cbv)
  | (refine aD.ex hP (eS code _ _ _ (by assumption) hc) ?_; rintro⟨x,i2,h2⟩ ⟨hx,aw⟩;(try dsimp only at hx aw); cbv)
  | (refine aD.ex hP (eQ code _ _ _ (by decide) (by assumption) hc) ?_; rintro⟨x,i2,h2⟩ ⟨hx,aw⟩;(try dsimp only at hx aw); cbv)
  | (refine Br.yes (by first | assumption | exact decide_eq_true (by assumption)) ?_; cbv)
  | (refine Br.no (by first | assumption | exact decide_eq_false (by assumption)) ?_; cbv)
  | (refine Br.dec (fun hb=> ?_) (fun hb=> ?_) <;> cbv)
  | (refine Br.split (fun hb=> ?_) (fun hb=> ?_) <;> cbv)
  | (refine Ar.exact (by omega) (by omega) ?_; cbv)
  | (refine Ix.ex (by omega) (by(try simp only[nc] at *); omega) ?_; intro y; cbv)
  | (refine Ar.any ?_; intro u; cbv)
  | (refine aW.mk ?_ (by kernel_rfl) ?_; rotate_left; cbv; rotate_right) | refine⟨rfl, ?_⟩ | refine And.intro ?_ ?_ | exact rfl | fail
 all_goals
  apply vX
  · cbv
    (try dsimp only)
    repeat' first | exact trivial | refine⟨rfl, ?_⟩ | fail
  · exact(by assumption:gu _)
theorem To (code:List UInt8) (hc:code.length≤aN):bJ Tryz.prog 36 [.c (.own 0)] [(0, .view .byte fun _=>code)] (pf (ai × bS) (fun x=>gu x.1) (fun x=> .aS [(true,fb fun _=>x.1),(true,Lo fun _=>x.2)]) (fun _=>[(0, .vw)])):=by
 refine eP (pk:=[0]) au Tryz.func36 rfl rfl (fr:=true) (fun _=>by kernel_rfl) (fun _=>rfl) rfl rfl fun P hP hA hB=> ?_;cbv;refine aD.ex hP (Tl code hc) fun⟨x,y⟩ hx=> ?_;cbv;have hx:gu x:=hx
 all_goals
  apply vX
  · cbv
    (try dsimp only)
    repeat' first | exact trivial | refine⟨rfl, ?_⟩ | fail
  · exact(by assumption:gu _)
theorem Lp (code:List UInt8) (hc:code.length≤aN):bJ Tryz.prog 19 [.c (.own 0)] [(0, .view .byte fun _=>code)] (pf (ai × Int) (fun x=>gu x.1) (fun x=> .aS [(true,fb fun _=>x.1),(false,[.int .i64 fun _=>x.2])]) (fun _=>[(0, .vw)])):=by
 refine eP (pk:=[0]) au Tryz.func19 rfl rfl (fr:=true) (fun _=>by kernel_rfl) (fun _=>rfl) rfl rfl fun P hP hA hB=> ?_;cbv;refine aD.ex hP (Tm code hc) fun⟨x,y⟩ hx=> ?_;cbv;have hx:gu x:=hx
 all_goals
  apply vX
  · cbv
    (try dsimp only)
    repeat' first | exact trivial | refine⟨rfl, ?_⟩ | fail
  · exact(by assumption:gu _)
end Go.Proofs.YtpklefhdkkegiaaGreat

