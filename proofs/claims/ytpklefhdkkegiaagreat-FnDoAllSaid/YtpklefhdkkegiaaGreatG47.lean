/- Parts of a proof. No conditions. -/

import Derived.Test.YtpklefhdkkegiaaGreatG45
import Derived.Test.YtpklefhdkkegiaaGreatG36
import Derived.Test.YtpklefhdkkegiaaGreatG37
import Derived.Test.YtpklefhdkkegiaaGreatG39
set_option linter.unusedSimpArgs false
set_option linter.unusedVariables false
namespace Go.Proofs.YtpklefhdkkegiaaGreat
open Go
set_option maxRecDepth 100000
def jM (h:ai):Prop:=a_ h∧h.rules.size≤6
theorem jM.rq {h:ai} (g:jM h):h.rules.size≤6∧h.ae.length≤aN:=⟨g.2,g.1.2.1⟩
theorem jM.U0 {h:ai} (g:jM h) (q:bS):jM (jL h q):=by
 refine⟨Bx g.1 q, ?_⟩;cases hb:bU h with
 | true=>exact(eB (By (dy.1 hb) q).rules).size.2
 | false=>
   have hv:=yB (q:=q) hb;rw[jL,if_neg (by rw[hv]; decide)];exact g.2
theorem gu.q {h:ai} (g:gu h):jM h:=⟨g.1,g.2.2.2.2.2.1⟩
theorem U1 (code:List UInt8) (a b:Int) (hc:code.length≤aN) (ha:0≤a∧a≤b∧b≤1000):Spec Tryz.prog 86 [lA .byte code,iA a,iA b] (gW Int (fun x=>0≤x∧x≤b) fun x=>iR fun _=>x):=by
 have hc:code.length≤1048576:=hc
 have r1:0≤((code.length:Nat):Int).tdiv 4∧((code.length:Nat):Int).tdiv 4≤1048576:=by
   rw[Int.tdiv_eq_ediv_of_nonneg (Int.natCast_nonneg _)]; omega
 obtain⟨d,hd⟩:∃d,d=((code.length:Nat):Int).tdiv 4:=⟨_,rfl⟩;rw[←hd] at r1;refine aF au Tryz.func86 rfl rfl (fr:=true) (fun _=>by kernel_rfl) fun P hP hA=> ?_;cbv
 repeat' first
   | exact trivial
   | (refine Pz.mk ?_; cbv)
   | (refine Ob.mk (by decide) ?_; cbv)
   | (refine Ar.exact (by show -9223372036854775808≤((code.length:Nat):Int).tdiv 4; rw[←hd]; omega) (by show((code.length:Nat):Int).tdiv 4≤9223372036854775807; rw[←hd]; omega) ?_; cbv)
   | (refine Ar.exact (by show -9223372036854775808≤a+((code.length:Nat):Int).tdiv 4; rw[←hd]; omega) (by show a+((code.length:Nat):Int).tdiv 4≤9223372036854775807; rw[←hd]; omega) ?_; cbv)
   | (refine Br.dec (fun hb=> ?_) (fun hb=> ?_) <;> cbv)
   | fail
 · refine⟨b,⟨by omega,Int.le_refl _⟩, ?_⟩;cbv
   repeat' first | exact trivial | refine⟨rfl, ?_⟩ | fail
 · have eh:¬b<a+((code.length:Nat):Int).tdiv 4:=by assumption
   rw[←hd] at eh;refine⟨a+((code.length:Nat):Int).tdiv 4,⟨by rw[←hd]; omega,by rw[←hd]; omega⟩, ?_⟩;cbv
   repeat' first | exact trivial | refine⟨rfl, ?_⟩ | fail
set_option maxHeartbeats 8000000 in
theorem MC (code:List UInt8) (i h:Int) (hi:dI code i) (hc:code.length≤aN) (g:ai) (hg:g.rules.size≤6∧g.ae.length≤aN):bJ Tryz.prog 155 [cP,cG g] (f_ code i h) (cJ code (fun _:bS=>True) fun q=>eR .da fun _=>q):=by
 obtain⟨g1,g2⟩:=hg;have g2:g.ae.length≤1048576:=g2;unfold cJ;refine eP (pk:=[0,1]) au Tryz.func155 rfl rfl (fr:=true) (fun _=>by kernel_rfl) (fun _=>rfl) rfl rfl fun P hP hA hB=> ?_;cbv;apply aR.DT (A:=Int) (B:=Int) (C:=Int) (fun j i h=>[(0,pN 0),(3,pN 3),(4,pN 4),(5,iT fun _=>j)]) (fun j i h=>[(0,qE i h),(1,qF code),(3, .box (iD g)),(4, .box [.lf (.int .i64 fun _=>0), .lf (.int .i64 fun _=>0), .lf (.int .i64 fun _=>0), .lf (.int .i64 fun _=>0), .lf (.int .i64 fun _=>0), .lf (.int .i64 fun _=>0)])]) (fun j i h=>0≤j∧j.toNat≤g.ae.length∧dI code i) (fun j i h _=>g.ae.length - j.toNat)
 · cbv
   repeat' first | exact trivial | refine⟨rfl, ?_⟩ | fail
 · exact⟨by omega,Nat.zero_le _,hi⟩
 rintro j i1 h1 ⟨q1,q2,q3⟩
 cbv
 repeat' first
   | exact trivial
   | (refine Pz.mk ?_; cbv)
   | (refine af.ex hP (xS _ _) ?_; intro u hu; cbv)
   | (refine aD.ex hP (cT code _ _ _ (by assumption) hc) ?_; rintro⟨x,i2,h2⟩ ⟨hx,aw⟩;(try dsimp only at hx aw); cbv)
   | (refine aD.ex hP (eS code _ _ _ (by assumption) hc) ?_; rintro⟨x,i2,h2⟩ ⟨hx,aw⟩;(try dsimp only at hx aw); cbv)
   | (refine aD.ex hP (eQ code _ _ _ (by decide) (by assumption) hc) ?_; rintro⟨x,i2,h2⟩ ⟨hx,aw⟩;(try dsimp only at hx aw); cbv)
   | (refine Br.yes (by first | assumption | exact decide_eq_true (by assumption)) ?_; cbv)
   | (refine Br.no (by first | assumption | exact decide_eq_false (by assumption)) ?_; cbv)
   | (refine Br.dec (fun hb=> ?_) (fun hb=> ?_) <;> cbv)
   | (refine Br.split (fun hb=> ?_) (fun hb=> ?_) <;> cbv)
   | (refine Ar.exact (by omega) (by omega) ?_; cbv)
   | (refine Ix.ex (by omega) (by(try simp only[nc] at *); omega) ?_; intro y; cbv)
   | (refine Ar.any ?_; intro u; cbv)
   | (refine aW.mk ?_ (by kernel_rfl) ?_; rotate_left; cbv; rotate_right) | refine⟨rfl, ?_⟩ | refine And.intro ?_ ?_ | exact rfl | fail
 any_goals
   apply aL.QN
   · cbv
     (try dsimp only)
     repeat' first | exact trivial | refine⟨rfl, ?_⟩ | fail
   · (try dsimp only)
     exact⟨by omega,by have ek:j<(g.ae.length:Int):=(by assumption); omega,by assumption⟩
   · (try dsimp only)
     have ek:j<(g.ae.length:Int):=(by assumption); omega
 all_goals
   apply E9
   · cbv
     (try dsimp only)
     repeat' first | exact trivial | refine⟨rfl, ?_⟩ | fail
   · exact⟨trivial,by assumption⟩
theorem MD (h:ai) (q:bS) (g:jM h):Spec Tryz.prog 157 [cG h,eA .da q] (gW (ai × fw) (fun x=>jM x.1) fun x=> .aS [(true,fb fun _=>x.1),(true,[.int .i64 fun _=>x.2.code, .own .int fun _=>x.2.ids])]):=
 Spec.na (jL h q,mz h q) (g.U0 q) (Uz h q g.1 _ rfl _ rfl)
set_option maxHeartbeats 8000000 in
theorem U2 (code:List UInt8) (i h:Int) (hi:dI code i) (hc:code.length≤aN) (g:ai) (hg:jM g) (n:Int) (hn:n≤40):bJ Tryz.prog 84 [cP,cG g,iA n] (f_ code i h) (cJ code (fun l:List bS=>l.length≤40) fun l=>lR .da fun _=>l):=by
 unfold cJ;refine eP (pk:=[0,1]) au Tryz.func84 rfl rfl (fr:=true) (fun _=>by kernel_rfl) (fun _=>rfl) rfl rfl fun P hP hA hB=> ?_;cbv;apply aR.Ak (A:=Option ai) (B:=List bS) (C:=Int) (D:=Int) (E:=Int) (fun a l j i h=>[(0,pN 0),(2,iT fun _=>n),(4,pN 4),(7,oN 3),(8,iT fun _=>j)]) (fun a l j i h=>(0,qE i h)::(1,qF code)::(3,aH .da fun _=>l)::(match a with | none=>[(4, .box (iD g))] | some E=>(4, .box (np 5 E))::pK 5 E)) (fun a l j i h=>(∀E,a=some E→jM E)∧l.length≤j.toNat∧0≤j∧j≤40∧dI code i) (fun a l j i h _=>(40 - j).toNat) none
 · cbv
   (try dsimp only)
   repeat' first | exact trivial | refine⟨rfl, ?_⟩ | fail
 · exact⟨fun E hE=>(by cases hE),Nat.zero_le _,by decide,by omega,hi⟩
 rintro a l j i1 h1 ⟨q1,q2,q3,q4,q5⟩
 cases a with
 | none =>
   have ob:(l.length+1)*48≤140737488355328:=by omega
   cbv
   repeat' first
    | exact trivial
    | (refine Pz.mk ?_; cbv)
    | (refine Ob.mk (ob) ?_; cbv)
    | (refine aD.ex hP (Fa code _ _ (by assumption) hc g hg.rq) ?_; rintro⟨x,i2,h2⟩ ⟨hx,aw⟩;(try dsimp only at hx aw); cbv)
    | (refine aD.ex hP (MC code _ _ (by assumption) hc g hg.rq) ?_; rintro⟨x,i2,h2⟩ ⟨hx,aw⟩;(try dsimp only at hx aw); cbv)
    | (refine aD.ex hP (Fb code _ _ (by assumption) hc g hg.rq) ?_; rintro⟨x,i2,h2⟩ ⟨hx,aw⟩;(try dsimp only at hx aw); cbv)
    | (refine af.ex hP (MD g ⟨_,_,_,_,_,_⟩ hg) ?_; rintro⟨F,rp⟩ hF; cbv)
    | (refine aD.ex hP (cT code _ _ _ (by assumption) hc) ?_; rintro⟨x,i2,h2⟩ ⟨hx,aw⟩;(try dsimp only at hx aw); cbv)
    | (refine aD.ex hP (eS code _ _ _ (by assumption) hc) ?_; rintro⟨x,i2,h2⟩ ⟨hx,aw⟩;(try dsimp only at hx aw); cbv)
    | (refine aD.ex hP (eQ code _ _ _ (by decide) (by assumption) hc) ?_; rintro⟨x,i2,h2⟩ ⟨hx,aw⟩;(try dsimp only at hx aw); cbv)
    | (refine Br.yes (by first | assumption | exact decide_eq_true (by assumption)) ?_; cbv)
    | (refine Br.no (by first | assumption | exact decide_eq_false (by assumption)) ?_; cbv)
    | (refine Br.dec (fun hb=> ?_) (fun hb=> ?_) <;> cbv)
    | (refine Br.split (fun hb=> ?_) (fun hb=> ?_) <;> cbv)
    | (refine Ar.exact (by omega) (by omega) ?_; cbv)
    | (refine Ix.ex (by omega) (by(try simp only[nc] at *); omega) ?_; intro y; cbv)
    | (refine Ar.any ?_; intro u; cbv)
    | (refine aW.mk ?_ (by kernel_rfl) ?_; rotate_left; cbv; rotate_right) | refine⟨rfl, ?_⟩ | refine And.intro ?_ ?_ | exact rfl | fail
   any_goals
    apply aL.Ef (some F)
    · cbv
      (try dsimp only)
      repeat' first | exact trivial | refine⟨rfl, ?_⟩ | fail
    · (try dsimp only)
      exact⟨fun E hE=>(by cases hE; exact hF),by rw[List.length_append,List.length_singleton]; omega,by omega,by omega,by assumption⟩
    · (try dsimp only)
      omega
   all_goals
    apply xR
    · cbv
      (try dsimp only)
      repeat' first | exact trivial | refine⟨rfl, ?_⟩ | fail
    · exact⟨by show l.length≤40; omega,by assumption⟩
 | some E=>
   have hE:jM E:=q1 E rfl;have ob:(l.length+1)*48≤140737488355328:=by omega
   cbv
   repeat' first
    | exact trivial
    | (refine Pz.mk ?_; cbv)
    | (refine Ob.mk (ob) ?_; cbv)
    | (refine aD.ex hP (Fa code _ _ (by assumption) hc E hE.rq) ?_; rintro⟨x,i2,h2⟩ ⟨hx,aw⟩;(try dsimp only at hx aw); cbv)
    | (refine aD.ex hP (MC code _ _ (by assumption) hc E hE.rq) ?_; rintro⟨x,i2,h2⟩ ⟨hx,aw⟩;(try dsimp only at hx aw); cbv)
    | (refine aD.ex hP (Fb code _ _ (by assumption) hc E hE.rq) ?_; rintro⟨x,i2,h2⟩ ⟨hx,aw⟩;(try dsimp only at hx aw); cbv)
    | (refine af.ex hP (MD E ⟨_,_,_,_,_,_⟩ hE) ?_; rintro⟨F,rp⟩ hF; cbv)
    | (refine aD.ex hP (cT code _ _ _ (by assumption) hc) ?_; rintro⟨x,i2,h2⟩ ⟨hx,aw⟩;(try dsimp only at hx aw); cbv)
    | (refine aD.ex hP (eS code _ _ _ (by assumption) hc) ?_; rintro⟨x,i2,h2⟩ ⟨hx,aw⟩;(try dsimp only at hx aw); cbv)
    | (refine aD.ex hP (eQ code _ _ _ (by decide) (by assumption) hc) ?_; rintro⟨x,i2,h2⟩ ⟨hx,aw⟩;(try dsimp only at hx aw); cbv)
    | (refine Br.yes (by first | assumption | exact decide_eq_true (by assumption)) ?_; cbv)
    | (refine Br.no (by first | assumption | exact decide_eq_false (by assumption)) ?_; cbv)
    | (refine Br.dec (fun hb=> ?_) (fun hb=> ?_) <;> cbv)
    | (refine Br.split (fun hb=> ?_) (fun hb=> ?_) <;> cbv)
    | (refine Ar.exact (by omega) (by omega) ?_; cbv)
    | (refine Ix.ex (by omega) (by(try simp only[nc] at *); omega) ?_; intro y; cbv)
    | (refine Ar.any ?_; intro u; cbv)
    | (refine aW.mk ?_ (by kernel_rfl) ?_; rotate_left; cbv; rotate_right) | refine⟨rfl, ?_⟩ | refine And.intro ?_ ?_ | exact rfl | fail
   any_goals
    apply aL.Ef (some F)
    · cbv
      (try dsimp only)
      repeat' first | exact trivial | refine⟨rfl, ?_⟩ | fail
    · (try dsimp only)
      exact⟨fun E hE=>(by cases hE; exact hF),by rw[List.length_append,List.length_singleton]; omega,by omega,by omega,by assumption⟩
    · (try dsimp only)
      omega
   all_goals
    apply xR
    · cbv
      (try dsimp only)
      repeat' first | exact trivial | refine⟨rfl, ?_⟩ | fail
    · exact⟨by show l.length≤40; omega,by assumption⟩
theorem U3 {r:bn} (hr:qD r):jM (lW r):=⟨MB (Lk hr),hr.2.2.1.2⟩
set_option maxHeartbeats 4000000 in
theorem U4 (code:List UInt8) (i h:Int) (hi:dI code i) (hc:code.length≤aN):bJ Tryz.prog 81 [cP] (f_ code i h) (cJ code jM fun h=>kB fun _=>h):=by
 unfold cJ;refine eP (pk:=[0,1]) au Tryz.func81 rfl rfl (fr:=true) (fun _=>by kernel_rfl) (fun _=>rfl) rfl rfl fun P hP hA hB=> ?_;cbv
 repeat' first
  | exact trivial
  | (refine Pz.mk ?_; cbv)
  | (refine aD.ex hP (E8 code _ _ (by assumption) hc) ?_; rintro⟨x,i2,h2⟩ ⟨hx,aw⟩;(try dsimp only at hx aw); cbv)
  | (refine aD.ex hP (DZ code _ _ (by assumption) hc) ?_; rintro⟨x,i2,h2⟩ ⟨hx,aw⟩;(try dsimp only at hx aw); cbv)
  | (refine af.ex hP (Ll _ (by assumption)) ?_; rintro E hE; cbv)
  | (refine aD.ex hP (cT code _ _ _ (by assumption) hc) ?_; rintro⟨x,i2,h2⟩ ⟨hx,aw⟩;(try dsimp only at hx aw); cbv)
  | (refine aD.ex hP (eS code _ _ _ (by assumption) hc) ?_; rintro⟨x,i2,h2⟩ ⟨hx,aw⟩;(try dsimp only at hx aw); cbv)
  | (refine aD.ex hP (eQ code _ _ _ (by decide) (by assumption) hc) ?_; rintro⟨x,i2,h2⟩ ⟨hx,aw⟩;(try dsimp only at hx aw); cbv)
  | (refine Br.yes (by first | assumption | exact decide_eq_true (by assumption)) ?_; cbv)
  | (refine Br.no (by first | assumption | exact decide_eq_false (by assumption)) ?_; cbv)
  | (refine Br.dec (fun hb=> ?_) (fun hb=> ?_) <;> cbv)
  | (refine Br.split (fun hb=> ?_) (fun hb=> ?_) <;> cbv)
  | (refine Ar.exact (by omega) (by omega) ?_; cbv)
  | (refine Ix.ex (by omega) (by(try simp only[nc] at *); omega) ?_; intro y; cbv)
  | (refine Ar.any ?_; intro u; cbv)
  | (refine aW.mk ?_ (by kernel_rfl) ?_; rotate_left; cbv; rotate_right) | refine⟨rfl, ?_⟩ | refine And.intro ?_ ?_ | exact rfl | fail
 all_goals
  apply xR
  · cbv
    (try dsimp only)
    repeat' first | exact trivial | refine⟨rfl, ?_⟩ | fail
  · first | exact⟨(uc.draw (by assumption)).q,by assumption⟩ | exact⟨by(have pR:E=_:=hE); dsimp only; rw[pR]; exact U3 (by assumption),by assumption⟩
set_option maxHeartbeats 8000000 in
theorem ME (code:List UInt8) (hc:code.length≤aN):bJ Tryz.prog 30 [.c (.own 0)] [(0, .view .byte fun _=>code)] (pf (ai × List bS) (fun x=>jM x.1∧x.2.length≤40) (fun x=> .aS [(true,fb fun _=>x.1),(false,[.own .da fun _=>x.2])]) (fun _=>[(0, .vw)])):=by
 have dZ:dI code 0:=⟨Int.le_refl 0,Int.natCast_nonneg _⟩;refine eP (pk:=[0]) au Tryz.func30 rfl rfl (fr:=true) (fun _=>by kernel_rfl) (fun _=>rfl) rfl rfl fun P hP hA hB=> ?_;cbv;refine aD.vE hP (xO code hc) ?_;cbv
 repeat' first
  | exact trivial
  | (refine Pz.mk ?_; cbv)
  | (refine aD.ex hP (U4 code _ _ (by assumption) hc) ?_; rintro⟨x,i2,h2⟩ ⟨hx,aw⟩;(try dsimp only at hx aw); cbv)
  | (refine aD.ex hP (A7 code _ _ (by assumption) hc) ?_; rintro⟨x,i2,h2⟩ ⟨hx,aw⟩;(try dsimp only at hx aw); cbv)
  | (refine af.ex hP (U1 code 4 40 hc (by omega)) ?_; intro u hu; cbv)
  | (refine aD.ex hP (U2 code _ _ (by assumption) hc _ (by first | assumption | exact gu.q (by assumption)) _ (by omega)) ?_; rintro⟨x,i2,h2⟩ ⟨hx,aw⟩;(try dsimp only at hx aw); cbv)
  | (refine aD.ex hP (cT code _ _ _ (by assumption) hc) ?_; rintro⟨x,i2,h2⟩ ⟨hx,aw⟩;(try dsimp only at hx aw); cbv)
  | (refine aD.ex hP (eS code _ _ _ (by assumption) hc) ?_; rintro⟨x,i2,h2⟩ ⟨hx,aw⟩;(try dsimp only at hx aw); cbv)
  | (refine aD.ex hP (eQ code _ _ _ (by decide) (by assumption) hc) ?_; rintro⟨x,i2,h2⟩ ⟨hx,aw⟩;(try dsimp only at hx aw); cbv)
  | (refine Br.yes (by first | assumption | exact decide_eq_true (by assumption)) ?_; cbv)
  | (refine Br.no (by first | assumption | exact decide_eq_false (by assumption)) ?_; cbv)
  | (refine Br.dec (fun hb=> ?_) (fun hb=> ?_) <;> cbv)
  | (refine Br.split (fun hb=> ?_) (fun hb=> ?_) <;> cbv)
  | (refine Ar.exact (by omega) (by omega) ?_; cbv)
  | (refine Ix.ex (by omega) (by(try simp only[nc] at *); omega) ?_; intro y; cbv)
  | (refine Ar.any ?_; intro u; cbv)
  | (refine aW.mk ?_ (by kernel_rfl) ?_; rotate_left; cbv; rotate_right) | refine⟨rfl, ?_⟩ | refine And.intro ?_ ?_ | exact rfl | fail
 all_goals
  apply vX
  · cbv
    (try dsimp only)
    repeat' first | exact trivial | refine⟨rfl, ?_⟩ | fail
  · exact⟨by first | assumption | exact gu.q (by assumption),by assumption⟩
end Go.Proofs.YtpklefhdkkegiaaGreat

