/- Parts of a proof. No conditions. -/

import Derived.Test.YtpklefhdkkegiaaGreatG41
import Derived.Test.YtpklefhdkkegiaaGreatG23
import Derived.Test.YtpklefhdkkegiaaGreatG09
import Derived.Test.YtpklefhdkkegiaaGreatG10
set_option linter.unusedSimpArgs false
set_option linter.unusedVariables false
namespace Go.Proofs.YtpklefhdkkegiaaGreat
open Go
set_option maxRecDepth 100000
set_option maxHeartbeats 4000000 in
theorem Hv (code:List UInt8) (i h:Int) (hi:dW code i) (hc:code.length≤aS):bY Tryz.prog 260 [cP] (fU code i h) (cJ code (fun _:Entry=>True) fun p=>eR .aH fun _=>p):=by
 unfold cJ;refine fu (pk:=[0,1]) aD Tryz.func260 rfl rfl (fr:=true) (fun _=>by kernel_rfl) (fun _=>rfl) rfl rfl fun P hP hA hB=> ?_;cbv
 repeat' first
  | exact trivial
  | (refine Pz.mk ?_; cbv)
  | (refine aJ.ex hP (cY code _ _ _ (by assumption) hc) ?_; rintro⟨x,i2,h2⟩ ⟨hx,aC⟩;(try dsimp only at hx aC); cbv)
  | (refine aJ.ex hP (eW code _ _ _ (by assumption) hc) ?_; rintro⟨x,i2,h2⟩ ⟨hx,aC⟩;(try dsimp only at hx aC); cbv)
  | (refine aJ.ex hP (fe code _ _ _ (by decide) (by assumption) hc) ?_; rintro⟨x,i2,h2⟩ ⟨hx,aC⟩;(try dsimp only at hx aC); cbv)
  | (refine Br.yes (by first | assumption | exact decide_eq_true (by assumption)) ?_; cbv)
  | (refine Br.no (by first | assumption | exact decide_eq_false (by assumption)) ?_; cbv)
  | (refine Br.dec (fun hb=> ?_) (fun hb=> ?_) <;> cbv)
  | (refine Br.split (fun hb=> ?_) (fun hb=> ?_) <;> cbv)
  | (refine Ar.exact (by omega) (by omega) ?_; cbv)
  | (refine Ix.ex (by omega) (by(try simp only[nc] at *); omega) ?_; intro y; cbv)
  | (refine Ar.any ?_; intro u; cbv)
  | (refine bp.mk ?_ (by kernel_rfl) ?_; rotate_left; cbv; rotate_right) | refine⟨rfl, ?_⟩ | refine And.intro ?_ ?_ | exact rfl | fail
 all_goals
  apply MH
  · cbv
    (try dsimp only)
    repeat' first | exact trivial | refine⟨rfl, ?_⟩ | fail
  · exact⟨trivial,by assumption⟩
set_option maxHeartbeats 4000000 in
theorem Hw (code:List UInt8) (i h:Int) (hi:dW code i) (hc:code.length≤aS):bY Tryz.prog 258 [cP] (fU code i h) (cJ code (fun _:bA=>True) fun p=>FJ fun _=>p):=by
 unfold cJ;refine fu (pk:=[0,1]) aD Tryz.func258 rfl rfl (fr:=true) (fun _=>by kernel_rfl) (fun _=>rfl) rfl rfl fun P hP hA hB=> ?_;cbv
 repeat' first
  | exact trivial
  | (refine Pz.mk ?_; cbv)
  | (refine aJ.ex hP (cY code _ _ _ (by assumption) hc) ?_; rintro⟨x,i2,h2⟩ ⟨hx,aC⟩;(try dsimp only at hx aC); cbv)
  | (refine aJ.ex hP (eW code _ _ _ (by assumption) hc) ?_; rintro⟨x,i2,h2⟩ ⟨hx,aC⟩;(try dsimp only at hx aC); cbv)
  | (refine aJ.ex hP (fe code _ _ _ (by decide) (by assumption) hc) ?_; rintro⟨x,i2,h2⟩ ⟨hx,aC⟩;(try dsimp only at hx aC); cbv)
  | (refine Br.yes (by first | assumption | exact decide_eq_true (by assumption)) ?_; cbv)
  | (refine Br.no (by first | assumption | exact decide_eq_false (by assumption)) ?_; cbv)
  | (refine Br.dec (fun hb=> ?_) (fun hb=> ?_) <;> cbv)
  | (refine Br.split (fun hb=> ?_) (fun hb=> ?_) <;> cbv)
  | (refine Ar.exact (by omega) (by omega) ?_; cbv)
  | (refine Ix.ex (by omega) (by(try simp only[nc] at *); omega) ?_; intro y; cbv)
  | (refine Ar.any ?_; intro u; cbv)
  | (refine bp.mk ?_ (by kernel_rfl) ?_; rotate_left; cbv; rotate_right) | refine⟨rfl, ?_⟩ | refine And.intro ?_ ?_ | exact rfl | fail
 all_goals
  apply F8
  · cbv
    (try dsimp only)
    repeat' first | exact trivial | refine⟨rfl, ?_⟩ | fail
  · exact⟨trivial,by assumption⟩
set_option maxHeartbeats 4000000 in
theorem OA (code:List UInt8) (i h:Int) (hi:dW code i) (hc:code.length≤aS):bY Tryz.prog 217 [cP] (fU code i h) (cJ code (fun _:bA=>True) fun p=>FJ fun _=>p):=by
 unfold cJ;refine fu (pk:=[0,1]) aD Tryz.func217 rfl rfl (fr:=true) (fun _=>by kernel_rfl) (fun _=>rfl) rfl rfl fun P hP hA hB=> ?_;cbv
 repeat' first
  | exact trivial
  | (refine Pz.mk ?_; cbv)
  | (refine aJ.ex hP (Hw code _ _ (by assumption) hc) ?_; rintro⟨x,i2,h2⟩ ⟨hx,aC⟩;(try dsimp only at hx aC); cbv)
  | (refine aJ.ex hP (cY code _ _ _ (by assumption) hc) ?_; rintro⟨x,i2,h2⟩ ⟨hx,aC⟩;(try dsimp only at hx aC); cbv)
  | (refine aJ.ex hP (eW code _ _ _ (by assumption) hc) ?_; rintro⟨x,i2,h2⟩ ⟨hx,aC⟩;(try dsimp only at hx aC); cbv)
  | (refine aJ.ex hP (fe code _ _ _ (by decide) (by assumption) hc) ?_; rintro⟨x,i2,h2⟩ ⟨hx,aC⟩;(try dsimp only at hx aC); cbv)
  | (refine Br.yes (by first | assumption | exact decide_eq_true (by assumption)) ?_; cbv)
  | (refine Br.no (by first | assumption | exact decide_eq_false (by assumption)) ?_; cbv)
  | (refine Br.dec (fun hb=> ?_) (fun hb=> ?_) <;> cbv)
  | (refine Br.split (fun hb=> ?_) (fun hb=> ?_) <;> cbv)
  | (refine Ar.exact (by omega) (by omega) ?_; cbv)
  | (refine Ix.ex (by omega) (by(try simp only[nc] at *); omega) ?_; intro y; cbv)
  | (refine Ar.any ?_; intro u; cbv)
  | (refine bp.mk ?_ (by kernel_rfl) ?_; rotate_left; cbv; rotate_right) | refine⟨rfl, ?_⟩ | refine And.intro ?_ ?_ | exact rfl | fail
 all_goals
  apply F8
  · cbv
    (try dsimp only)
    repeat' first | exact trivial | refine⟨rfl, ?_⟩ | fail
  · exact⟨trivial,by assumption⟩
set_option maxHeartbeats 4000000 in
theorem Hy (code:List UInt8) (i h:Int) (hi:dW code i) (hc:code.length≤aS):bY Tryz.prog 262 [cP] (fU code i h) (cJ code (fun _:ay=>True) fun p=>eR .aI fun _=>p):=by
 unfold cJ;refine fu (pk:=[0,1]) aD Tryz.func262 rfl rfl (fr:=true) (fun _=>by kernel_rfl) (fun _=>rfl) rfl rfl fun P hP hA hB=> ?_;cbv
 repeat' first
  | exact trivial
  | (refine Pz.mk ?_; cbv)
  | (refine aJ.ex hP (cY code _ _ _ (by assumption) hc) ?_; rintro⟨x,i2,h2⟩ ⟨hx,aC⟩;(try dsimp only at hx aC); cbv)
  | (refine aJ.ex hP (eW code _ _ _ (by assumption) hc) ?_; rintro⟨x,i2,h2⟩ ⟨hx,aC⟩;(try dsimp only at hx aC); cbv)
  | (refine aJ.ex hP (fe code _ _ _ (by decide) (by assumption) hc) ?_; rintro⟨x,i2,h2⟩ ⟨hx,aC⟩;(try dsimp only at hx aC); cbv)
  | (refine Br.yes (by first | assumption | exact decide_eq_true (by assumption)) ?_; cbv)
  | (refine Br.no (by first | assumption | exact decide_eq_false (by assumption)) ?_; cbv)
  | (refine Br.dec (fun hb=> ?_) (fun hb=> ?_) <;> cbv)
  | (refine Br.split (fun hb=> ?_) (fun hb=> ?_) <;> cbv)
  | (refine Ar.exact (by omega) (by omega) ?_; cbv)
  | (refine Ix.ex (by omega) (by(try simp only[nc] at *); omega) ?_; intro y; cbv)
  | (refine Ar.any ?_; intro u; cbv)
  | (refine bp.mk ?_ (by kernel_rfl) ?_; rotate_left; cbv; rotate_right) | refine⟨rfl, ?_⟩ | refine And.intro ?_ ?_ | exact rfl | fail
 all_goals
  apply MI
  · cbv
    (try dsimp only)
    repeat' first | exact trivial | refine⟨rfl, ?_⟩ | fail
  · exact⟨trivial,by assumption⟩
theorem Hz (a:List Entry) (e:Entry) (hn:a.length+1≤aS):Spec Tryz.prog 286 [lA .aH a,eA .aH e] (gH (List Entry × Bool) (fun x=>x.1.length≤a.length+1) fun x=> .ba [(false,[.own .aH fun _=>x.1]),(false,[.bool fun _=>x.2])]):=by
 have ha:a.length≤aS:=Nat.le_trans (Nat.le_succ _) hn;refine aN aD Tryz.func286 rfl rfl (fr:=true) (fun _=>by kernel_rfl) fun P hP hA=> ?_;cbv
 repeat' first
  | exact trivial
  | (refine Pz.mk ?_; cbv)
  | (refine ag.by hP (Gk a e ha) ?_; cbv)
  | (refine ag.by hP (Bh a (dg a) rfl) ?_; cbv)
  | (refine ag.by hP (Bh (bE bd e a) (dg (bE bd e a)) rfl) ?_; cbv)
  | (refine ag.by hP (Bi a ha) ?_; cbv)
  | (refine Br.split (fun hb=> ?_) (fun hb=> ?_) <;> cbv)
  | fail
 all_goals first
  | (refine⟨(a,false),Nat.le_succ _, ?_⟩; cbv;(repeat' first | exact trivial | refine⟨rfl, ?_⟩ | fail); done)
  | (refine⟨(bE bd e a,true),Nat.le_of_eq tX, ?_⟩; cbv;(repeat' first | exact trivial | refine⟨rfl, ?_⟩ | fail); done)
set_option maxHeartbeats 4000000 in
theorem HA (code:List UInt8) (i h:Int) (hi:dW code i) (hc:code.length≤aS):bY Tryz.prog 259 [cP] (fU code i h) (cJ code (fun l:List Entry=>l.length≤16) fun l=>lR .aH fun _=>l):=by
 unfold cJ;refine fu (pk:=[0,1]) aD Tryz.func259 rfl rfl (fr:=true) (fun _=>by kernel_rfl) (fun _=>rfl) rfl rfl fun P hP hA hB=> ?_;cbv
 repeat' first
  | exact trivial
  | (refine Pz.mk ?_; cbv)
  | (refine aJ.ex hP (cY code _ _ _ (by assumption) hc) ?_; rintro⟨x,i2,h2⟩ ⟨hx,aC⟩;(try dsimp only at hx aC); cbv)
  | (refine aJ.ex hP (eW code _ _ _ (by assumption) hc) ?_; rintro⟨x,i2,h2⟩ ⟨hx,aC⟩;(try dsimp only at hx aC); cbv)
  | (refine aJ.ex hP (fe code _ _ _ (by decide) (by assumption) hc) ?_; rintro⟨x,i2,h2⟩ ⟨hx,aC⟩;(try dsimp only at hx aC); cbv)
  | (refine Br.yes (by first | assumption | exact decide_eq_true (by assumption)) ?_; cbv)
  | (refine Br.no (by first | assumption | exact decide_eq_false (by assumption)) ?_; cbv)
  | (refine Br.dec (fun hb=> ?_) (fun hb=> ?_) <;> cbv)
  | (refine Br.split (fun hb=> ?_) (fun hb=> ?_) <;> cbv)
  | (refine Ar.exact (by omega) (by omega) ?_; cbv)
  | (refine Ix.ex (by omega) (by(try simp only[nc] at *); omega) ?_; intro y; cbv)
  | (refine Ar.any ?_; intro u; cbv)
  | (refine bp.mk ?_ (by kernel_rfl) ?_; rotate_left; cbv; rotate_right) | refine⟨rfl, ?_⟩ | refine And.intro ?_ ?_ | exact rfl | fail
 all_goals
  apply aW.AP (A:=List Entry) (B:=Int) (C:=Int) (D:=Int) (E:=Int) (fun l j n i h=>[(0,pN 0),(3,oN 2),(4,iT fun _=>n),(5,iT fun _=>j)]) (fun l j n i h=>[(0,rn i h),(1,rp code),(2,aK .aH fun _=>l)]) (fun l j n i h=>0≤j∧j≤16∧n≤13∧l.length≤j.toNat∧dW code i) (fun l j n i h _=>(13 - j).toNat)
  · cbv
    repeat' first | exact trivial | refine⟨rfl, ?_⟩ | fail
  · exact⟨by omega,by omega,by omega,Nat.zero_le _,by assumption⟩
  · rintro l j n i1 h1 ⟨q1,q2,q3,q4,q5⟩
    cbv;have hq:l.length+1≤aS:=by show l.length+1≤1048576; omega
    repeat' first
      | exact trivial
      | (refine Pz.mk ?_; cbv)
      | (refine aJ.ex hP (Hv code _ _ (by assumption) hc) ?_; rintro⟨x,i2,h2⟩ ⟨hx,aC⟩;(try dsimp only at hx aC); cbv)
      | (refine ag.ex hP (Hz l x hq) ?_; rintro x hx;(try dsimp only at hx); cbv)
      | (refine ag.ex hP (Hz l ⟨x.lvl,x.az,100+j,x.au⟩ hq) ?_; rintro x hx;(try dsimp only at hx); cbv)
      | (refine aJ.ex hP (cY code _ _ _ (by assumption) hc) ?_; rintro⟨x,i2,h2⟩ ⟨hx,aC⟩;(try dsimp only at hx aC); cbv)
      | (refine aJ.ex hP (eW code _ _ _ (by assumption) hc) ?_; rintro⟨x,i2,h2⟩ ⟨hx,aC⟩;(try dsimp only at hx aC); cbv)
      | (refine aJ.ex hP (fe code _ _ _ (by decide) (by assumption) hc) ?_; rintro⟨x,i2,h2⟩ ⟨hx,aC⟩;(try dsimp only at hx aC); cbv)
      | (refine Br.yes (by first | assumption | exact decide_eq_true (by assumption)) ?_; cbv)
      | (refine Br.no (by first | assumption | exact decide_eq_false (by assumption)) ?_; cbv)
      | (refine Br.dec (fun hb=> ?_) (fun hb=> ?_) <;> cbv)
      | (refine Br.split (fun hb=> ?_) (fun hb=> ?_) <;> cbv)
      | (refine Ar.exact (by omega) (by omega) ?_; cbv)
      | (refine Ix.ex (by omega) (by(try simp only[nc] at *); omega) ?_; intro y; cbv)
      | (refine Ar.any ?_; intro u; cbv)
      | (refine bp.mk ?_ (by kernel_rfl) ?_; rotate_left; cbv; rotate_right) | refine⟨rfl, ?_⟩ | refine And.intro ?_ ?_ | exact rfl | fail
    · refine aO.by (x.1,j+1,n,i2,h2) ?_ ?_ ?_
      · dsimp only; omega
      · dsimp only; exact⟨by omega,by omega,q3,by omega,by assumption⟩
      · cbv
        repeat' first | exact trivial | refine⟨rfl, ?_⟩ | fail
    · refine aO.by (x.1,j+1,n,i2,h2) ?_ ?_ ?_
      · dsimp only; omega
      · dsimp only; exact⟨by omega,by omega,q3,by omega,by assumption⟩
      · cbv
        repeat' first | exact trivial | refine⟨rfl, ?_⟩ | fail
    · refine⟨(l,i1,h1),⟨(by omega:l.length≤16),q5⟩, ?_⟩;cbv
      repeat' first | exact trivial | refine⟨rfl, ?_⟩ | fail
set_option maxHeartbeats 4000000 in
theorem OB (code:List UInt8) (i h:Int) (hi:dW code i) (hc:code.length≤aS):bY Tryz.prog 218 [cP] (fU code i h) (cJ code (fun l:List Entry=>l.length≤17) fun l=>lR .aH fun _=>l):=by
 unfold cJ;refine fu (pk:=[0,1]) aD Tryz.func218 rfl rfl (fr:=true) (fun _=>by kernel_rfl) (fun _=>rfl) rfl rfl fun P hP hA hB=> ?_;cbv;refine aJ.ex hP (HA code i h hi hc) fun⟨l,i1,h1⟩ ⟨hl,jL⟩=> ?_;cbv;have hl:l.length≤16:=hl;have ob:(l.length+1)*32≤140737488355328:=by omega
 repeat' first
  | exact trivial
  | (refine Pz.mk ?_; cbv)
  | (refine aJ.ex hP (Hv code _ _ (by assumption) hc) ?_; rintro⟨x,i2,h2⟩ ⟨hx,aC⟩;(try dsimp only at hx aC); cbv)
  | (refine Ob.mk (ob) ?_; cbv)
  | (refine Sv.len ?_; intro u hu; simp only[List.length_set] at hu; cbv)
  | (refine Ob.mk (by(try simp only[nc] at *); omega) ?_; cbv)
  | (refine aJ.ex hP (cY code _ _ _ (by assumption) hc) ?_; rintro⟨x,i2,h2⟩ ⟨hx,aC⟩;(try dsimp only at hx aC); cbv)
  | (refine aJ.ex hP (eW code _ _ _ (by assumption) hc) ?_; rintro⟨x,i2,h2⟩ ⟨hx,aC⟩;(try dsimp only at hx aC); cbv)
  | (refine aJ.ex hP (fe code _ _ _ (by decide) (by assumption) hc) ?_; rintro⟨x,i2,h2⟩ ⟨hx,aC⟩;(try dsimp only at hx aC); cbv)
  | (refine Br.yes (by first | assumption | exact decide_eq_true (by assumption)) ?_; cbv)
  | (refine Br.no (by first | assumption | exact decide_eq_false (by assumption)) ?_; cbv)
  | (refine Br.dec (fun hb=> ?_) (fun hb=> ?_) <;> cbv)
  | (refine Br.split (fun hb=> ?_) (fun hb=> ?_) <;> cbv)
  | (refine Ar.exact (by omega) (by omega) ?_; cbv)
  | (refine Ix.ex (by omega) (by(try simp only[nc] at *); omega) ?_; intro y; cbv)
  | (refine Ar.any ?_; intro u; cbv)
  | (refine bp.mk ?_ (by kernel_rfl) ?_; rotate_left; cbv; rotate_right) | refine⟨rfl, ?_⟩ | refine And.intro ?_ ?_ | exact rfl | fail
 all_goals
  apply F9
  · cbv
    (try dsimp only)
    repeat' first | exact trivial | refine⟨rfl, ?_⟩ | fail
  · exact⟨by simp only[List.length_set,List.length_append,List.length_singleton,List.length_cons,List.length_nil]; omega,by assumption⟩
set_option maxHeartbeats 4000000 in
theorem OC (code:List UInt8) (i h:Int) (hi:dW code i) (hc:code.length≤aS):bY Tryz.prog 287 [cP] (fU code i h) (cJ code (fun l:List ay=>l.length≤8) fun l=>lR .aI fun _=>l):=by
 unfold cJ;refine fu (pk:=[0,1]) aD Tryz.func287 rfl rfl (fr:=true) (fun _=>by kernel_rfl) (fun _=>rfl) rfl rfl fun P hP hA hB=> ?_;cbv;refine aJ.ex hP (cY code i h 8 hi hc) fun⟨n,i1,h1⟩ ⟨hn,jL⟩=> ?_;cbv;have hn:0≤n∧(n<8∨n=0):=hn;apply aW.AO (A:=List ay) (B:=Int) (C:=Int) (D:=Int) (fun l j i h=>[(0,pN 0),(3,oN 2),(4,iT fun _=>n),(5,iT fun _=>j)]) (fun l j i h=>[(0,rn i h),(1,rp code),(2,aK .aI fun _=>l)]) (fun l j i h=>0≤j∧j≤8∧l.length≤j.toNat∧dW code i) (fun l j i h _=>(8 - j).toNat)
 · cbv
   repeat' first | exact trivial | refine⟨rfl, ?_⟩ | fail
 · exact⟨by omega,by omega,Nat.zero_le _,jL⟩
 · rintro l j i2 h2 ⟨q1,q2,q3,q4⟩
   have ob:(l.length+1)*16≤140737488355328:=by omega
   cbv
   repeat' first
     | exact trivial
     | (refine Pz.mk ?_; cbv)
     | (refine aJ.ex hP (Hy code _ _ (by assumption) hc) ?_; rintro⟨x,i2,h2⟩ ⟨hx,aC⟩;(try dsimp only at hx aC); cbv)
     | (refine Ob.mk (ob) ?_; cbv)
     | (refine aJ.ex hP (cY code _ _ _ (by assumption) hc) ?_; rintro⟨x,i2,h2⟩ ⟨hx,aC⟩;(try dsimp only at hx aC); cbv)
     | (refine aJ.ex hP (eW code _ _ _ (by assumption) hc) ?_; rintro⟨x,i2,h2⟩ ⟨hx,aC⟩;(try dsimp only at hx aC); cbv)
     | (refine aJ.ex hP (fe code _ _ _ (by decide) (by assumption) hc) ?_; rintro⟨x,i2,h2⟩ ⟨hx,aC⟩;(try dsimp only at hx aC); cbv)
     | (refine Br.yes (by first | assumption | exact decide_eq_true (by assumption)) ?_; cbv)
     | (refine Br.no (by first | assumption | exact decide_eq_false (by assumption)) ?_; cbv)
     | (refine Br.dec (fun hb=> ?_) (fun hb=> ?_) <;> cbv)
     | (refine Br.split (fun hb=> ?_) (fun hb=> ?_) <;> cbv)
     | (refine Ar.exact (by omega) (by omega) ?_; cbv)
     | (refine Ix.ex (by omega) (by(try simp only[nc] at *); omega) ?_; intro y; cbv)
     | (refine Ar.any ?_; intro u; cbv)
     | (refine bp.mk ?_ (by kernel_rfl) ?_; rotate_left; cbv; rotate_right) | refine⟨rfl, ?_⟩ | refine And.intro ?_ ?_ | exact rfl | fail
   · refine aO.by (l ++ [x],j+1,i2,h2) ?_ ?_ ?_
     · dsimp only; omega
     · dsimp only; exact⟨by omega,by omega,by rw[List.length_append,List.length_singleton]; omega,by assumption⟩
     · cbv
       repeat' first | exact trivial | refine⟨rfl, ?_⟩ | fail
   · refine⟨(l,i2,h2),⟨(by omega:l.length≤8),q4⟩, ?_⟩;cbv
     repeat' first | exact trivial | refine⟨rfl, ?_⟩ | fail
def fL (w:List (List ay)):Prop:=w.length=9∧∀x∈w,x.length≤10
def oE (w:List (List ay)):Prop:=w.length≤10∧∀x∈w,x.length≤11
theorem fL.small {w:List (List ay)} (h:fL w):jO w:=by
 refine⟨?_,fun x hx=>Nat.le_trans (h.2 x hx) (by decide)⟩;rw[h.1]; decide
theorem oE.small {w:List (List ay)} (h:oE w):jO w:=⟨Nat.le_trans h.1 (by decide),fun x hx=>Nat.le_trans (h.2 x hx) (by decide)⟩
theorem fL.v {w:List (List ay)} (h:fL w):oE w:=⟨by rw[h.1]; decide,fun x hx=>Nat.le_trans (h.2 x hx) (by decide)⟩
theorem xY {w:List (List ay)} (h:bu w=true):fL w:=by
 have h:=of_decide_eq_true h;exact⟨h.len,fun x hx=>Nat.le_trans (List.sublist_flatten_of_mem hx).length_le h.dy⟩
theorem OD {w:List (List ay)} (hw:fL w) (p:ay):fL (jt w p):=by
 unfold jt
 split
 · rename_i h;simp only[fy,Bool.and_eq_true] at h;exact xY h.2.2
 · exact hw
theorem fL.get {w:List (List ay)} (h:fL w) (k:Unit→Nat):List.length (cS .cw (fun _=>w) k ())≤10:=by
 show(w.getD (k ()) []).length≤10;rw[List.getD_eq_getElem?_getD];cases hk:w[k ()]? with
 | none=>exact Nat.zero_le _
 | some x=>exact h.2 x (List.mem_of_getElem? hk)
theorem fL.set {w:List (List ay)} (h:fL w) (k:Nat) {l:List ay} (hl:l.length≤11):oE (w.set k l):=by
 refine⟨by rw[List.length_set,h.1]; decide,fun x hx=> ?_⟩;rcases List.mem_or_eq_of_mem_set hx with hx | rfl
 · exact Nat.le_trans (h.2 x hx) (by decide)
 · exact hl
theorem fL.app {w:List (List ay)} (h:fL w) {l:List (List ay)} (hl:l.length≤1) (fK:∀x∈l,x.length≤11):oE (w++l):=by
 refine⟨by rw[List.length_append,h.1]; omega,fun x hx=> ?_⟩;rcases List.mem_append.1 hx with hx | hx
 · exact Nat.le_trans (h.2 x hx) (by decide)
 · exact fK x hx
theorem fL.take {w:List (List ay)} (h:fL w) (n:Nat):oE ((w.take n).drop (Int.toNat 0)):=by
 refine⟨by rw[List.length_drop,List.length_take,h.1]; omega,fun x hx=> ?_⟩;exact Nat.le_trans (h.2 x (List.mem_of_mem_take (List.mem_of_mem_drop hx))) (by decide)
theorem HB (w:List (List ay)) (p:ay) (hw:fL w):Spec Tryz.prog 148 [lh w,eA .aI p] (gH (List (List ay) × Bool) (fun x=>fL x.1) fun x=> .ba [(true,[.own .cw fun _=>x.1]),(false,[.bool fun _=>x.2])]):=
 Spec.l_ (jt w p,fy w p) (OD hw p) (Oy w p hw.small _ rfl _ rfl)
set_option maxHeartbeats 4000000 in
theorem HC (code:List UInt8) (i h:Int) (hi:dW code i) (hc:code.length≤aS):bY Tryz.prog 261 [cP] (fU code i h) (cJ code fL fun w=>vg fun _=>w):=by
 have w0:fL (List.replicate 9 ([]:List ay)):=xY (by decide);unfold cJ;refine fu (pk:=[0,1]) aD Tryz.func261 rfl rfl (fr:=true) (fun _=>by kernel_rfl) (fun _=>rfl) rfl rfl fun P hP hA hB=> ?_;cbv
 repeat' first
   | exact trivial
   | (refine Pz.mk ?_; cbv)
   | (refine ag.by hP (A0) ?_; cbv)
   | (refine aJ.ex hP (OC code _ _ (by assumption) hc) ?_; rintro⟨x,i2,h2⟩ ⟨hx,aC⟩;(try dsimp only at hx aC); cbv)
   | (refine aJ.ex hP (cY code _ _ _ (by assumption) hc) ?_; rintro⟨x,i2,h2⟩ ⟨hx,aC⟩;(try dsimp only at hx aC); cbv)
   | (refine aJ.ex hP (eW code _ _ _ (by assumption) hc) ?_; rintro⟨x,i2,h2⟩ ⟨hx,aC⟩;(try dsimp only at hx aC); cbv)
   | (refine aJ.ex hP (fe code _ _ _ (by decide) (by assumption) hc) ?_; rintro⟨x,i2,h2⟩ ⟨hx,aC⟩;(try dsimp only at hx aC); cbv)
   | (refine Br.yes (by first | assumption | exact decide_eq_true (by assumption)) ?_; cbv)
   | (refine Br.no (by first | assumption | exact decide_eq_false (by assumption)) ?_; cbv)
   | (refine Br.dec (fun hb=> ?_) (fun hb=> ?_) <;> cbv)
   | (refine Br.split (fun hb=> ?_) (fun hb=> ?_) <;> cbv)
   | (refine Ar.exact (by omega) (by omega) ?_; cbv)
   | (refine Ix.ex (by omega) (by(try simp only[nc] at *); omega) ?_; intro y; cbv)
   | (refine Ar.any ?_; intro u; cbv)
   | (refine bp.mk ?_ (by kernel_rfl) ?_; rotate_left; cbv; rotate_right) | refine⟨rfl, ?_⟩ | refine And.intro ?_ ?_ | exact rfl | fail
 apply aW.rh (A:=List ay) (B:=Int) (fun l j=>[(0,pN 0),(2,pN 2),(3,pN 3),(4,oN 4),(5,iT fun _=>j)]) (fun l j=>[(0,rn i2 h2),(1,rp code),(2, .box [.nil]),(3, .box [.own 5]),(4,aK .aI fun _=>l),(5,aK .cw fun _=>List.replicate 9 [])]) (fun l j=>0≤j∧j≤10∧l.length≤8+j.toNat) (fun l j _=>(10 - j).toNat)
 · cbv
   repeat' first | exact trivial | refine⟨rfl, ?_⟩ | fail
 · exact⟨by omega,by omega,by omega⟩
 rintro l j ⟨q1,q2,q3⟩
 have ob:(l.length+1)*16≤140737488355328:=by omega
 cbv
 repeat' first
   | exact trivial
   | (refine Pz.mk ?_; cbv)
   | (refine Ob.mk (ob) ?_; cbv)
   | (refine aJ.ex hP (cY code _ _ _ (by assumption) hc) ?_; rintro⟨x,i2,h2⟩ ⟨hx,aC⟩;(try dsimp only at hx aC); cbv)
   | (refine aJ.ex hP (eW code _ _ _ (by assumption) hc) ?_; rintro⟨x,i2,h2⟩ ⟨hx,aC⟩;(try dsimp only at hx aC); cbv)
   | (refine aJ.ex hP (fe code _ _ _ (by decide) (by assumption) hc) ?_; rintro⟨x,i2,h2⟩ ⟨hx,aC⟩;(try dsimp only at hx aC); cbv)
   | (refine Br.yes (by first | assumption | exact decide_eq_true (by assumption)) ?_; cbv)
   | (refine Br.no (by first | assumption | exact decide_eq_false (by assumption)) ?_; cbv)
   | (refine Br.dec (fun hb=> ?_) (fun hb=> ?_) <;> cbv)
   | (refine Br.split (fun hb=> ?_) (fun hb=> ?_) <;> cbv)
   | (refine Ar.exact (by omega) (by omega) ?_; cbv)
   | (refine Ix.ex (by omega) (by(try simp only[nc] at *); omega) ?_; intro y; cbv)
   | (refine Ar.any ?_; intro u; cbv)
   | (refine bp.mk ?_ (by kernel_rfl) ?_; rotate_left; cbv; rotate_right) | refine⟨rfl, ?_⟩ | refine And.intro ?_ ?_ | exact rfl | fail
 · refine aO.by (l ++ [⟨3+j,100+j⟩],j+1) ?_ ?_ ?_
   · dsimp only; omega
   · dsimp only; exact⟨by omega,by omega,by rw[List.length_append,List.length_singleton]; omega⟩
   · cbv
     repeat' first | exact trivial | refine⟨rfl, ?_⟩ | fail
 all_goals
   apply aW.Fw (A:=List (List ay)) (B:=List ay) (C:=Int) (fun w l j=>[(0,pN 0),(2,pN 2),(3,pN 3),(4,oN 4),(6,iT fun _=>j)]) (fun w l j=>[(0,rn i2 h2),(1,rp code),(2, .box [.nil]),(3, .box [.own 5]),(4,aK .aI fun _=>l),(5,aK .cw fun _=>w)]) (fun w l j=>fL w∧l.length≤18∧0≤j∧j.toNat≤l.length) (fun w l j _=>l.length - j.toNat)
   · cbv
     repeat' first | exact trivial | refine⟨rfl, ?_⟩ | fail
   · exact⟨w0,by omega,by omega,Nat.zero_le _⟩
   rintro w l j ⟨hw,q1,q2,q3⟩
   cbv
   repeat' first
     | exact trivial
     | (refine Pz.mk ?_; cbv)
     | (refine ag.ex hP (HB w _ hw) ?_; rintro x hx;(try dsimp only at hx); cbv)
     | (refine Ob.mk ⟨q2,hb⟩ ?_; cbv)
     | (refine aJ.ex hP (cY code _ _ _ (by assumption) hc) ?_; rintro⟨x,i2,h2⟩ ⟨hx,aC⟩;(try dsimp only at hx aC); cbv)
     | (refine aJ.ex hP (eW code _ _ _ (by assumption) hc) ?_; rintro⟨x,i2,h2⟩ ⟨hx,aC⟩;(try dsimp only at hx aC); cbv)
     | (refine aJ.ex hP (fe code _ _ _ (by decide) (by assumption) hc) ?_; rintro⟨x,i2,h2⟩ ⟨hx,aC⟩;(try dsimp only at hx aC); cbv)
     | (refine Br.yes (by first | assumption | exact decide_eq_true (by assumption)) ?_; cbv)
     | (refine Br.no (by first | assumption | exact decide_eq_false (by assumption)) ?_; cbv)
     | (refine Br.dec (fun hb=> ?_) (fun hb=> ?_) <;> cbv)
     | (refine Br.split (fun hb=> ?_) (fun hb=> ?_) <;> cbv)
     | (refine Ar.exact (by omega) (by omega) ?_; cbv)
     | (refine Ix.ex (by omega) (by(try simp only[nc] at *); omega) ?_; intro y; cbv)
     | (refine Ar.any ?_; intro u; cbv)
     | (refine bp.mk ?_ (by kernel_rfl) ?_; rotate_left; cbv; rotate_right) | refine⟨rfl, ?_⟩ | refine And.intro ?_ ?_ | exact rfl | fail
   · have hb:j<(l.length:Int):=hb;refine aO.by (x.1,l,j+1) ?_ ?_ ?_
     · dsimp only; omega
     · dsimp only; exact⟨hx,by omega,by omega,by omega⟩
     · cbv
       repeat' first | exact trivial | refine⟨rfl, ?_⟩ | fail
   · refine⟨(w,i2,h2),⟨hw,by assumption⟩, ?_⟩;cbv
     repeat' first | exact trivial | refine⟨rfl, ?_⟩ | fail
set_option maxHeartbeats 4000000 in
theorem OE (code:List UInt8) (i h:Int) (hi:dW code i) (hc:code.length≤aS):bY Tryz.prog 219 [cP] (fU code i h) (cJ code oE fun w=>vg fun _=>w):=by
 unfold cJ;refine fu (pk:=[0,1]) aD Tryz.func219 rfl rfl (fr:=true) (fun _=>by kernel_rfl) (fun _=>rfl) rfl rfl fun P hP hA hB=> ?_;cbv;refine aJ.ex hP (HC code i h hi hc) fun⟨w,i1,h1⟩ ⟨hw,jL⟩=> ?_;cbv;have hw:fL w:=hw;have hl:w.length=9:=hw.1;have OF:(w.length+1)*24≤140737488355328:=by rw[hl]; decide
 have hg:∀k:Unit→Nat,(List.length (cS .cw (fun _=>w) k ())+1)*16≤140737488355328:=fun k=>by have:=hw.get k; omega
 have BQ:∀(k:Unit→Nat) (p:ay),List.length (cS .cw (fun _=>w) k () ++ [p])≤11:=fun k p=>by have:=hw.get k; rw[List.length_append,List.length_singleton]; omega
 repeat' first
  | exact trivial
  | (refine Pz.mk ?_; cbv)
  | (refine aJ.ex hP (cY code _ _ _ (by assumption) hc) ?_; rintro⟨k,i2,h2⟩ ⟨hk,aC⟩;(try dsimp only at hk aC); cbv)
  | (refine aJ.ex hP (Hy code _ _ (by assumption) hc) ?_; rintro⟨x,i2,h2⟩ ⟨hx,aC⟩;(try dsimp only at hx aC); cbv)
  | (refine Ob.mk (hg fun _=>k.toNat) ?_; cbv)
  | (refine Sv.sat oE (hw.set k.toNat (BQ (fun _=>k.toNat) ⟨x.tm,x.pid⟩)) ?_; intro u hu; cbv)
  | (refine Ob.mk (OF) ?_; cbv)
  | (refine Ob.mk (by(try simp only[nc] at *); omega) ?_; cbv)
  | (refine aJ.ex hP (cY code _ _ _ (by assumption) hc) ?_; rintro⟨x,i2,h2⟩ ⟨hx,aC⟩;(try dsimp only at hx aC); cbv)
  | (refine aJ.ex hP (eW code _ _ _ (by assumption) hc) ?_; rintro⟨x,i2,h2⟩ ⟨hx,aC⟩;(try dsimp only at hx aC); cbv)
  | (refine aJ.ex hP (fe code _ _ _ (by decide) (by assumption) hc) ?_; rintro⟨x,i2,h2⟩ ⟨hx,aC⟩;(try dsimp only at hx aC); cbv)
  | (refine Br.yes (by first | assumption | exact decide_eq_true (by assumption)) ?_; cbv)
  | (refine Br.no (by first | assumption | exact decide_eq_false (by assumption)) ?_; cbv)
  | (refine Br.dec (fun hb=> ?_) (fun hb=> ?_) <;> cbv)
  | (refine Br.split (fun hb=> ?_) (fun hb=> ?_) <;> cbv)
  | (refine Ar.exact (by omega) (by omega) ?_; cbv)
  | (refine Ix.ex (by omega) (by(try simp only[nc] at *); omega) ?_; intro y; cbv)
  | (refine Ar.any ?_; intro u; cbv)
  | (refine bp.mk ?_ (by kernel_rfl) ?_; rotate_left; cbv; rotate_right) | refine⟨rfl, ?_⟩ | refine And.intro ?_ ?_ | exact rfl | fail
 all_goals
  apply F9
  · cbv
    (try dsimp only)
    repeat' first | exact trivial | refine⟨rfl, ?_⟩ | fail
  · exact⟨by first | assumption | exact hw.v | exact hw.take _ | exact hw.app (by decide) (by decide),by assumption⟩
def oF (c:bh):Prop:=c.row.length≤17∧oE c.spoke
theorem oF.small {c:bh} (h:oF c):ln c:=⟨Nat.le_trans h.1 (by decide),h.2.small⟩
theorem OG {A B:bh × Int × Int→Prop} (a1 a2 a3 a4 a5:Int) (r:List Entry) (w:List (List ay)) (i h:Int) (H:B (⟨⟨a1,a2,a3,a4,a5⟩,r,w⟩,i,h)) (H1:A (⟨⟨a1,a2,a3,a4,a5⟩,r,w⟩,i,h)):∃x,A x∧B x:=⟨_,H1,H⟩
set_option maxHeartbeats 4000000 in
theorem OH (code:List UInt8) (i h:Int) (hi:dW code i) (hc:code.length≤aS):bY Tryz.prog 220 [cP] (fU code i h) (cJ code oF fun c=> .agg (xB fun _=>c)):=by
 unfold cJ;refine fu (pk:=[0,1]) aD Tryz.func220 rfl rfl (fr:=true) (fun _=>by kernel_rfl) (fun _=>rfl) rfl rfl fun P hP hA hB=> ?_;cbv;refine aJ.ex hP (Hw code i h hi hc) fun⟨a,i1,h1⟩ ⟨_,jL⟩=> ?_;cbv;refine aJ.ex hP (HA code i1 h1 jL hc) fun⟨r,i2,h2⟩ ⟨hr,aC⟩=> ?_;cbv;refine aJ.ex hP (HC code i2 h2 aC hc) fun⟨w,i3,h3⟩ ⟨hw,m3⟩=> ?_;cbv;refine⟨(⟨a,r,w⟩,i3,h3),⟨⟨Nat.le_trans hr (by decide),fL.v hw⟩,m3⟩, ?_⟩;cbv
 repeat' first | exact trivial | refine⟨rfl, ?_⟩ | fail
set_option maxHeartbeats 4000000 in
theorem OI (code:List UInt8) (i h:Int) (hi:dW code i) (hc:code.length≤aS):bY Tryz.prog 153 [cP] (fU code i h) (cJ code oF fun c=> .agg (xB fun _=>c)):=by
 unfold cJ;refine fu (pk:=[0,1]) aD Tryz.func153 rfl rfl (fr:=true) (fun _=>by kernel_rfl) (fun _=>rfl) rfl rfl fun P hP hA hB=> ?_;cbv;refine aJ.ex hP (eW code i h 4 hi hc) fun⟨b,i1,h1⟩ ⟨_,jL⟩=> ?_;cbv;refine Br.split (fun hb=> ?_) (fun hb=> ?_) <;> cbv
 · refine aJ.ex hP (OA code i1 h1 jL hc) fun⟨a,i2,h2⟩ ⟨_,aC⟩=> ?_;cbv;refine aJ.ex hP (OB code i2 h2 aC hc) fun⟨r,i3,h3⟩ ⟨hr,m3⟩=> ?_;cbv;refine aJ.ex hP (OE code i3 h3 m3 hc) fun⟨w,i4,h4⟩ ⟨hw,sK⟩=> ?_;cbv;refine⟨(⟨a,r,w⟩,i4,h4),⟨⟨hr,hw⟩,sK⟩, ?_⟩;cbv
   repeat' first | exact trivial | refine⟨rfl, ?_⟩ | fail
 · refine aJ.ex hP (OH code i1 h1 jL hc) fun⟨c,i2,h2⟩ ⟨gE,aC⟩=> ?_;cbv;have gE:oF c:=gE
   repeat' first
    | exact trivial
    | (refine Pz.mk ?_; cbv)
    | (refine aJ.ex hP (cY code _ _ _ (by assumption) hc) ?_; rintro⟨x,i2,h2⟩ ⟨hx,aC⟩;(try dsimp only at hx aC); cbv)
    | (refine aJ.ex hP (eW code _ _ _ (by assumption) hc) ?_; rintro⟨x,i2,h2⟩ ⟨hx,aC⟩;(try dsimp only at hx aC); cbv)
    | (refine aJ.ex hP (fe code _ _ _ (by decide) (by assumption) hc) ?_; rintro⟨x,i2,h2⟩ ⟨hx,aC⟩;(try dsimp only at hx aC); cbv)
    | (refine Br.yes (by first | assumption | exact decide_eq_true (by assumption)) ?_; cbv)
    | (refine Br.no (by first | assumption | exact decide_eq_false (by assumption)) ?_; cbv)
    | (refine Br.dec (fun hb=> ?_) (fun hb=> ?_) <;> cbv)
    | (refine Br.split (fun hb=> ?_) (fun hb=> ?_) <;> cbv)
    | (refine Ar.exact (by omega) (by omega) ?_; cbv)
    | (refine Ix.ex (by omega) (by(try simp only[nc] at *); omega) ?_; intro y; cbv)
    | (refine Ar.any ?_; intro u; cbv)
    | (refine bp.mk ?_ (by kernel_rfl) ?_; rotate_left; cbv; rotate_right) | refine⟨rfl, ?_⟩ | refine And.intro ?_ ?_ | exact rfl | fail
   all_goals
    apply OG
    · cbv
      (try dsimp only)
      repeat' first | exact trivial | refine⟨rfl, ?_⟩ | fail
    · exact⟨gE,aC⟩
theorem OJ (R:br) (l:List ax) (c now:Int) (hs:R.ai.length≤aS) (hl:l.length≤aS):Spec Tryz.prog 116 [fT R,lA .aB l,iA c,iA now] (gH (List Entry) (fun x=>x.length≤l.length) fun x=>lR .aH fun _=>x):=
 Spec.l_ (eN R l c now) (by rw[eN,kh]; exact Bn _ _ _ _) (Gn R l c now hs hl)
theorem OK (l:List ax) (c:Int) (hl:l.length≤aS):Spec Tryz.prog 119 [lA .aB l,iA c] (gH (List ay) (fun x=>x.length≤l.length) fun x=>lR .aI fun _=>x):=
 Spec.l_ (fJ l c) (by rw[fJ,kh]; exact Bm _ _) (Gs l c hl)
set_option maxHeartbeats 4000000 in
theorem OL (r:br) (l:List ax) (k now free:Int) (hs:r.ai.length≤aS) (hl:l.length≤16) (hk:0≤k∧k<r.ai.length) (hf:0≤free∧free≤100) (hr:∀x∈r.ai,0≤x∧x≤100):Spec Tryz.prog 214 [fT r,lA .aB l,iA k,iA now,iA free] (gH bh oF fun c=> .agg (xB fun _=>c)):=by
 have fK:l.length≤aS:=Nat.le_trans hl (by decide);have w0:fL (List.replicate 9 ([]:List ay)):=xY (by decide);obtain⟨n,rfl⟩:∃n:Nat,k=n:=⟨k.toNat,by omega⟩;have hn:n<r.ai.length:=by omega
 obtain⟨s,HD⟩:∃s,s=r.ai[n]:=⟨_,rfl⟩;have Rq:0≤s∧s≤100:=by rw[HD]; exact hr _ (List.getElem_mem hn)
 have HE:=get_cast r.ai hn;rw[←HD] at HE;refine aN aD Tryz.func214 rfl rfl (fr:=true) (fun _=>by kernel_rfl) fun P hP hA=> ?_;cbv;refine ag.by hP (A0) ?_;cbv;refine ag.ex hP (OK l (n:Int) fK) fun ps pX=> ?_;cbv;apply aW.rh (A:=List (List ay)) (B:=Int) (fun w j=>[(1,lA .aB l),(2,iA (n:Int)),(3,iA now),(4,iA free),(5,pN 5),(10,pN 10),(11,pN 11),(12,oN 12),(13,iT fun _=>j)]) (fun w j=>[(5, .box (Bl r)),(10, .box [.lf (.int .i64 fun _=>0), .lf (.int .i64 fun _=>0), .lf (.int .i64 fun _=>0), .lf (.int .i64 fun _=>0), .lf (.int .i64 fun _=>0), .nil, .nil]),(11, .box [.own 13]),(12,aK .aI fun _=>ps),(13,aK .cw fun _=>w)]) (fun w j=>fL w∧0≤j∧j.toNat≤ps.length) (fun w j _=>ps.length - j.toNat)
 · cbv
   repeat' first | exact trivial | refine⟨rfl, ?_⟩ | fail
 · exact⟨w0,by omega,Nat.zero_le _⟩
 rintro w j ⟨hw,q2,q3⟩
 cbv
 repeat' first
   | exact trivial
   | (refine Pz.mk ?_; cbv)
   | (refine ag.ex hP (HB w _ hw) ?_; rintro x hx;(try dsimp only at hx); cbv)
   | (refine Ob.mk ⟨q2,hb⟩ ?_; cbv)
   | (refine ag.ex hP (Gb l (n:Int) fK) ?_; intro u1 ni; cbv)
   | (refine ag.ex hP (Gc l (n:Int) fK) ?_; intro u2 OM; cbv)
   | (refine Ix.mk s (by simp) HE ?_; cbv)
   | (refine ag.ex hP (Gd _ _) ?_; intro u3 Rr; cbv)
   | (refine ag.ex hP (OJ r l (n:Int) now hs fK) ?_; intro u4 ON; cbv)
   | (refine aJ.ex hP (cY code _ _ _ (by assumption) hc) ?_; rintro⟨x,i2,h2⟩ ⟨hx,aC⟩;(try dsimp only at hx aC); cbv)
   | (refine aJ.ex hP (eW code _ _ _ (by assumption) hc) ?_; rintro⟨x,i2,h2⟩ ⟨hx,aC⟩;(try dsimp only at hx aC); cbv)
   | (refine aJ.ex hP (fe code _ _ _ (by decide) (by assumption) hc) ?_; rintro⟨x,i2,h2⟩ ⟨hx,aC⟩;(try dsimp only at hx aC); cbv)
   | (refine Br.yes (by first | assumption | exact decide_eq_true (by assumption)) ?_; cbv)
   | (refine Br.no (by first | assumption | exact decide_eq_false (by assumption)) ?_; cbv)
   | (refine Br.dec (fun hb=> ?_) (fun hb=> ?_) <;> cbv)
   | (refine Br.split (fun hb=> ?_) (fun hb=> ?_) <;> cbv)
   | (refine Ar.exact (by omega) (by omega) ?_; cbv)
   | (refine Ix.ex (by omega) (by(try simp only[nc] at *); omega) ?_; intro y; cbv)
   | (refine Ar.any ?_; intro u; cbv)
   | (refine bp.mk ?_ (by kernel_rfl) ?_; rotate_left; cbv; rotate_right) | refine⟨rfl, ?_⟩ | refine And.intro ?_ ?_ | exact rfl | fail
 · have hb:j<(ps.length:Int):=hb;refine aO.by (x.1,j+1) ?_ ?_ ?_
   · dsimp only; omega
   · dsimp only; exact⟨hx,by omega,by omega⟩
   · cbv
     repeat' first | exact trivial | refine⟨rfl, ?_⟩ | fail
 · refine⟨⟨⟨s,s - u1 - u3,u1,u3,u2⟩,u4,w⟩,⟨Nat.le_trans ON (Nat.le_trans hl (by decide)),hw.v⟩, ?_⟩;cbv
   repeat' first | exact trivial | refine⟨rfl, ?_⟩ | fail
end Go.Proofs.YtpklefhdkkegiaaGreat

