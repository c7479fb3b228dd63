/- Parts of a proof. No conditions. -/

import Derived.Test.YtpklefhdkkegiaaGreatG41
import Derived.Test.YtpklefhdkkegiaaGreatG23
import Derived.Test.YtpklefhdkkegiaaGreatG09
import Derived.Test.YtpklefhdkkegiaaGreatG10
set_option linter.unusedSimpArgs false
set_option linter.unusedVariables false
namespace Go.Proofs.YtpklefhdkkegiaaGreat
open Go
set_option maxRecDepth 100000
set_option maxHeartbeats 4000000 in
theorem K9 (code:List UInt8) (i h:Int) (hi:dI code i) (hc:code.length≤aN):bJ Tryz.prog 260 [cP] (f_ code i h) (cJ code (fun _:Entry=>True) fun p=>eR .aJ fun _=>p):=by
 unfold cJ;refine eP (pk:=[0,1]) au Tryz.func260 rfl rfl (fr:=true) (fun _=>by kernel_rfl) (fun _=>rfl) rfl rfl fun P hP hA hB=> ?_;cbv
 repeat' first
  | exact trivial
  | (refine Pz.mk ?_; cbv)
  | (refine aD.ex hP (cT code _ _ _ (by assumption) hc) ?_; rintro⟨x,i2,h2⟩ ⟨hx,aw⟩;(try dsimp only at hx aw); cbv)
  | (refine aD.ex hP (eS code _ _ _ (by assumption) hc) ?_; rintro⟨x,i2,h2⟩ ⟨hx,aw⟩;(try dsimp only at hx aw); cbv)
  | (refine aD.ex hP (eQ code _ _ _ (by decide) (by assumption) hc) ?_; rintro⟨x,i2,h2⟩ ⟨hx,aw⟩;(try dsimp only at hx aw); cbv)
  | (refine Br.yes (by first | assumption | exact decide_eq_true (by assumption)) ?_; cbv)
  | (refine Br.no (by first | assumption | exact decide_eq_false (by assumption)) ?_; cbv)
  | (refine Br.dec (fun hb=> ?_) (fun hb=> ?_) <;> cbv)
  | (refine Br.split (fun hb=> ?_) (fun hb=> ?_) <;> cbv)
  | (refine Ar.exact (by omega) (by omega) ?_; cbv)
  | (refine Ix.ex (by omega) (by(try simp only[nc] at *); omega) ?_; intro y; cbv)
  | (refine Ar.any ?_; intro u; cbv)
  | (refine aW.mk ?_ (by kernel_rfl) ?_; rotate_left; cbv; rotate_right) | refine⟨rfl, ?_⟩ | refine And.intro ?_ ?_ | exact rfl | fail
 all_goals
  apply QI
  · cbv
    (try dsimp only)
    repeat' first | exact trivial | refine⟨rfl, ?_⟩ | fail
  · exact⟨trivial,by assumption⟩
set_option maxHeartbeats 4000000 in
theorem K_ (code:List UInt8) (i h:Int) (hi:dI code i) (hc:code.length≤aN):bJ Tryz.prog 258 [cP] (f_ code i h) (cJ code (fun _:bA=>True) fun p=>Js fun _=>p):=by
 unfold cJ;refine eP (pk:=[0,1]) au Tryz.func258 rfl rfl (fr:=true) (fun _=>by kernel_rfl) (fun _=>rfl) rfl rfl fun P hP hA hB=> ?_;cbv
 repeat' first
  | exact trivial
  | (refine Pz.mk ?_; cbv)
  | (refine aD.ex hP (cT code _ _ _ (by assumption) hc) ?_; rintro⟨x,i2,h2⟩ ⟨hx,aw⟩;(try dsimp only at hx aw); cbv)
  | (refine aD.ex hP (eS code _ _ _ (by assumption) hc) ?_; rintro⟨x,i2,h2⟩ ⟨hx,aw⟩;(try dsimp only at hx aw); cbv)
  | (refine aD.ex hP (eQ code _ _ _ (by decide) (by assumption) hc) ?_; rintro⟨x,i2,h2⟩ ⟨hx,aw⟩;(try dsimp only at hx aw); cbv)
  | (refine Br.yes (by first | assumption | exact decide_eq_true (by assumption)) ?_; cbv)
  | (refine Br.no (by first | assumption | exact decide_eq_false (by assumption)) ?_; cbv)
  | (refine Br.dec (fun hb=> ?_) (fun hb=> ?_) <;> cbv)
  | (refine Br.split (fun hb=> ?_) (fun hb=> ?_) <;> cbv)
  | (refine Ar.exact (by omega) (by omega) ?_; cbv)
  | (refine Ix.ex (by omega) (by(try simp only[nc] at *); omega) ?_; intro y; cbv)
  | (refine Ar.any ?_; intro u; cbv)
  | (refine aW.mk ?_ (by kernel_rfl) ?_; rotate_left; cbv; rotate_right) | refine⟨rfl, ?_⟩ | refine And.intro ?_ ?_ | exact rfl | fail
 all_goals
  apply JO
  · cbv
    (try dsimp only)
    repeat' first | exact trivial | refine⟨rfl, ?_⟩ | fail
  · exact⟨trivial,by assumption⟩
set_option maxHeartbeats 4000000 in
theorem SN (code:List UInt8) (i h:Int) (hi:dI code i) (hc:code.length≤aN):bJ Tryz.prog 217 [cP] (f_ code i h) (cJ code (fun _:bA=>True) fun p=>Js fun _=>p):=by
 unfold cJ;refine eP (pk:=[0,1]) au Tryz.func217 rfl rfl (fr:=true) (fun _=>by kernel_rfl) (fun _=>rfl) rfl rfl fun P hP hA hB=> ?_;cbv
 repeat' first
  | exact trivial
  | (refine Pz.mk ?_; cbv)
  | (refine aD.ex hP (K_ code _ _ (by assumption) hc) ?_; rintro⟨x,i2,h2⟩ ⟨hx,aw⟩;(try dsimp only at hx aw); cbv)
  | (refine aD.ex hP (cT code _ _ _ (by assumption) hc) ?_; rintro⟨x,i2,h2⟩ ⟨hx,aw⟩;(try dsimp only at hx aw); cbv)
  | (refine aD.ex hP (eS code _ _ _ (by assumption) hc) ?_; rintro⟨x,i2,h2⟩ ⟨hx,aw⟩;(try dsimp only at hx aw); cbv)
  | (refine aD.ex hP (eQ code _ _ _ (by decide) (by assumption) hc) ?_; rintro⟨x,i2,h2⟩ ⟨hx,aw⟩;(try dsimp only at hx aw); cbv)
  | (refine Br.yes (by first | assumption | exact decide_eq_true (by assumption)) ?_; cbv)
  | (refine Br.no (by first | assumption | exact decide_eq_false (by assumption)) ?_; cbv)
  | (refine Br.dec (fun hb=> ?_) (fun hb=> ?_) <;> cbv)
  | (refine Br.split (fun hb=> ?_) (fun hb=> ?_) <;> cbv)
  | (refine Ar.exact (by omega) (by omega) ?_; cbv)
  | (refine Ix.ex (by omega) (by(try simp only[nc] at *); omega) ?_; intro y; cbv)
  | (refine Ar.any ?_; intro u; cbv)
  | (refine aW.mk ?_ (by kernel_rfl) ?_; rotate_left; cbv; rotate_right) | refine⟨rfl, ?_⟩ | refine And.intro ?_ ?_ | exact rfl | fail
 all_goals
  apply JO
  · cbv
    (try dsimp only)
    repeat' first | exact trivial | refine⟨rfl, ?_⟩ | fail
  · exact⟨trivial,by assumption⟩
set_option maxHeartbeats 4000000 in
theorem La (code:List UInt8) (i h:Int) (hi:dI code i) (hc:code.length≤aN):bJ Tryz.prog 262 [cP] (f_ code i h) (cJ code (fun _:aC=>True) fun p=>eR .aI fun _=>p):=by
 unfold cJ;refine eP (pk:=[0,1]) au Tryz.func262 rfl rfl (fr:=true) (fun _=>by kernel_rfl) (fun _=>rfl) rfl rfl fun P hP hA hB=> ?_;cbv
 repeat' first
  | exact trivial
  | (refine Pz.mk ?_; cbv)
  | (refine aD.ex hP (cT code _ _ _ (by assumption) hc) ?_; rintro⟨x,i2,h2⟩ ⟨hx,aw⟩;(try dsimp only at hx aw); cbv)
  | (refine aD.ex hP (eS code _ _ _ (by assumption) hc) ?_; rintro⟨x,i2,h2⟩ ⟨hx,aw⟩;(try dsimp only at hx aw); cbv)
  | (refine aD.ex hP (eQ code _ _ _ (by decide) (by assumption) hc) ?_; rintro⟨x,i2,h2⟩ ⟨hx,aw⟩;(try dsimp only at hx aw); cbv)
  | (refine Br.yes (by first | assumption | exact decide_eq_true (by assumption)) ?_; cbv)
  | (refine Br.no (by first | assumption | exact decide_eq_false (by assumption)) ?_; cbv)
  | (refine Br.dec (fun hb=> ?_) (fun hb=> ?_) <;> cbv)
  | (refine Br.split (fun hb=> ?_) (fun hb=> ?_) <;> cbv)
  | (refine Ar.exact (by omega) (by omega) ?_; cbv)
  | (refine Ix.ex (by omega) (by(try simp only[nc] at *); omega) ?_; intro y; cbv)
  | (refine Ar.any ?_; intro u; cbv)
  | (refine aW.mk ?_ (by kernel_rfl) ?_; rotate_left; cbv; rotate_right) | refine⟨rfl, ?_⟩ | refine And.intro ?_ ?_ | exact rfl | fail
 all_goals
  apply QJ
  · cbv
    (try dsimp only)
    repeat' first | exact trivial | refine⟨rfl, ?_⟩ | fail
  · exact⟨trivial,by assumption⟩
theorem Lb (a:List Entry) (e:Entry) (hn:a.length+1≤aN):Spec Tryz.prog 286 [lA .aJ a,eA .aJ e] (gW (List Entry × Bool) (fun x=>x.1.length≤a.length+1) fun x=> .aS [(false,[.own .aJ fun _=>x.1]),(false,[.bool fun _=>x.2])]):=by
 have ha:a.length≤aN:=Nat.le_trans (Nat.le_succ _) hn;refine aF au Tryz.func286 rfl rfl (fr:=true) (fun _=>by kernel_rfl) fun P hP hA=> ?_;cbv
 repeat' first
  | exact trivial
  | (refine Pz.mk ?_; cbv)
  | (refine af.by hP (En a e ha) ?_; cbv)
  | (refine af.by hP (El a (dJ a) rfl) ?_; cbv)
  | (refine af.by hP (El (bP bd e a) (dJ (bP bd e a)) rfl) ?_; cbv)
  | (refine af.by hP (vK a ha) ?_; cbv)
  | (refine Br.split (fun hb=> ?_) (fun hb=> ?_) <;> cbv)
  | fail
 all_goals first
  | (refine⟨(a,false),Nat.le_succ _, ?_⟩; cbv;(repeat' first | exact trivial | refine⟨rfl, ?_⟩ | fail); done)
  | (refine⟨(bP bd e a,true),Nat.le_of_eq wT, ?_⟩; cbv;(repeat' first | exact trivial | refine⟨rfl, ?_⟩ | fail); done)
set_option maxHeartbeats 4000000 in
theorem Lc (code:List UInt8) (i h:Int) (hi:dI code i) (hc:code.length≤aN):bJ Tryz.prog 259 [cP] (f_ code i h) (cJ code (fun l:List Entry=>l.length≤16) fun l=>lR .aJ fun _=>l):=by
 unfold cJ;refine eP (pk:=[0,1]) au Tryz.func259 rfl rfl (fr:=true) (fun _=>by kernel_rfl) (fun _=>rfl) rfl rfl fun P hP hA hB=> ?_;cbv
 repeat' first
  | exact trivial
  | (refine Pz.mk ?_; cbv)
  | (refine aD.ex hP (cT code _ _ _ (by assumption) hc) ?_; rintro⟨x,i2,h2⟩ ⟨hx,aw⟩;(try dsimp only at hx aw); cbv)
  | (refine aD.ex hP (eS code _ _ _ (by assumption) hc) ?_; rintro⟨x,i2,h2⟩ ⟨hx,aw⟩;(try dsimp only at hx aw); cbv)
  | (refine aD.ex hP (eQ code _ _ _ (by decide) (by assumption) hc) ?_; rintro⟨x,i2,h2⟩ ⟨hx,aw⟩;(try dsimp only at hx aw); cbv)
  | (refine Br.yes (by first | assumption | exact decide_eq_true (by assumption)) ?_; cbv)
  | (refine Br.no (by first | assumption | exact decide_eq_false (by assumption)) ?_; cbv)
  | (refine Br.dec (fun hb=> ?_) (fun hb=> ?_) <;> cbv)
  | (refine Br.split (fun hb=> ?_) (fun hb=> ?_) <;> cbv)
  | (refine Ar.exact (by omega) (by omega) ?_; cbv)
  | (refine Ix.ex (by omega) (by(try simp only[nc] at *); omega) ?_; intro y; cbv)
  | (refine Ar.any ?_; intro u; cbv)
  | (refine aW.mk ?_ (by kernel_rfl) ?_; rotate_left; cbv; rotate_right) | refine⟨rfl, ?_⟩ | refine And.intro ?_ ?_ | exact rfl | fail
 all_goals
  apply aR.Ak (A:=List Entry) (B:=Int) (C:=Int) (D:=Int) (E:=Int) (fun l j n i h=>[(0,pN 0),(3,oN 2),(4,iT fun _=>n),(5,iT fun _=>j)]) (fun l j n i h=>[(0,qE i h),(1,qF code),(2,aH .aJ fun _=>l)]) (fun l j n i h=>0≤j∧j≤16∧n≤13∧l.length≤j.toNat∧dI code i) (fun l j n i h _=>(13 - j).toNat)
  · cbv
    repeat' first | exact trivial | refine⟨rfl, ?_⟩ | fail
  · exact⟨by omega,by omega,by omega,Nat.zero_le _,by assumption⟩
  · rintro l j n i1 h1 ⟨q1,q2,q3,q4,q5⟩
    cbv;have hq:l.length+1≤aN:=by show l.length+1≤1048576; omega
    repeat' first
      | exact trivial
      | (refine Pz.mk ?_; cbv)
      | (refine aD.ex hP (K9 code _ _ (by assumption) hc) ?_; rintro⟨x,i2,h2⟩ ⟨hx,aw⟩;(try dsimp only at hx aw); cbv)
      | (refine af.ex hP (Lb l x hq) ?_; rintro x hx;(try dsimp only at hx); cbv)
      | (refine af.ex hP (Lb l ⟨x.lvl,x.aA,100+j,x.aj⟩ hq) ?_; rintro x hx;(try dsimp only at hx); cbv)
      | (refine aD.ex hP (cT code _ _ _ (by assumption) hc) ?_; rintro⟨x,i2,h2⟩ ⟨hx,aw⟩;(try dsimp only at hx aw); cbv)
      | (refine aD.ex hP (eS code _ _ _ (by assumption) hc) ?_; rintro⟨x,i2,h2⟩ ⟨hx,aw⟩;(try dsimp only at hx aw); cbv)
      | (refine aD.ex hP (eQ code _ _ _ (by decide) (by assumption) hc) ?_; rintro⟨x,i2,h2⟩ ⟨hx,aw⟩;(try dsimp only at hx aw); cbv)
      | (refine Br.yes (by first | assumption | exact decide_eq_true (by assumption)) ?_; cbv)
      | (refine Br.no (by first | assumption | exact decide_eq_false (by assumption)) ?_; cbv)
      | (refine Br.dec (fun hb=> ?_) (fun hb=> ?_) <;> cbv)
      | (refine Br.split (fun hb=> ?_) (fun hb=> ?_) <;> cbv)
      | (refine Ar.exact (by omega) (by omega) ?_; cbv)
      | (refine Ix.ex (by omega) (by(try simp only[nc] at *); omega) ?_; intro y; cbv)
      | (refine Ar.any ?_; intro u; cbv)
      | (refine aW.mk ?_ (by kernel_rfl) ?_; rotate_left; cbv; rotate_right) | refine⟨rfl, ?_⟩ | refine And.intro ?_ ?_ | exact rfl | fail
    · refine aL.by (x.1,j+1,n,i2,h2) ?_ ?_ ?_
      · dsimp only; omega
      · dsimp only; exact⟨by omega,by omega,q3,by omega,by assumption⟩
      · cbv
        repeat' first | exact trivial | refine⟨rfl, ?_⟩ | fail
    · refine aL.by (x.1,j+1,n,i2,h2) ?_ ?_ ?_
      · dsimp only; omega
      · dsimp only; exact⟨by omega,by omega,q3,by omega,by assumption⟩
      · cbv
        repeat' first | exact trivial | refine⟨rfl, ?_⟩ | fail
    · refine⟨(l,i1,h1),⟨(by omega:l.length≤16),q5⟩, ?_⟩;cbv
      repeat' first | exact trivial | refine⟨rfl, ?_⟩ | fail
set_option maxHeartbeats 4000000 in
theorem SO (code:List UInt8) (i h:Int) (hi:dI code i) (hc:code.length≤aN):bJ Tryz.prog 218 [cP] (f_ code i h) (cJ code (fun l:List Entry=>l.length≤17) fun l=>lR .aJ fun _=>l):=by
 unfold cJ;refine eP (pk:=[0,1]) au Tryz.func218 rfl rfl (fr:=true) (fun _=>by kernel_rfl) (fun _=>rfl) rfl rfl fun P hP hA hB=> ?_;cbv;refine aD.ex hP (Lc code i h hi hc) fun⟨l,i1,h1⟩ ⟨hl,lI⟩=> ?_;cbv;have hl:l.length≤16:=hl;have ob:(l.length+1)*32≤140737488355328:=by omega
 repeat' first
  | exact trivial
  | (refine Pz.mk ?_; cbv)
  | (refine aD.ex hP (K9 code _ _ (by assumption) hc) ?_; rintro⟨x,i2,h2⟩ ⟨hx,aw⟩;(try dsimp only at hx aw); cbv)
  | (refine Ob.mk (ob) ?_; cbv)
  | (refine Sv.len ?_; intro u hu; simp only[List.length_set] at hu; cbv)
  | (refine Ob.mk (by(try simp only[nc] at *); omega) ?_; cbv)
  | (refine aD.ex hP (cT code _ _ _ (by assumption) hc) ?_; rintro⟨x,i2,h2⟩ ⟨hx,aw⟩;(try dsimp only at hx aw); cbv)
  | (refine aD.ex hP (eS code _ _ _ (by assumption) hc) ?_; rintro⟨x,i2,h2⟩ ⟨hx,aw⟩;(try dsimp only at hx aw); cbv)
  | (refine aD.ex hP (eQ code _ _ _ (by decide) (by assumption) hc) ?_; rintro⟨x,i2,h2⟩ ⟨hx,aw⟩;(try dsimp only at hx aw); cbv)
  | (refine Br.yes (by first | assumption | exact decide_eq_true (by assumption)) ?_; cbv)
  | (refine Br.no (by first | assumption | exact decide_eq_false (by assumption)) ?_; cbv)
  | (refine Br.dec (fun hb=> ?_) (fun hb=> ?_) <;> cbv)
  | (refine Br.split (fun hb=> ?_) (fun hb=> ?_) <;> cbv)
  | (refine Ar.exact (by omega) (by omega) ?_; cbv)
  | (refine Ix.ex (by omega) (by(try simp only[nc] at *); omega) ?_; intro y; cbv)
  | (refine Ar.any ?_; intro u; cbv)
  | (refine aW.mk ?_ (by kernel_rfl) ?_; rotate_left; cbv; rotate_right) | refine⟨rfl, ?_⟩ | refine And.intro ?_ ?_ | exact rfl | fail
 all_goals
  apply xR
  · cbv
    (try dsimp only)
    repeat' first | exact trivial | refine⟨rfl, ?_⟩ | fail
  · exact⟨by simp only[List.length_set,List.length_append,List.length_singleton,List.length_cons,List.length_nil]; omega,by assumption⟩
set_option maxHeartbeats 4000000 in
theorem SP (code:List UInt8) (i h:Int) (hi:dI code i) (hc:code.length≤aN):bJ Tryz.prog 287 [cP] (f_ code i h) (cJ code (fun l:List aC=>l.length≤8) fun l=>lR .aI fun _=>l):=by
 unfold cJ;refine eP (pk:=[0,1]) au Tryz.func287 rfl rfl (fr:=true) (fun _=>by kernel_rfl) (fun _=>rfl) rfl rfl fun P hP hA hB=> ?_;cbv;refine aD.ex hP (cT code i h 8 hi hc) fun⟨n,i1,h1⟩ ⟨hn,lI⟩=> ?_;cbv;have hn:0≤n∧(n<8∨n=0):=hn;apply aR.DU (A:=List aC) (B:=Int) (C:=Int) (D:=Int) (fun l j i h=>[(0,pN 0),(3,oN 2),(4,iT fun _=>n),(5,iT fun _=>j)]) (fun l j i h=>[(0,qE i h),(1,qF code),(2,aH .aI fun _=>l)]) (fun l j i h=>0≤j∧j≤8∧l.length≤j.toNat∧dI code i) (fun l j i h _=>(8 - j).toNat)
 · cbv
   repeat' first | exact trivial | refine⟨rfl, ?_⟩ | fail
 · exact⟨by omega,by omega,Nat.zero_le _,lI⟩
 · rintro l j i2 h2 ⟨q1,q2,q3,q4⟩
   have ob:(l.length+1)*16≤140737488355328:=by omega
   cbv
   repeat' first
     | exact trivial
     | (refine Pz.mk ?_; cbv)
     | (refine aD.ex hP (La code _ _ (by assumption) hc) ?_; rintro⟨x,i2,h2⟩ ⟨hx,aw⟩;(try dsimp only at hx aw); cbv)
     | (refine Ob.mk (ob) ?_; cbv)
     | (refine aD.ex hP (cT code _ _ _ (by assumption) hc) ?_; rintro⟨x,i2,h2⟩ ⟨hx,aw⟩;(try dsimp only at hx aw); cbv)
     | (refine aD.ex hP (eS code _ _ _ (by assumption) hc) ?_; rintro⟨x,i2,h2⟩ ⟨hx,aw⟩;(try dsimp only at hx aw); cbv)
     | (refine aD.ex hP (eQ code _ _ _ (by decide) (by assumption) hc) ?_; rintro⟨x,i2,h2⟩ ⟨hx,aw⟩;(try dsimp only at hx aw); cbv)
     | (refine Br.yes (by first | assumption | exact decide_eq_true (by assumption)) ?_; cbv)
     | (refine Br.no (by first | assumption | exact decide_eq_false (by assumption)) ?_; cbv)
     | (refine Br.dec (fun hb=> ?_) (fun hb=> ?_) <;> cbv)
     | (refine Br.split (fun hb=> ?_) (fun hb=> ?_) <;> cbv)
     | (refine Ar.exact (by omega) (by omega) ?_; cbv)
     | (refine Ix.ex (by omega) (by(try simp only[nc] at *); omega) ?_; intro y; cbv)
     | (refine Ar.any ?_; intro u; cbv)
     | (refine aW.mk ?_ (by kernel_rfl) ?_; rotate_left; cbv; rotate_right) | refine⟨rfl, ?_⟩ | refine And.intro ?_ ?_ | exact rfl | fail
   · refine aL.by (l ++ [x],j+1,i2,h2) ?_ ?_ ?_
     · dsimp only; omega
     · dsimp only; exact⟨by omega,by omega,by rw[List.length_append,List.length_singleton]; omega,by assumption⟩
     · cbv
       repeat' first | exact trivial | refine⟨rfl, ?_⟩ | fail
   · refine⟨(l,i2,h2),⟨(by omega:l.length≤8),q4⟩, ?_⟩;cbv
     repeat' first | exact trivial | refine⟨rfl, ?_⟩ | fail
def gQ (w:List (List aC)):Prop:=w.length=9∧∀x∈w,x.length≤10
def qL (w:List (List aC)):Prop:=w.length≤10∧∀x∈w,x.length≤11
theorem gQ.small {w:List (List aC)} (h:gQ w):kC w:=by
 refine⟨?_,fun x hx=>Nat.le_trans (h.2 x hx) (by decide)⟩;rw[h.1]; decide
theorem qL.small {w:List (List aC)} (h:qL w):kC w:=⟨Nat.le_trans h.1 (by decide),fun x hx=>Nat.le_trans (h.2 x hx) (by decide)⟩
theorem gQ.v {w:List (List aC)} (h:gQ w):qL w:=⟨by rw[h.1]; decide,fun x hx=>Nat.le_trans (h.2 x hx) (by decide)⟩
theorem A4 {w:List (List aC)} (h:bw w=true):gQ w:=by
 have h:=of_decide_eq_true h;exact⟨h.len,fun x hx=>Nat.le_trans (List.sublist_flatten_of_mem hx).length_le h.dj⟩
theorem SQ {w:List (List aC)} (hw:gQ w) (p:aC):gQ (kJ w p):=by
 unfold kJ
 split
 · rename_i h;simp only[gq,Bool.and_eq_true] at h;exact A4 h.2.2
 · exact hw
theorem gQ.get {w:List (List aC)} (h:gQ w) (k:Unit→Nat):List.length (bM .cE (fun _=>w) k ())≤10:=by
 show(w.getD (k ()) []).length≤10;rw[List.getD_eq_getElem?_getD];cases hk:w[k ()]? with
 | none=>exact Nat.zero_le _
 | some x=>exact h.2 x (List.mem_of_getElem? hk)
theorem gQ.set {w:List (List aC)} (h:gQ w) (k:Nat) {l:List aC} (hl:l.length≤11):qL (w.set k l):=by
 refine⟨by rw[List.length_set,h.1]; decide,fun x hx=> ?_⟩;rcases List.mem_or_eq_of_mem_set hx with hx | rfl
 · exact Nat.le_trans (h.2 x hx) (by decide)
 · exact hl
theorem gQ.app {w:List (List aC)} (h:gQ w) {l:List (List aC)} (hl:l.length≤1) (gP:∀x∈l,x.length≤11):qL (w++l):=by
 refine⟨by rw[List.length_append,h.1]; omega,fun x hx=> ?_⟩;rcases List.mem_append.1 hx with hx | hx
 · exact Nat.le_trans (h.2 x hx) (by decide)
 · exact gP x hx
theorem gQ.take {w:List (List aC)} (h:gQ w) (n:Nat):qL ((w.take n).drop (Int.toNat 0)):=by
 refine⟨by rw[List.length_drop,List.length_take,h.1]; omega,fun x hx=> ?_⟩;exact Nat.le_trans (h.2 x (List.mem_of_mem_take (List.mem_of_mem_drop hx))) (by decide)
theorem Ld (w:List (List aC)) (p:aC) (hw:gQ w):Spec Tryz.prog 148 [jE w,eA .aI p] (gW (List (List aC) × Bool) (fun x=>gQ x.1) fun x=> .aS [(true,[.own .cE fun _=>x.1]),(false,[.bool fun _=>x.2])]):=
 Spec.na (kJ w p,gq w p) (SQ hw p) (K8 w p hw.small _ rfl _ rfl)
set_option maxHeartbeats 4000000 in
theorem Le (code:List UInt8) (i h:Int) (hi:dI code i) (hc:code.length≤aN):bJ Tryz.prog 261 [cP] (f_ code i h) (cJ code gQ fun w=>vF fun _=>w):=by
 have w0:gQ (List.replicate 9 ([]:List aC)):=A4 (by decide);unfold cJ;refine eP (pk:=[0,1]) au Tryz.func261 rfl rfl (fr:=true) (fun _=>by kernel_rfl) (fun _=>rfl) rfl rfl fun P hP hA hB=> ?_;cbv
 repeat' first
   | exact trivial
   | (refine Pz.mk ?_; cbv)
   | (refine af.by hP (D4) ?_; cbv)
   | (refine aD.ex hP (SP code _ _ (by assumption) hc) ?_; rintro⟨x,i2,h2⟩ ⟨hx,aw⟩;(try dsimp only at hx aw); cbv)
   | (refine aD.ex hP (cT code _ _ _ (by assumption) hc) ?_; rintro⟨x,i2,h2⟩ ⟨hx,aw⟩;(try dsimp only at hx aw); cbv)
   | (refine aD.ex hP (eS code _ _ _ (by assumption) hc) ?_; rintro⟨x,i2,h2⟩ ⟨hx,aw⟩;(try dsimp only at hx aw); cbv)
   | (refine aD.ex hP (eQ code _ _ _ (by decide) (by assumption) hc) ?_; rintro⟨x,i2,h2⟩ ⟨hx,aw⟩;(try dsimp only at hx aw); cbv)
   | (refine Br.yes (by first | assumption | exact decide_eq_true (by assumption)) ?_; cbv)
   | (refine Br.no (by first | assumption | exact decide_eq_false (by assumption)) ?_; cbv)
   | (refine Br.dec (fun hb=> ?_) (fun hb=> ?_) <;> cbv)
   | (refine Br.split (fun hb=> ?_) (fun hb=> ?_) <;> cbv)
   | (refine Ar.exact (by omega) (by omega) ?_; cbv)
   | (refine Ix.ex (by omega) (by(try simp only[nc] at *); omega) ?_; intro y; cbv)
   | (refine Ar.any ?_; intro u; cbv)
   | (refine aW.mk ?_ (by kernel_rfl) ?_; rotate_left; cbv; rotate_right) | refine⟨rfl, ?_⟩ | refine And.intro ?_ ?_ | exact rfl | fail
 apply aR.xH (A:=List aC) (B:=Int) (fun l j=>[(0,pN 0),(2,pN 2),(3,pN 3),(4,oN 4),(5,iT fun _=>j)]) (fun l j=>[(0,qE i2 h2),(1,qF code),(2, .box [.nil]),(3, .box [.own 5]),(4,aH .aI fun _=>l),(5,aH .cE fun _=>List.replicate 9 [])]) (fun l j=>0≤j∧j≤10∧l.length≤8+j.toNat) (fun l j _=>(10 - j).toNat)
 · cbv
   repeat' first | exact trivial | refine⟨rfl, ?_⟩ | fail
 · exact⟨by omega,by omega,by omega⟩
 rintro l j ⟨q1,q2,q3⟩
 have ob:(l.length+1)*16≤140737488355328:=by omega
 cbv
 repeat' first
   | exact trivial
   | (refine Pz.mk ?_; cbv)
   | (refine Ob.mk (ob) ?_; cbv)
   | (refine aD.ex hP (cT code _ _ _ (by assumption) hc) ?_; rintro⟨x,i2,h2⟩ ⟨hx,aw⟩;(try dsimp only at hx aw); cbv)
   | (refine aD.ex hP (eS code _ _ _ (by assumption) hc) ?_; rintro⟨x,i2,h2⟩ ⟨hx,aw⟩;(try dsimp only at hx aw); cbv)
   | (refine aD.ex hP (eQ code _ _ _ (by decide) (by assumption) hc) ?_; rintro⟨x,i2,h2⟩ ⟨hx,aw⟩;(try dsimp only at hx aw); cbv)
   | (refine Br.yes (by first | assumption | exact decide_eq_true (by assumption)) ?_; cbv)
   | (refine Br.no (by first | assumption | exact decide_eq_false (by assumption)) ?_; cbv)
   | (refine Br.dec (fun hb=> ?_) (fun hb=> ?_) <;> cbv)
   | (refine Br.split (fun hb=> ?_) (fun hb=> ?_) <;> cbv)
   | (refine Ar.exact (by omega) (by omega) ?_; cbv)
   | (refine Ix.ex (by omega) (by(try simp only[nc] at *); omega) ?_; intro y; cbv)
   | (refine Ar.any ?_; intro u; cbv)
   | (refine aW.mk ?_ (by kernel_rfl) ?_; rotate_left; cbv; rotate_right) | refine⟨rfl, ?_⟩ | refine And.intro ?_ ?_ | exact rfl | fail
 · refine aL.by (l ++ [⟨3+j,100+j⟩],j+1) ?_ ?_ ?_
   · dsimp only; omega
   · dsimp only; exact⟨by omega,by omega,by rw[List.length_append,List.length_singleton]; omega⟩
   · cbv
     repeat' first | exact trivial | refine⟨rfl, ?_⟩ | fail
 all_goals
   apply aR.DT (A:=List (List aC)) (B:=List aC) (C:=Int) (fun w l j=>[(0,pN 0),(2,pN 2),(3,pN 3),(4,oN 4),(6,iT fun _=>j)]) (fun w l j=>[(0,qE i2 h2),(1,qF code),(2, .box [.nil]),(3, .box [.own 5]),(4,aH .aI fun _=>l),(5,aH .cE fun _=>w)]) (fun w l j=>gQ w∧l.length≤18∧0≤j∧j.toNat≤l.length) (fun w l j _=>l.length - j.toNat)
   · cbv
     repeat' first | exact trivial | refine⟨rfl, ?_⟩ | fail
   · exact⟨w0,by omega,by omega,Nat.zero_le _⟩
   rintro w l j ⟨hw,q1,q2,q3⟩
   cbv
   repeat' first
     | exact trivial
     | (refine Pz.mk ?_; cbv)
     | (refine af.ex hP (Ld w _ hw) ?_; rintro x hx;(try dsimp only at hx); cbv)
     | (refine Ob.mk ⟨q2,hb⟩ ?_; cbv)
     | (refine aD.ex hP (cT code _ _ _ (by assumption) hc) ?_; rintro⟨x,i2,h2⟩ ⟨hx,aw⟩;(try dsimp only at hx aw); cbv)
     | (refine aD.ex hP (eS code _ _ _ (by assumption) hc) ?_; rintro⟨x,i2,h2⟩ ⟨hx,aw⟩;(try dsimp only at hx aw); cbv)
     | (refine aD.ex hP (eQ code _ _ _ (by decide) (by assumption) hc) ?_; rintro⟨x,i2,h2⟩ ⟨hx,aw⟩;(try dsimp only at hx aw); cbv)
     | (refine Br.yes (by first | assumption | exact decide_eq_true (by assumption)) ?_; cbv)
     | (refine Br.no (by first | assumption | exact decide_eq_false (by assumption)) ?_; cbv)
     | (refine Br.dec (fun hb=> ?_) (fun hb=> ?_) <;> cbv)
     | (refine Br.split (fun hb=> ?_) (fun hb=> ?_) <;> cbv)
     | (refine Ar.exact (by omega) (by omega) ?_; cbv)
     | (refine Ix.ex (by omega) (by(try simp only[nc] at *); omega) ?_; intro y; cbv)
     | (refine Ar.any ?_; intro u; cbv)
     | (refine aW.mk ?_ (by kernel_rfl) ?_; rotate_left; cbv; rotate_right) | refine⟨rfl, ?_⟩ | refine And.intro ?_ ?_ | exact rfl | fail
   · have hb:j<(l.length:Int):=hb;refine aL.by (x.1,l,j+1) ?_ ?_ ?_
     · dsimp only; omega
     · dsimp only; exact⟨hx,by omega,by omega,by omega⟩
     · cbv
       repeat' first | exact trivial | refine⟨rfl, ?_⟩ | fail
   · refine⟨(w,i2,h2),⟨hw,by assumption⟩, ?_⟩;cbv
     repeat' first | exact trivial | refine⟨rfl, ?_⟩ | fail
set_option maxHeartbeats 4000000 in
theorem SR (code:List UInt8) (i h:Int) (hi:dI code i) (hc:code.length≤aN):bJ Tryz.prog 219 [cP] (f_ code i h) (cJ code qL fun w=>vF fun _=>w):=by
 unfold cJ;refine eP (pk:=[0,1]) au Tryz.func219 rfl rfl (fr:=true) (fun _=>by kernel_rfl) (fun _=>rfl) rfl rfl fun P hP hA hB=> ?_;cbv;refine aD.ex hP (Le code i h hi hc) fun⟨w,i1,h1⟩ ⟨hw,lI⟩=> ?_;cbv;have hw:gQ w:=hw;have hl:w.length=9:=hw.1;have SU:(w.length+1)*24≤140737488355328:=by rw[hl]; decide
 have hg:∀k:Unit→Nat,(List.length (bM .cE (fun _=>w) k ())+1)*16≤140737488355328:=fun k=>by have:=hw.get k; omega
 have yw:∀(k:Unit→Nat) (p:aC),List.length (bM .cE (fun _=>w) k () ++ [p])≤11:=fun k p=>by have:=hw.get k; rw[List.length_append,List.length_singleton]; omega
 repeat' first
  | exact trivial
  | (refine Pz.mk ?_; cbv)
  | (refine aD.ex hP (cT code _ _ _ (by assumption) hc) ?_; rintro⟨k,i2,h2⟩ ⟨hk,aw⟩;(try dsimp only at hk aw); cbv)
  | (refine aD.ex hP (La code _ _ (by assumption) hc) ?_; rintro⟨x,i2,h2⟩ ⟨hx,aw⟩;(try dsimp only at hx aw); cbv)
  | (refine Ob.mk (hg fun _=>k.toNat) ?_; cbv)
  | (refine Sv.sat qL (hw.set k.toNat (yw (fun _=>k.toNat) ⟨x.tm,x.pid⟩)) ?_; intro u hu; cbv)
  | (refine Ob.mk (SU) ?_; cbv)
  | (refine Ob.mk (by(try simp only[nc] at *); omega) ?_; cbv)
  | (refine aD.ex hP (cT code _ _ _ (by assumption) hc) ?_; rintro⟨x,i2,h2⟩ ⟨hx,aw⟩;(try dsimp only at hx aw); cbv)
  | (refine aD.ex hP (eS code _ _ _ (by assumption) hc) ?_; rintro⟨x,i2,h2⟩ ⟨hx,aw⟩;(try dsimp only at hx aw); cbv)
  | (refine aD.ex hP (eQ code _ _ _ (by decide) (by assumption) hc) ?_; rintro⟨x,i2,h2⟩ ⟨hx,aw⟩;(try dsimp only at hx aw); cbv)
  | (refine Br.yes (by first | assumption | exact decide_eq_true (by assumption)) ?_; cbv)
  | (refine Br.no (by first | assumption | exact decide_eq_false (by assumption)) ?_; cbv)
  | (refine Br.dec (fun hb=> ?_) (fun hb=> ?_) <;> cbv)
  | (refine Br.split (fun hb=> ?_) (fun hb=> ?_) <;> cbv)
  | (refine Ar.exact (by omega) (by omega) ?_; cbv)
  | (refine Ix.ex (by omega) (by(try simp only[nc] at *); omega) ?_; intro y; cbv)
  | (refine Ar.any ?_; intro u; cbv)
  | (refine aW.mk ?_ (by kernel_rfl) ?_; rotate_left; cbv; rotate_right) | refine⟨rfl, ?_⟩ | refine And.intro ?_ ?_ | exact rfl | fail
 all_goals
  apply xR
  · cbv
    (try dsimp only)
    repeat' first | exact trivial | refine⟨rfl, ?_⟩ | fail
  · exact⟨by first | assumption | exact hw.v | exact hw.take _ | exact hw.app (by decide) (by decide),by assumption⟩
def qM (c:ba):Prop:=c.row.length≤17∧qL c.spoke
theorem qM.small {c:ba} (h:qM c):iS c:=⟨Nat.le_trans h.1 (by decide),h.2.small⟩
theorem SV {A B:ba × Int × Int→Prop} (a1 a2 a3 a4 a5:Int) (r:List Entry) (w:List (List aC)) (i h:Int) (H:B (⟨⟨a1,a2,a3,a4,a5⟩,r,w⟩,i,h)) (H1:A (⟨⟨a1,a2,a3,a4,a5⟩,r,w⟩,i,h)):∃x,A x∧B x:=⟨_,H1,H⟩
set_option maxHeartbeats 4000000 in
theorem SW (code:List UInt8) (i h:Int) (hi:dI code i) (hc:code.length≤aN):bJ Tryz.prog 220 [cP] (f_ code i h) (cJ code qM fun c=> .agg (xP fun _=>c)):=by
 unfold cJ;refine eP (pk:=[0,1]) au Tryz.func220 rfl rfl (fr:=true) (fun _=>by kernel_rfl) (fun _=>rfl) rfl rfl fun P hP hA hB=> ?_;cbv;refine aD.ex hP (K_ code i h hi hc) fun⟨a,i1,h1⟩ ⟨_,lI⟩=> ?_;cbv;refine aD.ex hP (Lc code i1 h1 lI hc) fun⟨r,i2,h2⟩ ⟨hr,aw⟩=> ?_;cbv;refine aD.ex hP (Le code i2 h2 aw hc) fun⟨w,i3,h3⟩ ⟨hw,pj⟩=> ?_;cbv;refine⟨(⟨a,r,w⟩,i3,h3),⟨⟨Nat.le_trans hr (by decide),gQ.v hw⟩,pj⟩, ?_⟩;cbv
 repeat' first | exact trivial | refine⟨rfl, ?_⟩ | fail
set_option maxHeartbeats 4000000 in
theorem SX (code:List UInt8) (i h:Int) (hi:dI code i) (hc:code.length≤aN):bJ Tryz.prog 153 [cP] (f_ code i h) (cJ code qM fun c=> .agg (xP fun _=>c)):=by
 unfold cJ;refine eP (pk:=[0,1]) au Tryz.func153 rfl rfl (fr:=true) (fun _=>by kernel_rfl) (fun _=>rfl) rfl rfl fun P hP hA hB=> ?_;cbv;refine aD.ex hP (eS code i h 4 hi hc) fun⟨b,i1,h1⟩ ⟨_,lI⟩=> ?_;cbv;refine Br.split (fun hb=> ?_) (fun hb=> ?_) <;> cbv
 · refine aD.ex hP (SN code i1 h1 lI hc) fun⟨a,i2,h2⟩ ⟨_,aw⟩=> ?_;cbv;refine aD.ex hP (SO code i2 h2 aw hc) fun⟨r,i3,h3⟩ ⟨hr,pj⟩=> ?_;cbv;refine aD.ex hP (SR code i3 h3 pj hc) fun⟨w,i4,h4⟩ ⟨hw,vG⟩=> ?_;cbv;refine⟨(⟨a,r,w⟩,i4,h4),⟨⟨hr,hw⟩,vG⟩, ?_⟩;cbv
   repeat' first | exact trivial | refine⟨rfl, ?_⟩ | fail
 · refine aD.ex hP (SW code i1 h1 lI hc) fun⟨c,i2,h2⟩ ⟨iM,aw⟩=> ?_;cbv;have iM:qM c:=iM
   repeat' first
    | exact trivial
    | (refine Pz.mk ?_; cbv)
    | (refine aD.ex hP (cT code _ _ _ (by assumption) hc) ?_; rintro⟨x,i2,h2⟩ ⟨hx,aw⟩;(try dsimp only at hx aw); cbv)
    | (refine aD.ex hP (eS code _ _ _ (by assumption) hc) ?_; rintro⟨x,i2,h2⟩ ⟨hx,aw⟩;(try dsimp only at hx aw); cbv)
    | (refine aD.ex hP (eQ code _ _ _ (by decide) (by assumption) hc) ?_; rintro⟨x,i2,h2⟩ ⟨hx,aw⟩;(try dsimp only at hx aw); cbv)
    | (refine Br.yes (by first | assumption | exact decide_eq_true (by assumption)) ?_; cbv)
    | (refine Br.no (by first | assumption | exact decide_eq_false (by assumption)) ?_; cbv)
    | (refine Br.dec (fun hb=> ?_) (fun hb=> ?_) <;> cbv)
    | (refine Br.split (fun hb=> ?_) (fun hb=> ?_) <;> cbv)
    | (refine Ar.exact (by omega) (by omega) ?_; cbv)
    | (refine Ix.ex (by omega) (by(try simp only[nc] at *); omega) ?_; intro y; cbv)
    | (refine Ar.any ?_; intro u; cbv)
    | (refine aW.mk ?_ (by kernel_rfl) ?_; rotate_left; cbv; rotate_right) | refine⟨rfl, ?_⟩ | refine And.intro ?_ ?_ | exact rfl | fail
   all_goals
    apply SV
    · cbv
      (try dsimp only)
      repeat' first | exact trivial | refine⟨rfl, ?_⟩ | fail
    · exact⟨iM,aw⟩
theorem SY (R:bn) (l:List ax) (c now:Int) (hs:R.seats.length≤aN) (hl:l.length≤aN):Spec Tryz.prog 116 [fG R,lA .aE l,iA c,iA now] (gW (List Entry) (fun x=>x.length≤l.length) fun x=>lR .aJ fun _=>x):=
 Spec.na (fK R l c now) (by rw[fK,mb]; exact Et _ _ _ _) (Eu R l c now hs hl)
theorem SZ (l:List ax) (c:Int) (hl:l.length≤aN):Spec Tryz.prog 119 [lA .aE l,iA c] (gW (List aC) (fun x=>x.length≤l.length) fun x=>lR .aI fun _=>x):=
 Spec.na (gH l c) (by rw[gH,mb]; exact Es _ _) (J6 l c hl)
set_option maxHeartbeats 4000000 in
theorem S1 (r:bn) (l:List ax) (k now free:Int) (hs:r.seats.length≤aN) (hl:l.length≤16) (hk:0≤k∧k<r.seats.length) (hf:0≤free∧free≤100) (hr:∀x∈r.seats,0≤x∧x≤100):Spec Tryz.prog 214 [fG r,lA .aE l,iA k,iA now,iA free] (gW ba qM fun c=> .agg (xP fun _=>c)):=by
 have gP:l.length≤aN:=Nat.le_trans hl (by decide);have w0:gQ (List.replicate 9 ([]:List aC)):=A4 (by decide);obtain⟨n,rfl⟩:∃n:Nat,k=n:=⟨k.toNat,by omega⟩;have hn:n<r.seats.length:=by omega
 obtain⟨s,Lg⟩:∃s,s=r.seats[n]:=⟨_,rfl⟩;have WH:0≤s∧s≤100:=by rw[Lg]; exact hr _ (List.getElem_mem hn)
 have Lh:=get_cast r.seats hn;rw[←Lg] at Lh;refine aF au Tryz.func214 rfl rfl (fr:=true) (fun _=>by kernel_rfl) fun P hP hA=> ?_;cbv;refine af.by hP (D4) ?_;cbv;refine af.ex hP (SZ l (n:Int) gP) fun ps sj=> ?_;cbv;apply aR.xH (A:=List (List aC)) (B:=Int) (fun w j=>[(1,lA .aE l),(2,iA (n:Int)),(3,iA now),(4,iA free),(5,pN 5),(10,pN 10),(11,pN 11),(12,oN 12),(13,iT fun _=>j)]) (fun w j=>[(5, .box (Er r)),(10, .box [.lf (.int .i64 fun _=>0), .lf (.int .i64 fun _=>0), .lf (.int .i64 fun _=>0), .lf (.int .i64 fun _=>0), .lf (.int .i64 fun _=>0), .nil, .nil]),(11, .box [.own 13]),(12,aH .aI fun _=>ps),(13,aH .cE fun _=>w)]) (fun w j=>gQ w∧0≤j∧j.toNat≤ps.length) (fun w j _=>ps.length - j.toNat)
 · cbv
   repeat' first | exact trivial | refine⟨rfl, ?_⟩ | fail
 · exact⟨w0,by omega,Nat.zero_le _⟩
 rintro w j ⟨hw,q2,q3⟩
 cbv
 repeat' first
   | exact trivial
   | (refine Pz.mk ?_; cbv)
   | (refine af.ex hP (Ld w _ hw) ?_; rintro x hx;(try dsimp only at hx); cbv)
   | (refine Ob.mk ⟨q2,hb⟩ ?_; cbv)
   | (refine af.ex hP (JQ l (n:Int) gP) ?_; intro u1 pH; cbv)
   | (refine af.ex hP (JR l (n:Int) gP) ?_; intro u2 S3; cbv)
   | (refine Ix.mk s (by simp) Lh ?_; cbv)
   | (refine af.ex hP (xS _ _) ?_; intro u3 WI; cbv)
   | (refine af.ex hP (SY r l (n:Int) now hs gP) ?_; intro u4 S4; cbv)
   | (refine aD.ex hP (cT code _ _ _ (by assumption) hc) ?_; rintro⟨x,i2,h2⟩ ⟨hx,aw⟩;(try dsimp only at hx aw); cbv)
   | (refine aD.ex hP (eS code _ _ _ (by assumption) hc) ?_; rintro⟨x,i2,h2⟩ ⟨hx,aw⟩;(try dsimp only at hx aw); cbv)
   | (refine aD.ex hP (eQ code _ _ _ (by decide) (by assumption) hc) ?_; rintro⟨x,i2,h2⟩ ⟨hx,aw⟩;(try dsimp only at hx aw); cbv)
   | (refine Br.yes (by first | assumption | exact decide_eq_true (by assumption)) ?_; cbv)
   | (refine Br.no (by first | assumption | exact decide_eq_false (by assumption)) ?_; cbv)
   | (refine Br.dec (fun hb=> ?_) (fun hb=> ?_) <;> cbv)
   | (refine Br.split (fun hb=> ?_) (fun hb=> ?_) <;> cbv)
   | (refine Ar.exact (by omega) (by omega) ?_; cbv)
   | (refine Ix.ex (by omega) (by(try simp only[nc] at *); omega) ?_; intro y; cbv)
   | (refine Ar.any ?_; intro u; cbv)
   | (refine aW.mk ?_ (by kernel_rfl) ?_; rotate_left; cbv; rotate_right) | refine⟨rfl, ?_⟩ | refine And.intro ?_ ?_ | exact rfl | fail
 · have hb:j<(ps.length:Int):=hb;refine aL.by (x.1,j+1) ?_ ?_ ?_
   · dsimp only; omega
   · dsimp only; exact⟨hx,by omega,by omega⟩
   · cbv
     repeat' first | exact trivial | refine⟨rfl, ?_⟩ | fail
 · refine⟨⟨⟨s,s - u1 - u3,u1,u3,u2⟩,u4,w⟩,⟨Nat.le_trans S4 (Nat.le_trans hl (by decide)),hw.v⟩, ?_⟩;cbv
   repeat' first | exact trivial | refine⟨rfl, ?_⟩ | fail
end Go.Proofs.YtpklefhdkkegiaaGreat

