/- Parts of a proof. No conditions. -/

import Derived.Test.YtpklefhdkkegiaaGreatG42
import Derived.Test.YtpklefhdkkegiaaGreatGHo
import Derived.Test.YtpklefhdkkegiaaGreatG22
import Derived.Test.YtpklefhdkkegiaaGreatG19
import Derived.Test.YtpklefhdkkegiaaGreatG12
set_option linter.unusedSimpArgs false
set_option linter.unusedVariables false
namespace Go.Proofs.YtpklefhdkkegiaaGreat
open Go
set_option maxRecDepth 100000
theorem OT {l:List Int} {n:Nat} (h:n<l.length):l[n]? = some (l.getD n 0):=by rw[List.getD_eq_getElem?_getD,List.getElem?_eq_getElem h]; rfl
set_option maxHeartbeats 4000000 in
theorem OU (h:al) (p:ax) (hl:h.ae.length≤15) (cV:h.cabins.length≤h.rules.ai.length) (HH:h.cabins.length≤16):Spec Tryz.prog 213 [dV h,eA .aB p] (gH Bool (fun _=>True) fun x=>bR fun _=>x):=by
 have o1:(0+h.ae.length)*80≤140737488355328:=by omega
 have o2:(h.ae.length+1)*80≤140737488355328:=by omega
 refine aN aD Tryz.func213 rfl rfl (fr:=true) (fun _=>by kernel_rfl) fun P hP hA=> ?_;cbv
 repeat' first
  | exact trivial
  | (refine Pz.mk ?_; cbv)
  | (refine Ob.mk (o1) ?_; cbv)
  | (refine Ob.mk (o2) ?_; cbv)
  | (refine aJ.ex hP (cY code _ _ _ (by assumption) hc) ?_; rintro⟨x,i2,h2⟩ ⟨hx,aC⟩;(try dsimp only at hx aC); cbv)
  | (refine aJ.ex hP (eW code _ _ _ (by assumption) hc) ?_; rintro⟨x,i2,h2⟩ ⟨hx,aC⟩;(try dsimp only at hx aC); cbv)
  | (refine aJ.ex hP (fe code _ _ _ (by decide) (by assumption) hc) ?_; rintro⟨x,i2,h2⟩ ⟨hx,aC⟩;(try dsimp only at hx aC); cbv)
  | (refine Br.yes (by first | assumption | exact decide_eq_true (by assumption)) ?_; cbv)
  | (refine Br.no (by first | assumption | exact decide_eq_false (by assumption)) ?_; cbv)
  | (refine Br.dec (fun hb=> ?_) (fun hb=> ?_) <;> cbv)
  | (refine Br.split (fun hb=> ?_) (fun hb=> ?_) <;> cbv)
  | (refine Ar.exact (by omega) (by omega) ?_; cbv)
  | (refine Ix.ex (by omega) (by(try simp only[nc] at *); omega) ?_; intro y; cbv)
  | (refine Ar.any ?_; intro u; cbv)
  | (refine bp.mk ?_ (by kernel_rfl) ?_; rotate_left; cbv; rotate_right) | refine⟨rfl, ?_⟩ | refine And.intro ?_ ?_ | exact rfl | fail
 all_goals
  apply aW.rh (A:=List ax) (B:=Int) (fun m j=>[(2,pN 2),(3,pN 3),(5,oN 4),(6,iT fun _=>j)]) (fun m j=>[(2, .box (kC h)),(3, .box ((bH .aB fun _=>p).map .lf)),(4,aK .aB fun _=>m)]) (fun m j=>m.length≤aS∧0≤j∧j.toNat≤h.cabins.length) (fun m j _=>h.cabins.length - j.toNat)
  · cbv
    repeat' first | exact trivial | refine⟨rfl, ?_⟩ | fail
  · refine⟨?_,by omega,Nat.zero_le _⟩;show List.length (([]++h.ae) ++ [p])≤1048576;rw[List.length_append,List.length_append,List.length_singleton,List.length_nil]; omega
  rintro m j ⟨q1,q2,q3⟩
  cbv
  repeat' first
    | exact trivial
    | (refine Pz.mk ?_; cbv)
    | (refine ag.ex hP (Gb m _ q1) ?_; intro u1 ni; cbv)
    | (refine ag.ex hP (Gc m _ q1) ?_; intro u2 OM; cbv)
    | (refine Ix.mk (h.rules.ai.getD j.toNat 0) q2 (OT (by have hb:j<(h.cabins.length:Int):=hb; omega)) ?_; cbv)
    | (refine aJ.ex hP (cY code _ _ _ (by assumption) hc) ?_; rintro⟨x,i2,h2⟩ ⟨hx,aC⟩;(try dsimp only at hx aC); cbv)
    | (refine aJ.ex hP (eW code _ _ _ (by assumption) hc) ?_; rintro⟨x,i2,h2⟩ ⟨hx,aC⟩;(try dsimp only at hx aC); cbv)
    | (refine aJ.ex hP (fe code _ _ _ (by decide) (by assumption) hc) ?_; rintro⟨x,i2,h2⟩ ⟨hx,aC⟩;(try dsimp only at hx aC); cbv)
    | (refine Br.yes (by first | assumption | exact decide_eq_true (by assumption)) ?_; cbv)
    | (refine Br.no (by first | assumption | exact decide_eq_false (by assumption)) ?_; cbv)
    | (refine Br.dec (fun hb=> ?_) (fun hb=> ?_) <;> cbv)
    | (refine Br.split (fun hb=> ?_) (fun hb=> ?_) <;> cbv)
    | (refine Ar.exact (by omega) (by omega) ?_; cbv)
    | (refine Ix.ex (by omega) (by(try simp only[nc] at *); omega) ?_; intro y; cbv)
    | (refine Ar.any ?_; intro u; cbv)
    | (refine bp.mk ?_ (by kernel_rfl) ?_; rotate_left; cbv; rotate_right) | refine⟨rfl, ?_⟩ | refine And.intro ?_ ?_ | exact rfl | fail
  · refine⟨false,trivial, ?_⟩;cbv
    repeat' first | exact trivial | refine⟨rfl, ?_⟩ | fail
  · have dN:j<(h.cabins.length:Int):=by assumption
    refine aO.by (m,j+1) ?_ ?_ ?_
    · dsimp only; omega
    · dsimp only; exact⟨q1,by omega,by omega⟩
    · cbv
      repeat' first | exact trivial | refine⟨rfl, ?_⟩ | fail
  · refine⟨true,trivial, ?_⟩;cbv
    repeat' first | exact trivial | refine⟨rfl, ?_⟩ | fail
theorem OV (l:List ax) (p:ax):(gM l p).length≤l.length+1:=by
 unfold gM
 split
 · rw[List.length_set]; omega
 · rw[List.length_append,List.length_cons,List.length_take,List.length_drop]; omega
theorem xZ (l:List Int) (k:Int):(fj l k).length≤l.length+1:=by
 unfold fj
 split
 · omega
 · rw[List.length_append,List.length_singleton]; omega
theorem OW (l:List ax) (p:ax) (hl:l.length≤aS):Spec Tryz.prog 145 [lA .aB l,eA .aB p] (gH (List ax) (fun x=>x.length≤l.length+1) fun x=>lR .aB fun _=>x):=
 Spec.l_ _ (OV l p) (Om l p hl _ rfl)
theorem OX (l:List Int) (k:Int) (hl:l.length≤aS):Spec Tryz.prog 215 [lA .int l,iA k] (gH (List Int) (fun x=>x.length≤l.length+1) fun x=>lR .int fun _=>x):=
 Spec.l_ _ (xZ l k) (NL l k hl _ rfl)
theorem OY (l:List ax) (id:Int):Spec Tryz.prog 171 [lA .aB l,iA id] (gH Int (fun _=>True) fun x=>iR fun _=>x):=
 Spec.l_ _ trivial (Bd l id _ rfl)
theorem OZ (l:List ax) (c:Int) (hl:l.length≤aS):Spec Tryz.prog 53 [lA .aB l,iA c] (gH Int (fun _=>True) fun x=>iR fun _=>x):=
 Spec.l_ ((aV (bL c) l:Nat):Int) trivial (A5 l c hl)
theorem O0 {r:br} (h:pZ r):ca r=true:=by
 obtain⟨a,b,c,d,e,f,g,k,l,m⟩:=h
 have hs:r.ai.all (fun y=>aj y 1 60)=true:=List.all_eq_true.2 fun y hy=>by
  have:=m y hy;simp only[aj,Bool.and_eq_true,decide_eq_true_eq]; omega
 have hn:aj r.ai.length 1 4=true:=by
  simp only[aj,Bool.and_eq_true,decide_eq_true_eq]; omega
 rw[ca,hn,hs];simp only[aj,Bool.and_eq_true,decide_eq_true_eq,true_and];omega
theorem O1 (r:br) (hr:pZ r):Spec Tryz.prog 151 [fT r] (gH al (fun x=>x=s8 r) fun x=> .ba [(true,jq fun _=>x),(false,[.bool fun _=>true])]):=by
 have hb:=O0 hr
 have hs:r.ai.length≤aS:=by
  have:=hr.2.2.2.2.2.2.2.2.1.2;exact Nat.le_trans this (by decide)
 exact Spec.l_ _ rfl (OS r hs (s8 r) (by rw[HF,if_pos hb]) true hb.symm)
def BR:List C:=[.nil, .lf (.int .i64 fun _=>0), .lf (.int .i64 fun _=>0), .lf (.int .i64 fun _=>0), .lf (.int .i64 fun _=>0), .lf (.int .i64 fun _=>0), .lf (.int .i64 fun _=>0), .lf (.int .i64 fun _=>0), .lf (.int .i64 fun _=>0), .lf (.int .i64 fun _=>0), .lf (.int .i64 fun _=>0), .nil, .nil, .nil, .nil]
def BS (k:Nat) (r:br):List C:=[.own k, .lf (.int .i64 fun _=>r.cd), .lf (.int .i64 fun _=>r.room), .lf (.int .i64 fun _=>r.size), .lf (.int .i64 fun _=>r.period), .lf (.int .i64 fun _=>r.cC), .lf (.int .i64 fun _=>r.rest), .lf (.int .i64 fun _=>r.tries), .lf (.int .i64 fun _=>r.bO)]
def BT (k1 k2 k3 k4 k5:Nat) (r:br) (now az:Int):List C:=[.own k1, .lf (.int .i64 fun _=>r.cd), .lf (.int .i64 fun _=>r.room), .lf (.int .i64 fun _=>r.size), .lf (.int .i64 fun _=>r.period), .lf (.int .i64 fun _=>r.cC), .lf (.int .i64 fun _=>r.rest), .lf (.int .i64 fun _=>r.tries), .lf (.int .i64 fun _=>r.bO), .lf (.int .i64 fun _=>now), .lf (.int .i64 fun _=>az), .own k2, .own k3, .own k4, .own k5]
structure s9 (h:al):Prop where
 ru:pZ h.rules
 now:0≤h.now∧h.now≤19
 az:1≤h.az∧h.az≤60
 aB:h.ae.length≤9
 iX:h.cabins.length=h.rules.ai.length
 ah:∀c∈h.cabins,oF c
 todo:h.todo.length≤3
 aA:h.aA.length≤3
def ja (n:Nat) (l:List bh):Prop:=l.length=n∧∀c∈l,oF c
theorem ja.set {n:Nat} {l:List bh} (h:ja n l) (k:Nat) {c:bh} (hc:oF c):ja n (l.set k c):=by
 refine⟨by rw[List.length_set]; exact h.1,fun x hx=> ?_⟩;rcases List.mem_or_eq_of_mem_set hx with hx | rfl
 · exact h.2 x hx
 · exact hc
theorem O2 (r:br):ja r.ai.length (s8 r).cabins:=by
 refine⟨List.length_map _,fun c hc=> ?_⟩;obtain⟨n,_,rfl⟩:=List.mem_map.1 hc;unfold m5
 split
 · exact⟨Nat.zero_le _,(xY (w:=List.replicate 9 []) (by decide)).v⟩
 · exact⟨Nat.zero_le _,Nat.zero_le _,fun x hx=>by cases hx⟩
set_option maxHeartbeats 8000000 in
theorem HI (code:List UInt8) (i h:Int) (hi:dW code i) (hc:code.length≤aS):bY Tryz.prog 150 [cP] (fU code i h) (cJ code s9 fun h=>sJ fun _=>h):=by
 unfold cJ;refine fu (pk:=[0,1]) aD Tryz.func150 rfl rfl (fr:=true) (fun _=>by kernel_rfl) (fun _=>rfl) rfl rfl fun P hP hA hB=> ?_;cbv;refine aJ.ex hP (Mm code i h hi hc) fun⟨r,i1,h1⟩ ⟨hr,jL⟩=> ?_;cbv;have hr:pZ r:=hr;obtain⟨b1,b2,b3,b4,b5,b6⟩:=Ba hr;refine ag.ex hP (O1 r hr) fun E hE=> ?_;cbv;have hs:r.ai.length≤aS:=Nat.le_trans b6.2 (by decide);have hE:E=s8 r:=hE;have e1:E.rules=r:=by rw[hE]; rfl
 have e2:E.ae.length=0:=by rw[hE]; rfl
 have e3:ja r.ai.length E.cabins:=by rw[hE]; exact O2 r
 have e4:E.todo.length=0:=by rw[hE]; rfl
 have e5:E.aA.length≤3:=by
   rw[hE]; show(List.replicate r.bO.toNat (-1:Int)).length≤3;rw[List.length_replicate]; have:=hr.2.2.2.2.2.2.2.1; omega
 have e6:E.az=1:=by rw[hE]; rfl
 clear hE;have O3:∀x∈r.ai,0≤x∧x≤100:=fun x hx=>by have:=hr.2.2.2.2.2.2.2.2.2 x hx; omega
 refine aJ.ex hP (cY code i1 h1 20 jL hc) fun⟨now,i2,h2⟩ ⟨hn,aC⟩=> ?_;cbv;have hn:0≤now∧(now<20∨now=0):=hn;refine aJ.ex hP (cY code i2 h2 9 aC hc) fun⟨n,i3,h3⟩ ⟨hm,m3⟩=> ?_;cbv;have hm:0≤n∧(n<9∨n=0):=hm;apply aW.Fx (A:=List ax) (B:=Int) (C:=Int) (D:=Int) (E:=Int) (F:=Int) (fun ps az since j i h=>[(0,pN 0),(2,pN 2),(3,pN 3),(4,pN 4),(6,iT fun _=>n),(7,iT fun _=>since),(8,iT fun _=>j)]) (fun ps az since j i h=>[(0,rn i h),(1,rp code),(2, .box BR),(3, .box (BS 5 r)),(4, .box (BT 6 7 8 9 10 E.rules now az)),(5,aK .int fun _=>r.ai),(6,aK .int fun _=>E.rules.ai),(7,aK .aB fun _=>ps),(8,aK .ah fun _=>E.cabins),(9,aK .int fun _=>E.todo),(10,aK .int fun _=>E.aA)]) (fun ps az since j i h=>ps.length≤j.toNat∧0≤j∧j≤9∧1≤az∧az≤1+3*j∧0≤since∧since≤4*j∧dW code i) (fun ps az since j i h _=>(9 - j).toNat)
 · cbv
   repeat' first | exact trivial | refine⟨rfl, ?_⟩ | fail
 · exact⟨by omega,by omega,by omega,by omega,by omega,by omega,by omega,m3⟩
 rintro ps az since j ci ch ⟨q1,q2,q3,q4,q5,q6,q7,q8⟩
 have pX:ps.length≤15:=by omega
 have HJ:ps.length≤aS:=Nat.le_trans pX (by decide);have cV:E.cabins.length≤E.rules.ai.length:=by rw[e3.1,e1]; exact Nat.le_refl _
 have HH:E.cabins.length≤16:=by rw[e3.1]; omega
 cbv
 repeat' first
   | exact trivial
   | (refine Pz.mk ?_; cbv)
   | (refine aJ.ex hP (F_ code _ _ (by assumption) hc r hr now (by omega)) ?_; rintro⟨x,i2,h2⟩ ⟨hx,aC⟩;(try dsimp only at hx aC); cbv)
   | (refine ag.ex hP (MO _ _) ?_; intro u hu; cbv)
   | (refine ag.ex hP (OY _ _) ?_; intro u hu; cbv)
   | (refine ag.ex hP (OZ _ _ HJ) ?_; intro u hu; cbv)
   | (refine ag.ex hP (OU ⟨E.rules,_,_,ps,E.cabins,_,_⟩ ⟨_,_,_,_,_,_,_,_,_,_⟩ pX cV HH) ?_; intro u hu; cbv)
   | (refine ag.ex hP (OW ps ⟨_,_,_,_,_,_,_,_,_,_⟩ HJ) ?_; intro u hu; cbv)
   | (refine aJ.ex hP (cY code _ _ _ (by assumption) hc) ?_; rintro⟨x,i2,h2⟩ ⟨hx,aC⟩;(try dsimp only at hx aC); cbv)
   | (refine aJ.ex hP (eW code _ _ _ (by assumption) hc) ?_; rintro⟨x,i2,h2⟩ ⟨hx,aC⟩;(try dsimp only at hx aC); cbv)
   | (refine aJ.ex hP (fe code _ _ _ (by decide) (by assumption) hc) ?_; rintro⟨x,i2,h2⟩ ⟨hx,aC⟩;(try dsimp only at hx aC); cbv)
   | (refine Br.yes (by first | assumption | exact decide_eq_true (by assumption)) ?_; cbv)
   | (refine Br.no (by first | assumption | exact decide_eq_false (by assumption)) ?_; cbv)
   | (refine Br.dec (fun hb=> ?_) (fun hb=> ?_) <;> cbv)
   | (refine Br.split (fun hb=> ?_) (fun hb=> ?_) <;> cbv)
   | (refine Ar.exact (by omega) (by omega) ?_; cbv)
   | (refine Ix.ex (by omega) (by(try simp only[nc] at *); omega) ?_; intro y; cbv)
   | (refine Ar.any ?_; intro u; cbv)
   | (refine bp.mk ?_ (by kernel_rfl) ?_; rotate_left; cbv; rotate_right) | refine⟨rfl, ?_⟩ | refine And.intro ?_ ?_ | exact rfl | fail
 any_goals
   apply aO.MN
   · cbv
     (try dsimp only)
     repeat' first | exact trivial | refine⟨rfl, ?_⟩ | fail
   · (try dsimp only)
     exact⟨by omega,by omega,by omega,by omega,by omega,by omega,by omega,by assumption⟩
   · (try dsimp only)
     omega
 apply aW.AP (A:=List bh) (B:=List Int) (C:=Int) (D:=Int) (E:=Int) (fun cs td j i h=>[(0,pN 0),(2,pN 2),(3,pN 3),(4,pN 4),(10,iT fun _=>j)]) (fun cs td j i h=>[(0,rn i h),(1,rp code),(2, .box BR),(3, .box (BS 5 r)),(4, .box (BT 6 7 8 9 10 E.rules now az)),(5,aK .int fun _=>r.ai),(6,aK .int fun _=>E.rules.ai),(7,aK .aB fun _=>ps),(8,aK .ah fun _=>cs),(9,aK .int fun _=>td),(10,aK .int fun _=>E.aA)]) (fun cs td j i h=>ja r.ai.length cs∧td.length≤j.toNat∧0≤j∧j.toNat≤r.ai.length∧dW code i) (fun cs td j i h _=>r.ai.length - j.toNat)
 · cbv
   repeat' first | exact trivial | refine⟨rfl, ?_⟩ | fail
 · exact⟨e3,by omega,by omega,Nat.zero_le _,q8⟩
 rintro cs td k Rs Rt ⟨p1,p2,p3,p4,p5⟩
 have s_:td.length≤aS:=Nat.le_trans p2 (Nat.le_trans p4 hs);have p0:=p1.1;have O4:ps.length≤16:=by omega
 cbv
 repeat' first
   | exact trivial
   | (refine Pz.mk ?_; cbv)
   | (refine ag.ex hP (OL r ps k _ _ hs O4 ⟨p3,by have gk:k<(cs.length:Int):=(by assumption); omega⟩ (by omega) O3) ?_; intro c O5; cbv)
   | (refine Ob.mk ⟨p3,by assumption⟩ ?_; cbv)
   | (refine Sv.sat (ja r.ai.length) (p1.set _ O5) ?_; intro u hu; cbv)
   | (refine ag.ex hP (OX td _ s_) ?_; intro u hu; cbv)
   | (refine aJ.ex hP (cY code _ _ _ (by assumption) hc) ?_; rintro⟨x,i2,h2⟩ ⟨hx,aC⟩;(try dsimp only at hx aC); cbv)
   | (refine aJ.ex hP (eW code _ _ _ (by assumption) hc) ?_; rintro⟨x,i2,h2⟩ ⟨hx,aC⟩;(try dsimp only at hx aC); cbv)
   | (refine aJ.ex hP (fe code _ _ _ (by decide) (by assumption) hc) ?_; rintro⟨x,i2,h2⟩ ⟨hx,aC⟩;(try dsimp only at hx aC); cbv)
   | (refine Br.yes (by first | assumption | exact decide_eq_true (by assumption)) ?_; cbv)
   | (refine Br.no (by first | assumption | exact decide_eq_false (by assumption)) ?_; cbv)
   | (refine Br.dec (fun hb=> ?_) (fun hb=> ?_) <;> cbv)
   | (refine Br.split (fun hb=> ?_) (fun hb=> ?_) <;> cbv)
   | (refine Ar.exact (by omega) (by omega) ?_; cbv)
   | (refine Ix.ex (by omega) (by(try simp only[nc] at *); omega) ?_; intro y; cbv)
   | (refine Ar.any ?_; intro u; cbv)
   | (refine bp.mk ?_ (by kernel_rfl) ?_; rotate_left; cbv; rotate_right) | refine⟨rfl, ?_⟩ | refine And.intro ?_ ?_ | exact rfl | fail
 any_goals
   apply aO.MM
   · cbv
     (try dsimp only)
     repeat' first | exact trivial | refine⟨rfl, ?_⟩ | fail
   · (try dsimp only)
     exact⟨by assumption,by omega,by omega,by have gk:k<(cs.length:Int):=(by assumption); omega,by assumption⟩
   · (try dsimp only)
     have gk:k<(cs.length:Int):=(by assumption); omega
 apply aW.AO (A:=List Int) (B:=Int) (C:=Int) (D:=Int) (fun js j i h=>[(0,pN 0),(2,pN 2),(3,pN 3),(4,pN 4),(11,iT fun _=>j)]) (fun js j i h=>[(0,rn i h),(1,rp code),(2, .box BR),(3, .box (BS 5 r)),(4, .box (BT 6 7 8 9 10 E.rules now az)),(5,aK .int fun _=>r.ai),(6,aK .int fun _=>E.rules.ai),(7,aK .aB fun _=>ps),(8,aK .ah fun _=>cs),(9,aK .int fun _=>td),(10,aK .int fun _=>js)]) (fun js j i h=>js.length=E.aA.length∧0≤j∧j.toNat≤E.aA.length∧dW code i) (fun js j i h _=>E.aA.length - j.toNat)
 · cbv
   repeat' first | exact trivial | refine⟨rfl, ?_⟩ | fail
 · exact⟨rfl,by omega,Nat.zero_le _,p5⟩
 rintro js m O6 O7 ⟨s1,s2,s3,s4⟩
 cbv
 repeat' first
   | exact trivial
   | (refine Pz.mk ?_; cbv)
   | (refine Ob.mk ⟨s2,by assumption⟩ ?_; cbv)
   | (refine Sv.len ?_; intro u hu; simp only[List.length_set] at hu; cbv)
   | (refine aJ.ex hP (cY code _ _ _ (by assumption) hc) ?_; rintro⟨x,i2,h2⟩ ⟨hx,aC⟩;(try dsimp only at hx aC); cbv)
   | (refine aJ.ex hP (eW code _ _ _ (by assumption) hc) ?_; rintro⟨x,i2,h2⟩ ⟨hx,aC⟩;(try dsimp only at hx aC); cbv)
   | (refine aJ.ex hP (fe code _ _ _ (by decide) (by assumption) hc) ?_; rintro⟨x,i2,h2⟩ ⟨hx,aC⟩;(try dsimp only at hx aC); cbv)
   | (refine Br.yes (by first | assumption | exact decide_eq_true (by assumption)) ?_; cbv)
   | (refine Br.no (by first | assumption | exact decide_eq_false (by assumption)) ?_; cbv)
   | (refine Br.dec (fun hb=> ?_) (fun hb=> ?_) <;> cbv)
   | (refine Br.split (fun hb=> ?_) (fun hb=> ?_) <;> cbv)
   | (refine Ar.exact (by omega) (by omega) ?_; cbv)
   | (refine Ix.ex (by omega) (by(try simp only[nc] at *); omega) ?_; intro y; cbv)
   | (refine Ar.any ?_; intro u; cbv)
   | (refine bp.mk ?_ (by kernel_rfl) ?_; rotate_left; cbv; rotate_right) | refine⟨rfl, ?_⟩ | refine And.intro ?_ ?_ | exact rfl | fail
 any_goals
   apply aO.ML
   · cbv
     (try dsimp only)
     repeat' first | exact trivial | refine⟨rfl, ?_⟩ | fail
   · (try dsimp only)
     exact⟨by omega,by omega,by have gk:m<(js.length:Int):=(by assumption); omega,by assumption⟩
   · (try dsimp only)
     have gk:m<(js.length:Int):=(by assumption); omega
 have HR:s9 ⟨E.rules,now,az,ps,cs,td,js⟩:=⟨by rw[e1]; exact hr,⟨hn.1,by dsimp only; omega⟩,⟨q4,by dsimp only; omega⟩,by dsimp only; omega,p1.1.trans (by rw[e1]),p1.2,by dsimp only; omega,by dsimp only; omega⟩;refine⟨(⟨E.rules,now,az,ps,cs,td,js⟩,O6,O7),⟨HR,s4⟩, ?_⟩;cbv
 repeat' first | exact trivial | refine⟨rfl, ?_⟩ | fail
def lB (h:al):Prop:=bJ h∧h.ae.length≤20∧h.todo.length≤20∧h.aA.length≤20∧h.rules.ai.length≤3∧h.rules.size≤6∧h.rules.cd≤5∧h.rules.bO≤3
theorem HK {A B:al × Int × Int→Prop} (s:List Int) (a1 a2 a3 a4 a5 a6 a7 a8 now az:Int) (ps:List ax) (cs:List bh) (td js:List Int) (i h:Int) (H:B (⟨⟨s,a1,a2,a3,a4,a5,a6,a7,a8⟩,now,az,ps,cs,td,js⟩,i,h)) (H1:A (⟨⟨s,a1,a2,a3,a4,a5,a6,a7,a8⟩,now,az,ps,cs,td,js⟩,i,h)):∃x,A x∧B x:=⟨_,H1,H⟩
theorem ja.small {n:Nat} {l:List bh} (h:ja n l) (hn:n≤16):ri l:=⟨by rw[h.1]; exact Nat.le_trans hn (by decide),fun c hc=>(h.2 c hc).small⟩
theorem ja.take {n:Nat} {l:List bh} (h:ja n l) (hn:n≤16) (k:Nat):ri ((l.take k).drop (Int.toNat 0)):=by
 refine⟨?_,fun c hc=>(h.2 c (List.mem_of_mem_take (List.mem_of_mem_drop hc))).small⟩;rw[List.length_drop,List.length_take,h.1];exact Nat.le_trans (Nat.sub_le _ _) (Nat.le_trans (Nat.min_le_right _ _) (Nat.le_trans hn (by decide)))
theorem s9.draw {h:al} (g:s9 h):lB h:=by
 have:=g.ru.2.2.2.2.2.2.2.2.1.2;have hs:h.rules.ai.length≤3:=this;exact⟨⟨Nat.le_trans hs (by decide),Nat.le_trans g.aB (by decide),ja.small (n:=h.rules.ai.length) ⟨g.iX,g.ah⟩ (by omega),Nat.le_trans g.todo (by decide),Nat.le_trans g.aA (by decide)⟩,Nat.le_trans g.aB (by decide),Nat.le_trans g.todo (by decide),Nat.le_trans g.aA (by decide),hs,g.ru.2.2.1.2,g.ru.1.2,g.ru.2.2.2.2.2.2.2.1.2⟩
set_option maxHeartbeats 8000000 in
theorem O8 (code:List UInt8) (i h:Int) (hi:dW code i) (hc:code.length≤aS):bY Tryz.prog 83 [cP] (fU code i h) (cJ code lB fun h=>sJ fun _=>h):=by
 unfold cJ;refine fu (pk:=[0,1]) aD Tryz.func83 rfl rfl (fr:=true) (fun _=>by kernel_rfl) (fun _=>rfl) rfl rfl fun P hP hA hB=> ?_;cbv;refine aJ.ex hP (HI code i h hi hc) fun⟨g,i1,h1⟩ ⟨hg,jL⟩=> ?_;cbv;have hg:s9 g:=hg;obtain⟨d1,d2,d3,d4,d5,d6,d7,d8⟩:=hg;have hs:g.rules.ai.length≤3∧1≤g.rules.ai.length:=⟨d1.2.2.2.2.2.2.2.2.1.2,d1.2.2.2.2.2.2.2.2.1.1⟩;have fQ:ja g.rules.ai.length g.cabins:=⟨d5,d6⟩;have o1:(g.todo.length+1)*8≤140737488355328:=by omega
 have o2:(g.aA.length+1)*8≤140737488355328:=by omega
 have o3:(g.ae.length+1)*80≤140737488355328:=by omega
 have o4:0≤(0:Int)∧(0:Int)<(g.cabins.length:Int):=by omega
 have o5: -9223372036854775808≤(g.cabins.length:Int) - 1:=by omega
 have o6:(g.cabins.length:Int) - 1≤9223372036854775807:=by omega
 have o7:0≤(0:Int)∧(0:Int)≤(g.cabins.length:Int) - 1∧(g.cabins.length:Int) - 1≤(g.cabins.length:Int):=by omega
 repeat' first
  | exact trivial
  | (refine Pz.mk ?_; cbv)
  | (refine aJ.ex hP (MK code _ _ (by assumption) hc g.rules d1 g.now (by omega)) ?_; rintro⟨x,i2,h2⟩ ⟨hx,aC⟩;(try dsimp only at hx aC); cbv)
  | (refine aJ.ex hP (OI code _ _ (by assumption) hc) ?_; rintro⟨x,i2,h2⟩ ⟨hx,aC⟩;(try dsimp only at hx aC); cbv)
  | (refine Ob.mk (o1) ?_; cbv)
  | (refine Ob.mk (o2) ?_; cbv)
  | (refine Ob.mk (o3) ?_; cbv)
  | (refine Ob.mk (o4) ?_; cbv)
  | (refine Ob.mk (o7) ?_; cbv)
  | (refine Ar.exact o5 o6 ?_; cbv)
  | (refine Sv.sat (ja g.rules.ai.length) (fQ.set _ (by assumption)) ?_; intro u hu; cbv)
  | (refine Sv.len ?_; intro u hu; simp only[List.length_set] at hu; cbv)
  | (refine Ob.mk (by(try simp only[nc] at *); omega) ?_; cbv)
  | (refine aJ.ex hP (cY code _ _ _ (by assumption) hc) ?_; rintro⟨x,i2,h2⟩ ⟨hx,aC⟩;(try dsimp only at hx aC); cbv)
  | (refine aJ.ex hP (eW code _ _ _ (by assumption) hc) ?_; rintro⟨x,i2,h2⟩ ⟨hx,aC⟩;(try dsimp only at hx aC); cbv)
  | (refine aJ.ex hP (fe code _ _ _ (by decide) (by assumption) hc) ?_; rintro⟨x,i2,h2⟩ ⟨hx,aC⟩;(try dsimp only at hx aC); cbv)
  | (refine Br.yes (by first | assumption | exact decide_eq_true (by assumption)) ?_; cbv)
  | (refine Br.no (by first | assumption | exact decide_eq_false (by assumption)) ?_; cbv)
  | (refine Br.dec (fun hb=> ?_) (fun hb=> ?_) <;> cbv)
  | (refine Br.split (fun hb=> ?_) (fun hb=> ?_) <;> cbv)
  | (refine Ar.exact (by omega) (by omega) ?_; cbv)
  | (refine Ix.ex (by omega) (by(try simp only[nc] at *); omega) ?_; intro y; cbv)
  | (refine Ar.any ?_; intro u; cbv)
  | (refine bp.mk ?_ (by kernel_rfl) ?_; rotate_left; cbv; rotate_right) | refine⟨rfl, ?_⟩ | refine And.intro ?_ ?_ | exact rfl | fail
 all_goals
  apply HK
  · cbv
    (try dsimp only)
    repeat' first | exact trivial | refine⟨rfl, ?_⟩ | fail
  · refine⟨⟨⟨Nat.le_trans hs.1 (by decide), ?_, ?_, ?_, ?_⟩, ?_, ?_, ?_,hs.1,d1.2.2.1.2,d1.1.2,d1.2.2.2.2.2.2.2.1.2⟩,by assumption⟩ <;> first | exact fQ.small (by omega) | exact ja.small (by assumption:ja g.rules.ai.length _) (by omega) | exact fQ.take (by omega) _ | (refine Nat.le_trans ?_ (by decide:20≤aS);(try simp only[List.length_append,List.length_singleton,List.length_set,List.length_cons,List.length_nil]); omega) | (dsimp only;(try simp only[List.length_append,List.length_singleton,List.length_set,List.length_cons,List.length_nil]); omega)
end Go.Proofs.YtpklefhdkkegiaaGreat

