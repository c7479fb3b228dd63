/- Parts of a proof. No conditions. -/

import Derived.Test.YtpklefhdkkegiaaGreatG42
import Derived.Test.YtpklefhdkkegiaaGreatGHo
import Derived.Test.YtpklefhdkkegiaaGreatG22
import Derived.Test.YtpklefhdkkegiaaGreatG19
import Derived.Test.YtpklefhdkkegiaaGreatG12
set_option linter.unusedSimpArgs false
set_option linter.unusedVariables false
namespace Go.Proofs.YtpklefhdkkegiaaGreat
open Go
set_option maxRecDepth 100000
theorem S9 {l:List Int} {n:Nat} (h:n<l.length):l[n]? = some (l.getD n 0):=by rw[List.getD_eq_getElem?_getD,List.getElem?_eq_getElem h]; rfl
set_option maxHeartbeats 4000000 in
theorem S_ (h:ai) (p:ax) (hl:h.ae.length≤15) (dB:h.cabins.length≤h.rules.seats.length) (A5:h.cabins.length≤16):Spec Tryz.prog 213 [cG h,eA .aE p] (gW Bool (fun _=>True) fun x=>bR fun _=>x):=by
 have o1:(0+h.ae.length)*80≤140737488355328:=by omega
 have o2:(h.ae.length+1)*80≤140737488355328:=by omega
 refine aF au Tryz.func213 rfl rfl (fr:=true) (fun _=>by kernel_rfl) fun P hP hA=> ?_;cbv
 repeat' first
  | exact trivial
  | (refine Pz.mk ?_; cbv)
  | (refine Ob.mk (o1) ?_; cbv)
  | (refine Ob.mk (o2) ?_; cbv)
  | (refine aD.ex hP (cT code _ _ _ (by assumption) hc) ?_; rintro⟨x,i2,h2⟩ ⟨hx,aw⟩;(try dsimp only at hx aw); cbv)
  | (refine aD.ex hP (eS code _ _ _ (by assumption) hc) ?_; rintro⟨x,i2,h2⟩ ⟨hx,aw⟩;(try dsimp only at hx aw); cbv)
  | (refine aD.ex hP (eQ code _ _ _ (by decide) (by assumption) hc) ?_; rintro⟨x,i2,h2⟩ ⟨hx,aw⟩;(try dsimp only at hx aw); cbv)
  | (refine Br.yes (by first | assumption | exact decide_eq_true (by assumption)) ?_; cbv)
  | (refine Br.no (by first | assumption | exact decide_eq_false (by assumption)) ?_; cbv)
  | (refine Br.dec (fun hb=> ?_) (fun hb=> ?_) <;> cbv)
  | (refine Br.split (fun hb=> ?_) (fun hb=> ?_) <;> cbv)
  | (refine Ar.exact (by omega) (by omega) ?_; cbv)
  | (refine Ix.ex (by omega) (by(try simp only[nc] at *); omega) ?_; intro y; cbv)
  | (refine Ar.any ?_; intro u; cbv)
  | (refine aW.mk ?_ (by kernel_rfl) ?_; rotate_left; cbv; rotate_right) | refine⟨rfl, ?_⟩ | refine And.intro ?_ ?_ | exact rfl | fail
 all_goals
  apply aR.xH (A:=List ax) (B:=Int) (fun m j=>[(2,pN 2),(3,pN 3),(5,oN 4),(6,iT fun _=>j)]) (fun m j=>[(2, .box (iD h)),(3, .box ((bY .aE fun _=>p).map .lf)),(4,aH .aE fun _=>m)]) (fun m j=>m.length≤aN∧0≤j∧j.toNat≤h.cabins.length) (fun m j _=>h.cabins.length - j.toNat)
  · cbv
    repeat' first | exact trivial | refine⟨rfl, ?_⟩ | fail
  · refine⟨?_,by omega,Nat.zero_le _⟩;show List.length (([]++h.ae) ++ [p])≤1048576;rw[List.length_append,List.length_append,List.length_singleton,List.length_nil]; omega
  rintro m j ⟨q1,q2,q3⟩
  cbv
  repeat' first
    | exact trivial
    | (refine Pz.mk ?_; cbv)
    | (refine af.ex hP (JQ m _ q1) ?_; intro u1 pH; cbv)
    | (refine af.ex hP (JR m _ q1) ?_; intro u2 S3; cbv)
    | (refine Ix.mk (h.rules.seats.getD j.toNat 0) q2 (S9 (by have hb:j<(h.cabins.length:Int):=hb; omega)) ?_; cbv)
    | (refine aD.ex hP (cT code _ _ _ (by assumption) hc) ?_; rintro⟨x,i2,h2⟩ ⟨hx,aw⟩;(try dsimp only at hx aw); cbv)
    | (refine aD.ex hP (eS code _ _ _ (by assumption) hc) ?_; rintro⟨x,i2,h2⟩ ⟨hx,aw⟩;(try dsimp only at hx aw); cbv)
    | (refine aD.ex hP (eQ code _ _ _ (by decide) (by assumption) hc) ?_; rintro⟨x,i2,h2⟩ ⟨hx,aw⟩;(try dsimp only at hx aw); cbv)
    | (refine Br.yes (by first | assumption | exact decide_eq_true (by assumption)) ?_; cbv)
    | (refine Br.no (by first | assumption | exact decide_eq_false (by assumption)) ?_; cbv)
    | (refine Br.dec (fun hb=> ?_) (fun hb=> ?_) <;> cbv)
    | (refine Br.split (fun hb=> ?_) (fun hb=> ?_) <;> cbv)
    | (refine Ar.exact (by omega) (by omega) ?_; cbv)
    | (refine Ix.ex (by omega) (by(try simp only[nc] at *); omega) ?_; intro y; cbv)
    | (refine Ar.any ?_; intro u; cbv)
    | (refine aW.mk ?_ (by kernel_rfl) ?_; rotate_left; cbv; rotate_right) | refine⟨rfl, ?_⟩ | refine And.intro ?_ ?_ | exact rfl | fail
  · refine⟨false,trivial, ?_⟩;cbv
    repeat' first | exact trivial | refine⟨rfl, ?_⟩ | fail
  · have eh:j<(h.cabins.length:Int):=by assumption
    refine aL.by (m,j+1) ?_ ?_ ?_
    · dsimp only; omega
    · dsimp only; exact⟨q1,by omega,by omega⟩
    · cbv
      repeat' first | exact trivial | refine⟨rfl, ?_⟩ | fail
  · refine⟨true,trivial, ?_⟩;cbv
    repeat' first | exact trivial | refine⟨rfl, ?_⟩ | fail
theorem Ta (l:List ax) (p:ax):(ff l p).length≤l.length+1:=by
 unfold ff
 split
 · rw[List.length_set]; omega
 · rw[List.length_append,List.length_cons,List.length_take,List.length_drop]; omega
theorem A6 (l:List Int) (k:Int):(eD l k).length≤l.length+1:=by
 unfold eD
 split
 · omega
 · rw[List.length_append,List.length_singleton]; omega
theorem Tb (l:List ax) (p:ax) (hl:l.length≤aN):Spec Tryz.prog 145 [lA .aE l,eA .aE p] (gW (List ax) (fun x=>x.length≤l.length+1) fun x=>lR .aE fun _=>x):=
 Spec.na _ (Ta l p) (A0 l p hl _ rfl)
theorem Tc (l:List Int) (k:Int) (hl:l.length≤aN):Spec Tryz.prog 215 [lA .int l,iA k] (gW (List Int) (fun x=>x.length≤l.length+1) fun x=>lR .int fun _=>x):=
 Spec.na _ (A6 l k) (sD l k hl _ rfl)
theorem Td (l:List ax) (id:Int):Spec Tryz.prog 171 [lA .aE l,iA id] (gW Int (fun _=>True) fun x=>iR fun _=>x):=
 Spec.na _ trivial (AE l id _ rfl)
theorem Te (l:List ax) (c:Int) (hl:l.length≤aN):Spec Tryz.prog 53 [lA .aE l,iA c] (gW Int (fun _=>True) fun x=>iR fun _=>x):=
 Spec.na ((aV (bK c) l:Nat):Int) trivial (AB l c hl)
theorem Lk {r:bn} (h:qD r):ca r=true:=by
 obtain⟨a,b,c,d,e,f,g,k,l,m⟩:=h
 have hs:r.seats.all (fun y=>ak y 1 60)=true:=List.all_eq_true.2 fun y hy=>by
  have:=m y hy;simp only[ak,Bool.and_eq_true,decide_eq_true_eq]; omega
 have hn:ak r.seats.length 1 4=true:=by
  simp only[ak,Bool.and_eq_true,decide_eq_true_eq]; omega
 rw[ca,hn,hs];simp only[ak,Bool.and_eq_true,decide_eq_true_eq,true_and];omega
theorem Ll (r:bn) (hr:qD r):Spec Tryz.prog 151 [fG r] (gW ai (fun x=>x=lW r) fun x=> .aS [(true,fb fun _=>x),(false,[.bool fun _=>true])]):=by
 have hb:=Lk hr
 have hs:r.seats.length≤aN:=by
  have:=hr.2.2.2.2.2.2.2.2.1.2;exact Nat.le_trans this (by decide)
 exact Spec.na _ rfl (S6 r hs (lW r) (by rw[pI,if_pos hb]) true hb.symm)
def E5:List C:=[.nil, .lf (.int .i64 fun _=>0), .lf (.int .i64 fun _=>0), .lf (.int .i64 fun _=>0), .lf (.int .i64 fun _=>0), .lf (.int .i64 fun _=>0), .lf (.int .i64 fun _=>0), .lf (.int .i64 fun _=>0), .lf (.int .i64 fun _=>0), .lf (.int .i64 fun _=>0), .lf (.int .i64 fun _=>0), .nil, .nil, .nil, .nil]
def E6 (k:Nat) (r:bn):List C:=[.own k, .lf (.int .i64 fun _=>r.bX), .lf (.int .i64 fun _=>r.room), .lf (.int .i64 fun _=>r.size), .lf (.int .i64 fun _=>r.period), .lf (.int .i64 fun _=>r.bE), .lf (.int .i64 fun _=>r.rest), .lf (.int .i64 fun _=>r.tries), .lf (.int .i64 fun _=>r.bm)]
def E7 (k1 k2 k3 k4 k5:Nat) (r:bn) (now aA:Int):List C:=[.own k1, .lf (.int .i64 fun _=>r.bX), .lf (.int .i64 fun _=>r.room), .lf (.int .i64 fun _=>r.size), .lf (.int .i64 fun _=>r.period), .lf (.int .i64 fun _=>r.bE), .lf (.int .i64 fun _=>r.rest), .lf (.int .i64 fun _=>r.tries), .lf (.int .i64 fun _=>r.bm), .lf (.int .i64 fun _=>now), .lf (.int .i64 fun _=>aA), .own k2, .own k3, .own k4, .own k5]
structure uc (h:ai):Prop where
 ru:qD h.rules
 now:0≤h.now∧h.now≤19
 aA:1≤h.aA∧h.aA≤60
 aE:h.ae.length≤9
 fL:h.cabins.length=h.rules.seats.length
 ag:∀c∈h.cabins,qM c
 todo:h.todo.length≤3
 aq:h.aq.length≤3
def kK (n:Nat) (l:List ba):Prop:=l.length=n∧∀c∈l,qM c
theorem kK.set {n:Nat} {l:List ba} (h:kK n l) (k:Nat) {c:ba} (hc:qM c):kK n (l.set k c):=by
 refine⟨by rw[List.length_set]; exact h.1,fun x hx=> ?_⟩;rcases List.mem_or_eq_of_mem_set hx with hx | rfl
 · exact h.2 x hx
 · exact hc
theorem Tf (r:bn):kK r.seats.length (lW r).cabins:=by
 refine⟨List.length_map _,fun c hc=> ?_⟩;obtain⟨n,_,rfl⟩:=List.mem_map.1 hc;unfold fH
 split
 · exact⟨Nat.zero_le _,(A4 (w:=List.replicate 9 []) (by decide)).v⟩
 · exact⟨Nat.zero_le _,Nat.zero_le _,fun x hx=>by cases hx⟩
set_option maxHeartbeats 8000000 in
theorem E8 (code:List UInt8) (i h:Int) (hi:dI code i) (hc:code.length≤aN):bJ Tryz.prog 150 [cP] (f_ code i h) (cJ code uc fun h=>kB fun _=>h):=by
 unfold cJ;refine eP (pk:=[0,1]) au Tryz.func150 rfl rfl (fr:=true) (fun _=>by kernel_rfl) (fun _=>rfl) rfl rfl fun P hP hA hB=> ?_;cbv;refine aD.ex hP (DZ code i h hi hc) fun⟨r,i1,h1⟩ ⟨hr,lI⟩=> ?_;cbv;have hr:qD r:=hr;obtain⟨b1,b2,b3,b4,b5,b6⟩:=Ee hr;refine af.ex hP (Ll r hr) fun E hE=> ?_;cbv;have hs:r.seats.length≤aN:=Nat.le_trans b6.2 (by decide);have hE:E=lW r:=hE;have e1:E.rules=r:=by rw[hE]; rfl
 have e2:E.ae.length=0:=by rw[hE]; rfl
 have e3:kK r.seats.length E.cabins:=by rw[hE]; exact Tf r
 have e4:E.todo.length=0:=by rw[hE]; rfl
 have e5:E.aq.length≤3:=by
   rw[hE]; show(List.replicate r.bm.toNat (-1:Int)).length≤3;rw[List.length_replicate]; have:=hr.2.2.2.2.2.2.2.1; omega
 have e6:E.aA=1:=by rw[hE]; rfl
 clear hE;have Tg:∀x∈r.seats,0≤x∧x≤100:=fun x hx=>by have:=hr.2.2.2.2.2.2.2.2.2 x hx; omega
 refine aD.ex hP (cT code i1 h1 20 lI hc) fun⟨now,i2,h2⟩ ⟨hn,aw⟩=> ?_;cbv;have hn:0≤now∧(now<20∨now=0):=hn;refine aD.ex hP (cT code i2 h2 9 aw hc) fun⟨n,i3,h3⟩ ⟨hm,pj⟩=> ?_;cbv;have hm:0≤n∧(n<9∨n=0):=hm;apply aR.Je (A:=List ax) (B:=Int) (C:=Int) (D:=Int) (E:=Int) (F:=Int) (fun ps aA since j i h=>[(0,pN 0),(2,pN 2),(3,pN 3),(4,pN 4),(6,iT fun _=>n),(7,iT fun _=>since),(8,iT fun _=>j)]) (fun ps aA since j i h=>[(0,qE i h),(1,qF code),(2, .box E5),(3, .box (E6 5 r)),(4, .box (E7 6 7 8 9 10 E.rules now aA)),(5,aH .int fun _=>r.seats),(6,aH .int fun _=>E.rules.seats),(7,aH .aE fun _=>ps),(8,aH .ag fun _=>E.cabins),(9,aH .int fun _=>E.todo),(10,aH .int fun _=>E.aq)]) (fun ps aA since j i h=>ps.length≤j.toNat∧0≤j∧j≤9∧1≤aA∧aA≤1+3*j∧0≤since∧since≤4*j∧dI code i) (fun ps aA since j i h _=>(9 - j).toNat)
 · cbv
   repeat' first | exact trivial | refine⟨rfl, ?_⟩ | fail
 · exact⟨by omega,by omega,by omega,by omega,by omega,by omega,by omega,pj⟩
 rintro ps aA since j ci ch ⟨q1,q2,q3,q4,q5,q6,q7,q8⟩
 have sj:ps.length≤15:=by omega
 have Lm:ps.length≤aN:=Nat.le_trans sj (by decide);have dB:E.cabins.length≤E.rules.seats.length:=by rw[e3.1,e1]; exact Nat.le_refl _
 have A5:E.cabins.length≤16:=by rw[e3.1]; omega
 cbv
 repeat' first
   | exact trivial
   | (refine Pz.mk ?_; cbv)
   | (refine aD.ex hP (JP code _ _ (by assumption) hc r hr now (by omega)) ?_; rintro⟨x,i2,h2⟩ ⟨hx,aw⟩;(try dsimp only at hx aw); cbv)
   | (refine af.ex hP (QQ _ _) ?_; intro u hu; cbv)
   | (refine af.ex hP (Td _ _) ?_; intro u hu; cbv)
   | (refine af.ex hP (Te _ _ Lm) ?_; intro u hu; cbv)
   | (refine af.ex hP (S_ ⟨E.rules,_,_,ps,E.cabins,_,_⟩ ⟨_,_,_,_,_,_,_,_,_,_⟩ sj dB A5) ?_; intro u hu; cbv)
   | (refine af.ex hP (Tb ps ⟨_,_,_,_,_,_,_,_,_,_⟩ Lm) ?_; intro u hu; cbv)
   | (refine aD.ex hP (cT code _ _ _ (by assumption) hc) ?_; rintro⟨x,i2,h2⟩ ⟨hx,aw⟩;(try dsimp only at hx aw); cbv)
   | (refine aD.ex hP (eS code _ _ _ (by assumption) hc) ?_; rintro⟨x,i2,h2⟩ ⟨hx,aw⟩;(try dsimp only at hx aw); cbv)
   | (refine aD.ex hP (eQ code _ _ _ (by decide) (by assumption) hc) ?_; rintro⟨x,i2,h2⟩ ⟨hx,aw⟩;(try dsimp only at hx aw); cbv)
   | (refine Br.yes (by first | assumption | exact decide_eq_true (by assumption)) ?_; cbv)
   | (refine Br.no (by first | assumption | exact decide_eq_false (by assumption)) ?_; cbv)
   | (refine Br.dec (fun hb=> ?_) (fun hb=> ?_) <;> cbv)
   | (refine Br.split (fun hb=> ?_) (fun hb=> ?_) <;> cbv)
   | (refine Ar.exact (by omega) (by omega) ?_; cbv)
   | (refine Ix.ex (by omega) (by(try simp only[nc] at *); omega) ?_; intro y; cbv)
   | (refine Ar.any ?_; intro u; cbv)
   | (refine aW.mk ?_ (by kernel_rfl) ?_; rotate_left; cbv; rotate_right) | refine⟨rfl, ?_⟩ | refine And.intro ?_ ?_ | exact rfl | fail
 any_goals
   apply aL.QP
   · cbv
     (try dsimp only)
     repeat' first | exact trivial | refine⟨rfl, ?_⟩ | fail
   · (try dsimp only)
     exact⟨by omega,by omega,by omega,by omega,by omega,by omega,by omega,by assumption⟩
   · (try dsimp only)
     omega
 apply aR.Ak (A:=List ba) (B:=List Int) (C:=Int) (D:=Int) (E:=Int) (fun cs td j i h=>[(0,pN 0),(2,pN 2),(3,pN 3),(4,pN 4),(10,iT fun _=>j)]) (fun cs td j i h=>[(0,qE i h),(1,qF code),(2, .box E5),(3, .box (E6 5 r)),(4, .box (E7 6 7 8 9 10 E.rules now aA)),(5,aH .int fun _=>r.seats),(6,aH .int fun _=>E.rules.seats),(7,aH .aE fun _=>ps),(8,aH .ag fun _=>cs),(9,aH .int fun _=>td),(10,aH .int fun _=>E.aq)]) (fun cs td j i h=>kK r.seats.length cs∧td.length≤j.toNat∧0≤j∧j.toNat≤r.seats.length∧dI code i) (fun cs td j i h _=>r.seats.length - j.toNat)
 · cbv
   repeat' first | exact trivial | refine⟨rfl, ?_⟩ | fail
 · exact⟨e3,by omega,by omega,Nat.zero_le _,q8⟩
 rintro cs td k WJ WK ⟨p1,p2,p3,p4,p5⟩
 have pJ:td.length≤aN:=Nat.le_trans p2 (Nat.le_trans p4 hs);have p0:=p1.1;have Th:ps.length≤16:=by omega
 cbv
 repeat' first
   | exact trivial
   | (refine Pz.mk ?_; cbv)
   | (refine af.ex hP (S1 r ps k _ _ hs Th ⟨p3,by have ek:k<(cs.length:Int):=(by assumption); omega⟩ (by omega) Tg) ?_; intro c Ti; cbv)
   | (refine Ob.mk ⟨p3,by assumption⟩ ?_; cbv)
   | (refine Sv.sat (kK r.seats.length) (p1.set _ Ti) ?_; intro u hu; cbv)
   | (refine af.ex hP (Tc td _ pJ) ?_; intro u hu; cbv)
   | (refine aD.ex hP (cT code _ _ _ (by assumption) hc) ?_; rintro⟨x,i2,h2⟩ ⟨hx,aw⟩;(try dsimp only at hx aw); cbv)
   | (refine aD.ex hP (eS code _ _ _ (by assumption) hc) ?_; rintro⟨x,i2,h2⟩ ⟨hx,aw⟩;(try dsimp only at hx aw); cbv)
   | (refine aD.ex hP (eQ code _ _ _ (by decide) (by assumption) hc) ?_; rintro⟨x,i2,h2⟩ ⟨hx,aw⟩;(try dsimp only at hx aw); cbv)
   | (refine Br.yes (by first | assumption | exact decide_eq_true (by assumption)) ?_; cbv)
   | (refine Br.no (by first | assumption | exact decide_eq_false (by assumption)) ?_; cbv)
   | (refine Br.dec (fun hb=> ?_) (fun hb=> ?_) <;> cbv)
   | (refine Br.split (fun hb=> ?_) (fun hb=> ?_) <;> cbv)
   | (refine Ar.exact (by omega) (by omega) ?_; cbv)
   | (refine Ix.ex (by omega) (by(try simp only[nc] at *); omega) ?_; intro y; cbv)
   | (refine Ar.any ?_; intro u; cbv)
   | (refine aW.mk ?_ (by kernel_rfl) ?_; rotate_left; cbv; rotate_right) | refine⟨rfl, ?_⟩ | refine And.intro ?_ ?_ | exact rfl | fail
 any_goals
   apply aL.Ef
   · cbv
     (try dsimp only)
     repeat' first | exact trivial | refine⟨rfl, ?_⟩ | fail
   · (try dsimp only)
     exact⟨by assumption,by omega,by omega,by have ek:k<(cs.length:Int):=(by assumption); omega,by assumption⟩
   · (try dsimp only)
     have ek:k<(cs.length:Int):=(by assumption); omega
 apply aR.DU (A:=List Int) (B:=Int) (C:=Int) (D:=Int) (fun js j i h=>[(0,pN 0),(2,pN 2),(3,pN 3),(4,pN 4),(11,iT fun _=>j)]) (fun js j i h=>[(0,qE i h),(1,qF code),(2, .box E5),(3, .box (E6 5 r)),(4, .box (E7 6 7 8 9 10 E.rules now aA)),(5,aH .int fun _=>r.seats),(6,aH .int fun _=>E.rules.seats),(7,aH .aE fun _=>ps),(8,aH .ag fun _=>cs),(9,aH .int fun _=>td),(10,aH .int fun _=>js)]) (fun js j i h=>js.length=E.aq.length∧0≤j∧j.toNat≤E.aq.length∧dI code i) (fun js j i h _=>E.aq.length - j.toNat)
 · cbv
   repeat' first | exact trivial | refine⟨rfl, ?_⟩ | fail
 · exact⟨rfl,by omega,Nat.zero_le _,p5⟩
 rintro js m Tj Tk ⟨s1,s2,s3,s4⟩
 cbv
 repeat' first
   | exact trivial
   | (refine Pz.mk ?_; cbv)
   | (refine Ob.mk ⟨s2,by assumption⟩ ?_; cbv)
   | (refine Sv.len ?_; intro u hu; simp only[List.length_set] at hu; cbv)
   | (refine aD.ex hP (cT code _ _ _ (by assumption) hc) ?_; rintro⟨x,i2,h2⟩ ⟨hx,aw⟩;(try dsimp only at hx aw); cbv)
   | (refine aD.ex hP (eS code _ _ _ (by assumption) hc) ?_; rintro⟨x,i2,h2⟩ ⟨hx,aw⟩;(try dsimp only at hx aw); cbv)
   | (refine aD.ex hP (eQ code _ _ _ (by decide) (by assumption) hc) ?_; rintro⟨x,i2,h2⟩ ⟨hx,aw⟩;(try dsimp only at hx aw); cbv)
   | (refine Br.yes (by first | assumption | exact decide_eq_true (by assumption)) ?_; cbv)
   | (refine Br.no (by first | assumption | exact decide_eq_false (by assumption)) ?_; cbv)
   | (refine Br.dec (fun hb=> ?_) (fun hb=> ?_) <;> cbv)
   | (refine Br.split (fun hb=> ?_) (fun hb=> ?_) <;> cbv)
   | (refine Ar.exact (by omega) (by omega) ?_; cbv)
   | (refine Ix.ex (by omega) (by(try simp only[nc] at *); omega) ?_; intro y; cbv)
   | (refine Ar.any ?_; intro u; cbv)
   | (refine aW.mk ?_ (by kernel_rfl) ?_; rotate_left; cbv; rotate_right) | refine⟨rfl, ?_⟩ | refine And.intro ?_ ?_ | exact rfl | fail
 any_goals
   apply aL.QO
   · cbv
     (try dsimp only)
     repeat' first | exact trivial | refine⟨rfl, ?_⟩ | fail
   · (try dsimp only)
     exact⟨by omega,by omega,by have ek:m<(js.length:Int):=(by assumption); omega,by assumption⟩
   · (try dsimp only)
     have ek:m<(js.length:Int):=(by assumption); omega
 have HR:uc ⟨E.rules,now,aA,ps,cs,td,js⟩:=⟨by rw[e1]; exact hr,⟨hn.1,by dsimp only; omega⟩,⟨q4,by dsimp only; omega⟩,by dsimp only; omega,p1.1.trans (by rw[e1]),p1.2,by dsimp only; omega,by dsimp only; omega⟩;refine⟨(⟨E.rules,now,aA,ps,cs,td,js⟩,Tj,Tk),⟨HR,s4⟩, ?_⟩;cbv
 repeat' first | exact trivial | refine⟨rfl, ?_⟩ | fail
def gu (h:ai):Prop:=a_ h∧h.ae.length≤20∧h.todo.length≤20∧h.aq.length≤20∧h.rules.seats.length≤3∧h.rules.size≤6∧h.rules.bX≤5∧h.rules.bm≤3
theorem Ln {A B:ai × Int × Int→Prop} (s:List Int) (a1 a2 a3 a4 a5 a6 a7 a8 now aA:Int) (ps:List ax) (cs:List ba) (td js:List Int) (i h:Int) (H:B (⟨⟨s,a1,a2,a3,a4,a5,a6,a7,a8⟩,now,aA,ps,cs,td,js⟩,i,h)) (H1:A (⟨⟨s,a1,a2,a3,a4,a5,a6,a7,a8⟩,now,aA,ps,cs,td,js⟩,i,h)):∃x,A x∧B x:=⟨_,H1,H⟩
theorem kK.small {n:Nat} {l:List ba} (h:kK n l) (hn:n≤16):ph l:=⟨by rw[h.1]; exact Nat.le_trans hn (by decide),fun c hc=>(h.2 c hc).small⟩
theorem kK.take {n:Nat} {l:List ba} (h:kK n l) (hn:n≤16) (k:Nat):ph ((l.take k).drop (Int.toNat 0)):=by
 refine⟨?_,fun c hc=>(h.2 c (List.mem_of_mem_take (List.mem_of_mem_drop hc))).small⟩;rw[List.length_drop,List.length_take,h.1];exact Nat.le_trans (Nat.sub_le _ _) (Nat.le_trans (Nat.min_le_right _ _) (Nat.le_trans hn (by decide)))
theorem uc.draw {h:ai} (g:uc h):gu h:=by
 have:=g.ru.2.2.2.2.2.2.2.2.1.2;have hs:h.rules.seats.length≤3:=this;exact⟨⟨Nat.le_trans hs (by decide),Nat.le_trans g.aE (by decide),kK.small (n:=h.rules.seats.length) ⟨g.fL,g.ag⟩ (by omega),Nat.le_trans g.todo (by decide),Nat.le_trans g.aq (by decide)⟩,Nat.le_trans g.aE (by decide),Nat.le_trans g.todo (by decide),Nat.le_trans g.aq (by decide),hs,g.ru.2.2.1.2,g.ru.1.2,g.ru.2.2.2.2.2.2.2.1.2⟩
set_option maxHeartbeats 8000000 in
theorem A7 (code:List UInt8) (i h:Int) (hi:dI code i) (hc:code.length≤aN):bJ Tryz.prog 83 [cP] (f_ code i h) (cJ code gu fun h=>kB fun _=>h):=by
 unfold cJ;refine eP (pk:=[0,1]) au Tryz.func83 rfl rfl (fr:=true) (fun _=>by kernel_rfl) (fun _=>rfl) rfl rfl fun P hP hA hB=> ?_;cbv;refine aD.ex hP (E8 code i h hi hc) fun⟨g,i1,h1⟩ ⟨hg,lI⟩=> ?_;cbv;have hg:uc g:=hg;obtain⟨d1,d2,d3,d4,d5,d6,d7,d8⟩:=hg;have hs:g.rules.seats.length≤3∧1≤g.rules.seats.length:=⟨d1.2.2.2.2.2.2.2.2.1.2,d1.2.2.2.2.2.2.2.2.1.1⟩;have dw:kK g.rules.seats.length g.cabins:=⟨d5,d6⟩;have o1:(g.todo.length+1)*8≤140737488355328:=by omega
 have o2:(g.aq.length+1)*8≤140737488355328:=by omega
 have o3:(g.ae.length+1)*80≤140737488355328:=by omega
 have o4:0≤(0:Int)∧(0:Int)<(g.cabins.length:Int):=by omega
 have o5: -9223372036854775808≤(g.cabins.length:Int) - 1:=by omega
 have o6:(g.cabins.length:Int) - 1≤9223372036854775807:=by omega
 have o7:0≤(0:Int)∧(0:Int)≤(g.cabins.length:Int) - 1∧(g.cabins.length:Int) - 1≤(g.cabins.length:Int):=by omega
 repeat' first
  | exact trivial
  | (refine Pz.mk ?_; cbv)
  | (refine aD.ex hP (QL code _ _ (by assumption) hc g.rules d1 g.now (by omega)) ?_; rintro⟨x,i2,h2⟩ ⟨hx,aw⟩;(try dsimp only at hx aw); cbv)
  | (refine aD.ex hP (SX code _ _ (by assumption) hc) ?_; rintro⟨x,i2,h2⟩ ⟨hx,aw⟩;(try dsimp only at hx aw); cbv)
  | (refine Ob.mk (o1) ?_; cbv)
  | (refine Ob.mk (o2) ?_; cbv)
  | (refine Ob.mk (o3) ?_; cbv)
  | (refine Ob.mk (o4) ?_; cbv)
  | (refine Ob.mk (o7) ?_; cbv)
  | (refine Ar.exact o5 o6 ?_; cbv)
  | (refine Sv.sat (kK g.rules.seats.length) (dw.set _ (by assumption)) ?_; intro u hu; cbv)
  | (refine Sv.len ?_; intro u hu; simp only[List.length_set] at hu; cbv)
  | (refine Ob.mk (by(try simp only[nc] at *); omega) ?_; cbv)
  | (refine aD.ex hP (cT code _ _ _ (by assumption) hc) ?_; rintro⟨x,i2,h2⟩ ⟨hx,aw⟩;(try dsimp only at hx aw); cbv)
  | (refine aD.ex hP (eS code _ _ _ (by assumption) hc) ?_; rintro⟨x,i2,h2⟩ ⟨hx,aw⟩;(try dsimp only at hx aw); cbv)
  | (refine aD.ex hP (eQ code _ _ _ (by decide) (by assumption) hc) ?_; rintro⟨x,i2,h2⟩ ⟨hx,aw⟩;(try dsimp only at hx aw); cbv)
  | (refine Br.yes (by first | assumption | exact decide_eq_true (by assumption)) ?_; cbv)
  | (refine Br.no (by first | assumption | exact decide_eq_false (by assumption)) ?_; cbv)
  | (refine Br.dec (fun hb=> ?_) (fun hb=> ?_) <;> cbv)
  | (refine Br.split (fun hb=> ?_) (fun hb=> ?_) <;> cbv)
  | (refine Ar.exact (by omega) (by omega) ?_; cbv)
  | (refine Ix.ex (by omega) (by(try simp only[nc] at *); omega) ?_; intro y; cbv)
  | (refine Ar.any ?_; intro u; cbv)
  | (refine aW.mk ?_ (by kernel_rfl) ?_; rotate_left; cbv; rotate_right) | refine⟨rfl, ?_⟩ | refine And.intro ?_ ?_ | exact rfl | fail
 all_goals
  apply Ln
  · cbv
    (try dsimp only)
    repeat' first | exact trivial | refine⟨rfl, ?_⟩ | fail
  · refine⟨⟨⟨Nat.le_trans hs.1 (by decide), ?_, ?_, ?_, ?_⟩, ?_, ?_, ?_,hs.1,d1.2.2.1.2,d1.1.2,d1.2.2.2.2.2.2.2.1.2⟩,by assumption⟩ <;> first | exact dw.small (by omega) | exact kK.small (by assumption:kK g.rules.seats.length _) (by omega) | exact dw.take (by omega) _ | (refine Nat.le_trans ?_ (by decide:20≤aN);(try simp only[List.length_append,List.length_singleton,List.length_set,List.length_cons,List.length_nil]); omega) | (dsimp only;(try simp only[List.length_append,List.length_singleton,List.length_set,List.length_cons,List.length_nil]); omega)
end Go.Proofs.YtpklefhdkkegiaaGreat

