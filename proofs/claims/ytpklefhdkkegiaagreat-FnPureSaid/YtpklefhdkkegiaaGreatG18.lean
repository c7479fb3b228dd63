/- Parts of a proof. No conditions. -/

import Derived.Test.YtpklefhdkkegiaaGreatG17
import Derived.Test.YtpklefhdkkegiaaGreatGTab
import Derived.Test.YtpklefhdkkegiaaGreatG05
import Derived.WalkKit
import Derived.Deep.RegionLaw
import Derived.Lib.SliceRun
import Derived.Shelf.RegionOpenPlain
import Derived.Lib.JoinLaws
import Derived.Shelf.Spec.SlicesInsert
set_option linter.unusedSimpArgs false
set_option linter.unusedVariables false
namespace Go.Proofs.YtpklefhdkkegiaaGreat
open Go Go.RowKit Go.Lib Go.Shelf
set_option maxRecDepth 100000
set_option maxHeartbeats 1000000 in
theorem N3 (w:World) (b off c n i:Nat) (hi:i<n) (G8:n≤c) (W1 W2:World) (A:Addr) (hA:(if c=i+1 then some (⟨b,off,none⟩:Addr) else some ⟨b,off+(i+1)*4,none⟩)=some A)
  (gL:∀ty,(Builtin.append_ #[49,49] ty #[.slice (some ⟨b,off,none⟩) i c, .slice (some A) (n - (i+1)) (c - (i+1))]).run Tryz.prog w.drew = .ok (.slice (some ⟨b,off,none⟩) (n - 1) c) W1)
  (eJ:∀ty c',(Builtin.clear_ #[49] ty #[.slice (some ⟨b,off+(n - 1)*4,none⟩) 1 c']).run Tryz.prog W1 = .ok (.tuple #[]) W2) :
  Calls Tryz.prog 194 #[.slice (some ⟨b,off,none⟩) n c, .int .i64 i, .int .i64 ((i:Int)+1)] w fun e w'=>e = .returned (.slice (some ⟨b,off,none⟩) (n - 1) c)∧w'=W2:=by
 have n1:((i:Int)+1).toNat=i+1:=by omega
 have n2:((i:Int)).toNat=i:=by omega
 have n3:(i:Int)≤(i:Int)+1:=by omega
 have n4:(i:Int)+1≤(n:Int):=by omega
 have n5:(n:Int)≤(c:Int):=by omega
 have n6:(0:Int)≤(i:Int)+1:=by omega
 have n7:¬((i:Int)=(i:Int)+1):=by omega
 have n8:i≤c:=by omega
 have n9:n - (n - 1)=1:=by omega
 have G9:¬(c=n - 1):=by omega
 have G_:((n - 1:Nat):Int)≤(n:Int):=by omega
 have mixed:Tryz.prog.follows Departure.mixedOrders=true:=by kernel_rfl
 go_enter Tryz.func194,Tryz.ntmps194
 go_wp2
 go_region_law_o (refine BF rfl _ _ _ _ rfl _ _ (by simp[Act.eval,Act.put]) (by simp[Act.eval,Act.put]) (gL _) ?_)
 go_wp2
 go_ret
 exact⟨rfl,rfl⟩
theorem N4 (xs:List Entry) (i:Nat) (hi:i<xs.length):bY Tryz.prog 194 [oN 0,nT fun _=>i,iT fun _=>(i:Int)+1] [(0,aK .aH fun _=>xs)] (eV (lR .aH fun _=>xs.take i++xs.drop (i+1)) []):=by
 refine sV ⟨_,Tryz.func194,rfl,rfl⟩ (fun k hk=>by(have q:k=0:=by simpa [av] using hk); omega) fun w vs ρ hr ha=> ?_;obtain⟨aY,hv⟩:=ha;have e0:vs.getD 0 Go.undef=(ρ 0).1:=(hv 0 _ rfl).2;have e1:vs.getD 1 Go.undef = .int .i64 (i:Int):=oB (hv 1 _ rfl);have e2:vs.getD 2 Go.undef = .int .i64 ((i:Int)+1):=oB (hv 2 _ rfl);have fV:=sW (vs:=vs) aY;rw[e0,e1,e2] at fV;have ho:bc w.heap (.list .aH fun _=>xs) (ρ 0).1 (ρ 0).2:=hr.af 0 _ List.mem_cons_self;have fE:∀x,aP ρ [(0,aK .aH fun _=>xs)] x=(ρ 0).2 x:=fun x=>by simp[aP]
 rcases ho.dU with⟨_,h,_⟩ | ⟨b,off,c,cs,e,fz,S,dq,hp,hb,hf,hl,hm,dm,bZ⟩
 · have h:xs = []:=h;rw[h] at hi; simp at hi
 have hl:xs.length≤c:=hl;have hm:xs.length≤cm:=hm;have bZ:bj w.heap .aH xs (fun q=>cs.getD (off+q) Go.undef) S:=bZ;obtain⟨ht,inf,z,dY,da,_,hz,qe,iF⟩:=iy aD (T:=49) (E:= .aH) rfl;have eE:w.drew.heap[b]? = some (.cells cs e fz):=hb;have nQ:bj w.drew.heap .aH xs (fun q=>cs.getD (off+q) Go.undef) S:=bZ;obtain⟨A,news,hA,hn,di,dG,ry⟩:=oC (P:=Tryz.prog) (E:= .aH) (xs:=xs) (k:=i+1) hi hl eE dm nQ ht;have vu:i+(xs.length - (i+1))≤c:=by omega
 obtain⟨W1,g1,g2,g3,g4⟩:=BG (P:=Tryz.prog) (n:=i) eE hf (by rw[da]; exact ry) (by rw[da]; exact hn) dG ht dY vu (by rw[da]; exact dm);rw[da] at g2;have mM:NF (cZ cs (off+i*an.sz .aH) news) fz:=by rcases hf with h | h; exact .inl h; exact .inr (by rw[dk]; exact h)
 have e3:xs.length*an.sz .aH≤c*an.sz .aH:=Nat.mul_le_mul_right _ hl
 have e4:(xs.length - 1)*an.sz .aH+an.sz .aH=xs.length*an.sz .aH:=by
   have:xs.length=(xs.length - 1)+1:=by omega
   rw[show xs.length*an.sz .aH=((xs.length - 1)+1)*an.sz .aH by rw[←this],Nat.add_mul]; omega
 obtain⟨W2,c1,c2,c3,c4⟩:=BH (P:=Tryz.prog) (z:=z) (o:=off+(xs.length - 1)*an.sz .aH) g2 mM ht (fun w=>by simp[zeroValue,typeInfo,dY,hz]) (fun u hu=>Z.BJ qe (by decide) hu) (by rw[dk,iF]; omega);have b_:=N3 w b off c xs.length i hi hl W1 W2 A hA (fun ty=>by rw[g1 ty]; congr 2; omega) c1;rw[fV,dq];refine b_.mono fun e w' he=> ?_;obtain⟨rfl,rfl⟩:=he;refine⟨_,bB b (xs.length - 1) (an.sz .aH) fun _ _ _=>0,rfl, ?_,(show Ext w W1 from⟨g4.sz,g4.os,g4.out,g4.fz⟩).trans c4,fun x hx h0=> ?_,fun x hx=> ?_,fun x=> ?_⟩
 · exact BI (E:= .aH) (w:=w) (w1:=W1) rfl hi hf hl hm dm bZ hn di (by simpa using iF) g2 c2
 · rw[fE] at h0;have gY:x≠b:=fun he=>by rw[hp,he] at h0; have:=iM b xs.length (an.sz .aH) S; omega
   rw[c3 x gY,g3 x gY]; rfl
 · rw[fE,hp];rw[ik];simp only[bB]
   split <;> omega
 · rw[ik]
   split <;> omega
set_option maxHeartbeats 1000000 in
theorem N5 (w:World) (b off c n i:Nat) (hi:i<n) (G8:n≤c) (W1 W2:World) (A:Addr) (hA:(if c=i+1 then some (⟨b,off,none⟩:Addr) else some ⟨b,off+(i+1)*2,none⟩)=some A)
  (gL:∀ty,(Builtin.append_ #[101,101] ty #[.slice (some ⟨b,off,none⟩) i c, .slice (some A) (n - (i+1)) (c - (i+1))]).run Tryz.prog w.drew = .ok (.slice (some ⟨b,off,none⟩) (n - 1) c) W1)
  (eJ:∀ty c',(Builtin.clear_ #[101] ty #[.slice (some ⟨b,off+(n - 1)*2,none⟩) 1 c']).run Tryz.prog W1 = .ok (.tuple #[]) W2) :
  Calls Tryz.prog 233 #[.slice (some ⟨b,off,none⟩) n c, .int .i64 i, .int .i64 ((i:Int)+1)] w fun e w'=>e = .returned (.slice (some ⟨b,off,none⟩) (n - 1) c)∧w'=W2:=by
 have n1:((i:Int)+1).toNat=i+1:=by omega
 have n2:((i:Int)).toNat=i:=by omega
 have n3:(i:Int)≤(i:Int)+1:=by omega
 have n4:(i:Int)+1≤(n:Int):=by omega
 have n5:(n:Int)≤(c:Int):=by omega
 have n6:(0:Int)≤(i:Int)+1:=by omega
 have n7:¬((i:Int)=(i:Int)+1):=by omega
 have n8:i≤c:=by omega
 have n9:n - (n - 1)=1:=by omega
 have G9:¬(c=n - 1):=by omega
 have G_:((n - 1:Nat):Int)≤(n:Int):=by omega
 have mixed:Tryz.prog.follows Departure.mixedOrders=true:=by kernel_rfl
 go_enter Tryz.func233,Tryz.ntmps233
 go_wp2
 go_region_law_o (refine BF rfl _ _ _ _ rfl _ _ (by simp[Act.eval,Act.put]) (by simp[Act.eval,Act.put]) (gL _) ?_)
 go_wp2
 go_ret
 exact⟨rfl,rfl⟩
theorem N6 (xs:List ay) (i:Nat) (hi:i<xs.length):bY Tryz.prog 233 [oN 0,nT fun _=>i,iT fun _=>(i:Int)+1] [(0,aK .aI fun _=>xs)] (eV (lR .aI fun _=>xs.take i++xs.drop (i+1)) []):=by
 refine sV ⟨_,Tryz.func233,rfl,rfl⟩ (fun k hk=>by(have q:k=0:=by simpa [av] using hk); omega) fun w vs ρ hr ha=> ?_;obtain⟨aY,hv⟩:=ha;have e0:vs.getD 0 Go.undef=(ρ 0).1:=(hv 0 _ rfl).2;have e1:vs.getD 1 Go.undef = .int .i64 (i:Int):=oB (hv 1 _ rfl);have e2:vs.getD 2 Go.undef = .int .i64 ((i:Int)+1):=oB (hv 2 _ rfl);have fV:=sW (vs:=vs) aY;rw[e0,e1,e2] at fV;have ho:bc w.heap (.list .aI fun _=>xs) (ρ 0).1 (ρ 0).2:=hr.af 0 _ List.mem_cons_self;have fE:∀x,aP ρ [(0,aK .aI fun _=>xs)] x=(ρ 0).2 x:=fun x=>by simp[aP]
 rcases ho.dU with⟨_,h,_⟩ | ⟨b,off,c,cs,e,fz,S,dq,hp,hb,hf,hl,hm,dm,bZ⟩
 · have h:xs = []:=h;rw[h] at hi; simp at hi
 have hl:xs.length≤c:=hl;have hm:xs.length≤cm:=hm;have bZ:bj w.heap .aI xs (fun q=>cs.getD (off+q) Go.undef) S:=bZ;obtain⟨ht,inf,z,dY,da,_,hz,qe,iF⟩:=iy aD (T:=101) (E:= .aI) rfl;have eE:w.drew.heap[b]? = some (.cells cs e fz):=hb;have nQ:bj w.drew.heap .aI xs (fun q=>cs.getD (off+q) Go.undef) S:=bZ;obtain⟨A,news,hA,hn,di,dG,ry⟩:=oC (P:=Tryz.prog) (E:= .aI) (xs:=xs) (k:=i+1) hi hl eE dm nQ ht;have vu:i+(xs.length - (i+1))≤c:=by omega
 obtain⟨W1,g1,g2,g3,g4⟩:=BG (P:=Tryz.prog) (n:=i) eE hf (by rw[da]; exact ry) (by rw[da]; exact hn) dG ht dY vu (by rw[da]; exact dm);rw[da] at g2;have mM:NF (cZ cs (off+i*an.sz .aI) news) fz:=by rcases hf with h | h; exact .inl h; exact .inr (by rw[dk]; exact h)
 have e3:xs.length*an.sz .aI≤c*an.sz .aI:=Nat.mul_le_mul_right _ hl
 have e4:(xs.length - 1)*an.sz .aI+an.sz .aI=xs.length*an.sz .aI:=by
   have:xs.length=(xs.length - 1)+1:=by omega
   rw[show xs.length*an.sz .aI=((xs.length - 1)+1)*an.sz .aI by rw[←this],Nat.add_mul]; omega
 obtain⟨W2,c1,c2,c3,c4⟩:=BH (P:=Tryz.prog) (z:=z) (o:=off+(xs.length - 1)*an.sz .aI) g2 mM ht (fun w=>by simp[zeroValue,typeInfo,dY,hz]) (fun u hu=>Z.BJ qe (by decide) hu) (by rw[dk,iF]; omega);have b_:=N5 w b off c xs.length i hi hl W1 W2 A hA (fun ty=>by rw[g1 ty]; congr 2; omega) c1;rw[fV,dq];refine b_.mono fun e w' he=> ?_;obtain⟨rfl,rfl⟩:=he;refine⟨_,bB b (xs.length - 1) (an.sz .aI) fun _ _ _=>0,rfl, ?_,(show Ext w W1 from⟨g4.sz,g4.os,g4.out,g4.fz⟩).trans c4,fun x hx h0=> ?_,fun x hx=> ?_,fun x=> ?_⟩
 · exact BI (E:= .aI) (w:=w) (w1:=W1) rfl hi hf hl hm dm bZ hn di (by simpa using iF) g2 c2
 · rw[fE] at h0;have gY:x≠b:=fun he=>by rw[hp,he] at h0; have:=iM b xs.length (an.sz .aI) S; omega
   rw[c3 x gY,g3 x gY]; rfl
 · rw[fE,hp];rw[ik];simp only[bB]
   split <;> omega
 · rw[ik]
   split <;> omega
set_option maxHeartbeats 1000000 in
theorem N7 (w:World) (b off c n i:Nat) (hi:i<n) (G8:n≤c) (W1 W2:World) (A:Addr) (hA:(if c=i+1 then some (⟨b,off,none⟩:Addr) else some ⟨b,off+(i+1)*10,none⟩)=some A)
  (gL:∀ty,(Builtin.append_ #[28,28] ty #[.slice (some ⟨b,off,none⟩) i c, .slice (some A) (n - (i+1)) (c - (i+1))]).run Tryz.prog w.drew = .ok (.slice (some ⟨b,off,none⟩) (n - 1) c) W1)
  (eJ:∀ty c',(Builtin.clear_ #[28] ty #[.slice (some ⟨b,off+(n - 1)*10,none⟩) 1 c']).run Tryz.prog W1 = .ok (.tuple #[]) W2) :
  Calls Tryz.prog 236 #[.slice (some ⟨b,off,none⟩) n c, .int .i64 i, .int .i64 ((i:Int)+1)] w fun e w'=>e = .returned (.slice (some ⟨b,off,none⟩) (n - 1) c)∧w'=W2:=by
 have n1:((i:Int)+1).toNat=i+1:=by omega
 have n2:((i:Int)).toNat=i:=by omega
 have n3:(i:Int)≤(i:Int)+1:=by omega
 have n4:(i:Int)+1≤(n:Int):=by omega
 have n5:(n:Int)≤(c:Int):=by omega
 have n6:(0:Int)≤(i:Int)+1:=by omega
 have n7:¬((i:Int)=(i:Int)+1):=by omega
 have n8:i≤c:=by omega
 have n9:n - (n - 1)=1:=by omega
 have G9:¬(c=n - 1):=by omega
 have G_:((n - 1:Nat):Int)≤(n:Int):=by omega
 have mixed:Tryz.prog.follows Departure.mixedOrders=true:=by kernel_rfl
 go_enter Tryz.func236,Tryz.ntmps236
 go_wp2
 go_region_law_o (refine BF rfl _ _ _ _ rfl _ _ (by simp[Act.eval,Act.put]) (by simp[Act.eval,Act.put]) (gL _) ?_)
 go_wp2
 go_ret
 exact⟨rfl,rfl⟩
theorem N8 (xs:List ax) (i:Nat) (hi:i<xs.length):bY Tryz.prog 236 [oN 0,nT fun _=>i,iT fun _=>(i:Int)+1] [(0,aK .aB fun _=>xs)] (eV (lR .aB fun _=>xs.take i++xs.drop (i+1)) []):=by
 refine sV ⟨_,Tryz.func236,rfl,rfl⟩ (fun k hk=>by(have q:k=0:=by simpa [av] using hk); omega) fun w vs ρ hr ha=> ?_;obtain⟨aY,hv⟩:=ha;have e0:vs.getD 0 Go.undef=(ρ 0).1:=(hv 0 _ rfl).2;have e1:vs.getD 1 Go.undef = .int .i64 (i:Int):=oB (hv 1 _ rfl);have e2:vs.getD 2 Go.undef = .int .i64 ((i:Int)+1):=oB (hv 2 _ rfl);have fV:=sW (vs:=vs) aY;rw[e0,e1,e2] at fV;have ho:bc w.heap (.list .aB fun _=>xs) (ρ 0).1 (ρ 0).2:=hr.af 0 _ List.mem_cons_self;have fE:∀x,aP ρ [(0,aK .aB fun _=>xs)] x=(ρ 0).2 x:=fun x=>by simp[aP]
 rcases ho.dU with⟨_,h,_⟩ | ⟨b,off,c,cs,e,fz,S,dq,hp,hb,hf,hl,hm,dm,bZ⟩
 · have h:xs = []:=h;rw[h] at hi; simp at hi
 have hl:xs.length≤c:=hl;have hm:xs.length≤cm:=hm;have bZ:bj w.heap .aB xs (fun q=>cs.getD (off+q) Go.undef) S:=bZ;obtain⟨ht,inf,z,dY,da,_,hz,qe,iF⟩:=iy aD (T:=28) (E:= .aB) rfl;have eE:w.drew.heap[b]? = some (.cells cs e fz):=hb;have nQ:bj w.drew.heap .aB xs (fun q=>cs.getD (off+q) Go.undef) S:=bZ;obtain⟨A,news,hA,hn,di,dG,ry⟩:=oC (P:=Tryz.prog) (E:= .aB) (xs:=xs) (k:=i+1) hi hl eE dm nQ ht;have vu:i+(xs.length - (i+1))≤c:=by omega
 obtain⟨W1,g1,g2,g3,g4⟩:=BG (P:=Tryz.prog) (n:=i) eE hf (by rw[da]; exact ry) (by rw[da]; exact hn) dG ht dY vu (by rw[da]; exact dm);rw[da] at g2;have mM:NF (cZ cs (off+i*an.sz .aB) news) fz:=by rcases hf with h | h; exact .inl h; exact .inr (by rw[dk]; exact h)
 have e3:xs.length*an.sz .aB≤c*an.sz .aB:=Nat.mul_le_mul_right _ hl
 have e4:(xs.length - 1)*an.sz .aB+an.sz .aB=xs.length*an.sz .aB:=by
   have:xs.length=(xs.length - 1)+1:=by omega
   rw[show xs.length*an.sz .aB=((xs.length - 1)+1)*an.sz .aB by rw[←this],Nat.add_mul]; omega
 obtain⟨W2,c1,c2,c3,c4⟩:=BH (P:=Tryz.prog) (z:=z) (o:=off+(xs.length - 1)*an.sz .aB) g2 mM ht (fun w=>by simp[zeroValue,typeInfo,dY,hz]) (fun u hu=>Z.BJ qe (by decide) hu) (by rw[dk,iF]; omega);have b_:=N7 w b off c xs.length i hi hl W1 W2 A hA (fun ty=>by rw[g1 ty]; congr 2; omega) c1;rw[fV,dq];refine b_.mono fun e w' he=> ?_;obtain⟨rfl,rfl⟩:=he;refine⟨_,bB b (xs.length - 1) (an.sz .aB) fun _ _ _=>0,rfl, ?_,(show Ext w W1 from⟨g4.sz,g4.os,g4.out,g4.fz⟩).trans c4,fun x hx h0=> ?_,fun x hx=> ?_,fun x=> ?_⟩
 · exact BI (E:= .aB) (w:=w) (w1:=W1) rfl hi hf hl hm dm bZ hn di (by simpa using iF) g2 c2
 · rw[fE] at h0;have gY:x≠b:=fun he=>by rw[hp,he] at h0; have:=iM b xs.length (an.sz .aB) S; omega
   rw[c3 x gY,g3 x gY]; rfl
 · rw[fE,hp];rw[ik];simp only[bB]
   split <;> omega
 · rw[ik]
   split <;> omega
end Go.Proofs.YtpklefhdkkegiaaGreat
namespace Go.Proofs.YtpklefhdkkegiaaGreat
open Go Go.RowKit Go.Lib Go.Shelf
set_option maxRecDepth 100000
set_option maxHeartbeats 4000000 in
theorem N9 (w W1:World) (base:Option Addr) (n c vb bT vc:Nat) (v':Value)
   (gL:∀ty,(Builtin.append_ #[49,49] ty #[.slice base n c, .slice (some ⟨vb,bT,none⟩) 1 vc]).run Tryz.prog w = .ok v' W1) :
   Calls Tryz.prog 230 #[.slice base n c, .int .i64 n, .slice (some ⟨vb,bT,none⟩) 1 vc] w fun e w'=>e = .returned v'∧w'=W1:=by
 go_enter Tryz.func230,Tryz.ntmps230
 cases base with
 | none=>
   go_wp2_with (at_builtin; refine Lib.wpList_append_run _ rfl _ _ _ _ rfl _ _ rfl rfl _ _ (gL _) ?_)
   all_goals (go_ret; exact⟨rfl,rfl⟩)
 | some a=>
   obtain⟨ab,ao,Ha⟩:=a
   go_wp2_with (at_builtin; refine Lib.wpList_append_run _ rfl _ _ _ _ rfl _ _ rfl rfl _ _ (gL _) ?_)
   all_goals (go_ret; exact⟨rfl,rfl⟩)
set_option maxHeartbeats 4000000 in
theorem N_ (w W1 W2:World) (b off n c i vb bT vc:Nat) (r1 r2:Value) (hi:i<n) (eT:n+1≤c) (vv:n+1≤9223372036854775807)
  (mb:∀lb cb,(callFunc 267 #[.slice (some ⟨vb,bT,none⟩) 1 vc, .slice (some ⟨b,off+(i+1)*4,none⟩) lb cb]).run Tryz.prog w = .ok (.value (.bool false)) w)
  (mc:∀ty dc sc,(Builtin.copy_ #[49,49] ty #[.slice (some ⟨b,off+(i+1)*4,none⟩) (n - i) dc, .slice (some ⟨b,off+i*4,none⟩) (n+1 - i) sc]).run Tryz.prog w.drew = .ok r1 W1)
  (me:∀ty dc,(Builtin.copy_ #[49,49] ty #[.slice (some ⟨b,off+i*4,none⟩) (n+1 - i) dc, .slice (some ⟨vb,bT,none⟩) 1 vc]).run Tryz.prog W1 = .ok r2 W2) :
  Calls Tryz.prog 230 #[.slice (some ⟨b,off,none⟩) n c, .int .i64 i, .slice (some ⟨vb,bT,none⟩) 1 vc] w fun e w'=>e = .returned (.slice (some ⟨b,off,none⟩) (n+1) c)∧w'=W2:=by
 have mixed:Tryz.prog.follows Departure.mixedOrders=true:=by kernel_rfl
 have vz:¬((i:Int)=(n:Int)):=by omega
 have pd:((i:Int)+1).toNat=i+1:=by omega
 have k_:((n:Int)+1).toNat=n+1:=by omega
 have dN:¬(c=i+1):=by omega
 have gk:(i:Int)≤(n:Int)+1:=by omega
 have lq:¬(c=i):=by omega
 have sY:¬((n:Int)+1>(c:Int)):=by omega
 have oD:¬((c:Int)<(n:Int)+1):=by omega
 have sZ:(0:Int)≤(n:Int)+1:=by omega
 have BN:(n:Int)+1≤(c:Int):=by omega
 have lz:(0:Int)≤(i:Int)+1:=by omega
 have vA:(i:Int)+1≤(n:Int)+1:=by omega
 have vB:(i:Int)≤(n:Int):=by omega
 have dF:i≤n:=by omega
 have vC:IntKind.i64.wrap ((i:Int)+1)=(i:Int)+1:=by rw[IntKind.wrap_i64]; omega
 have vD:IntKind.i64.wrap ((n:Int)+1)=(n:Int)+1:=by rw[IntKind.wrap_i64]; omega
 go_enter Tryz.func230,Tryz.ntmps230
 go_wp2_with (simp only[mb])
 go_region_law_o (refine step_copy_runI rfl _ _ _ _ rfl _ _ (by simp[Act.eval,Act.put]) (by simp[Act.eval,Act.put]) (mc _ _ _) ?_)
 go_wp2_with (at_builtin; refine wpList_copy_runI _ rfl _ _ _ _ rfl _ _ rfl rfl (me _ _) ?_)
 all_goals (go_ret; exact⟨rfl,rfl⟩)
set_option maxHeartbeats 4000000 in
theorem Oa (w W1 W2 W3:World) (b off n c i vb bT vc nb c2:Nat) (r1 r2:Value) (hi:i<n) (eT:c<n+1) (hc:n≤c) (vv:n+1≤9223372036854775807) (jy:n+1≤c2)
  (gL:∀ty,(Builtin.append_ #[49,3] ty #[.slice (some ⟨b,off,none⟩) i c, .int .i64 ((n:Int)+1 - (i:Int))]).run Tryz.prog w = .ok (.slice (some ⟨nb,0,none⟩) (n+1) c2) W1)
  (mc:∀ty dc,(Builtin.copy_ #[49,49] ty #[.slice (some ⟨nb,i*4,none⟩) (n+1 - i) dc, .slice (some ⟨vb,bT,none⟩) 1 vc]).run Tryz.prog W1 = .ok r1 W2)
  (me:∀ty dc sc,(Builtin.copy_ #[49,49] ty #[.slice (some ⟨nb,(i+1)*4,none⟩) (n - i) dc, .slice (some ⟨b,off+i*4,none⟩) (n - i) sc]).run Tryz.prog W2.drew = .ok r2 W3) :
  Calls Tryz.prog 230 #[.slice (some ⟨b,off,none⟩) n c, .int .i64 i, .slice (some ⟨vb,bT,none⟩) 1 vc] w fun e w'=>e = .returned (.slice (some ⟨nb,0,none⟩) (n+1) c2)∧w'=W3:=by
 have mixed:Tryz.prog.follows Departure.mixedOrders=true:=by kernel_rfl
 have vz:¬((i:Int)=(n:Int)):=by omega
 have pd:((i:Int)+1).toNat=i+1:=by omega
 have k_:((n:Int)+1).toNat=n+1:=by omega
 have dN:¬(c2=i+1):=by omega
 have lq:¬(c=i):=by omega
 have Hb:¬(c2=i):=by omega
 have sY:(c:Int)<(n:Int)+1:=by omega
 have lz:(0:Int)≤(i:Int)+1:=by omega
 have vA:(i:Int)+1≤(n:Int)+1:=by omega
 have gk:(i:Int)≤(n:Int)+1:=by omega
 have vB:(i:Int)≤(n:Int):=by omega
 have Hc:i≤c:=by omega
 have dF:i≤n:=by omega
 have vC:IntKind.i64.wrap ((i:Int)+1)=(i:Int)+1:=by rw[IntKind.wrap_i64]; omega
 have vD:IntKind.i64.wrap ((n:Int)+1)=(n:Int)+1:=by rw[IntKind.wrap_i64]; omega
 have Hd:IntKind.i64.wrap ((n:Int)+1 - (i:Int))=(n:Int)+1 - (i:Int):=by rw[IntKind.wrap_i64]; omega
 go_enter Tryz.func230,Tryz.ntmps230
 go_wp2_with (first | (at_builtin; refine Lib.wpList_append_run _ rfl _ _ _ _ rfl _ _ rfl rfl _ _ (gL _) ?_) | (at_builtin; refine wpList_copy_runI _ rfl _ _ _ _ rfl _ _ rfl rfl (mc _ _) ?_))
 go_region_law_o (refine step_copy_runI rfl _ _ _ _ rfl _ _ (by simp[Act.eval,Act.put]) (by simp[Act.eval,Act.put]) (me _ _ _) ?_)
 go_wp2
 all_goals (go_ret; exact⟨rfl,rfl⟩)
set_option maxHeartbeats 4000000 in
theorem He (xs:List Entry) (y:Entry) (i:Nat) (hi:i≤xs.length) (qf:xs.length≤aS):bY Tryz.prog 230 [oN 0,nT fun _=>i,oN 1] [(0,aK .aH fun _=>xs),(1,aK .aH fun _=>[y])] (eV (lR .aH fun _=>xs.take i++y::xs.drop i) []):=by
 refine sV ⟨_,Tryz.func230,rfl,rfl⟩ (fun k hk=>by(have q:k=0∨k=1:=by simpa [av] using hk); omega) fun w vs ρ hr ha=> ?_;have qf:xs.length≤1048576:=qf;obtain⟨aY,hv⟩:=ha;have e0:vs.getD 0 Go.undef=(ρ 0).1:=(hv 0 _ rfl).2;have e1:vs.getD 1 Go.undef = .int .i64 (i:Int):=oB (hv 1 _ rfl);have e2:vs.getD 2 Go.undef=(ρ 1).1:=(hv 2 _ rfl).2;have fV:=sW (vs:=vs) aY;rw[e0,e1,e2] at fV;have ho:bc w.heap (.list .aH fun _=>xs) (ρ 0).1 (ρ 0).2:=hr.af 0 _ List.mem_cons_self;have qg:bc w.heap (.list .aH fun _=>[y]) (ρ 1).1 (ρ 1).2:=hr.af 1 _ (List.mem_cons_of_mem _ List.mem_cons_self);have fE:∀x,aP ρ [(0,aK .aH fun _=>xs),(1,aK .aH fun _=>[y])] x=(ρ 0).2 x+(ρ 1).2 x:=fun x=>by simp[aP]
 have eS:∀x,(ρ 0).2 x+(ρ 1).2 x≤1:=fun x=>by have:=hr.sum x; rwa [fE] at this
 have jC:∀x,0<(ρ 0).2 x+(ρ 1).2 x→x<w.heap.size:=fun x hx=>by
   have:∃cs e fz,w.heap[x]? = some (.cells cs e fz):=by
     rcases Nat.eq_zero_or_pos ((ρ 0).2 x) with h | h
     · exact qg.there x (by omega)
     · exact ho.there x h
   obtain⟨_,_,_,h⟩:=this;rcases Nat.lt_or_ge x w.heap.size with h' | h'
   · exact h'
   · rw[Array.getElem?_eq_none h'] at h; cases h
 obtain⟨ht,inf,z,dY,da,fF,hz,qe,iF⟩:=iy aD (T:=49) (E:= .aH) rfl;rcases qg.dU with⟨_,h,_⟩ | ⟨vb,bT,vc,mf,ue,Hf,U,iG,qh,dN,kS,fK,xU,mg,iH⟩
 · cases h
 have fK:1≤vc:=fK;have iH:bj w.heap .aH [y] (fun q=>mf.getD (bT+q) Go.undef) U:=iH;have iG:(ρ 1).1 = .slice (some ⟨vb,bT,none⟩) 1 vc:=iG
 have fin:∀{v:Value} {q:Nat→Nat} {w':World},bc w'.heap (.list .aH fun _=>xs.take i++y::xs.drop i) v q→Ext w w'→(∀x,x<w.heap.size→(ρ 0).2 x=0→w'.heap[x]? = w.heap[x]?)→(∀x,x<w.heap.size→q x≤(ρ 0).2 x+(ρ 1).2 x)→(∀x,q x≤1)→
     ∃ v' q',Ending.returned v = .returned v'∧bc w'.heap (.list .aH fun _=>xs.take i++y::xs.drop i) v' q'∧Ext w w'∧(∀x,x<w.heap.size→aP ρ [(0,aK .aH fun _=>xs),(1,aK .aH fun _=>[y])] x=0→w'.heap[x]? = w.heap[x]?)∧(∀x,x<w.heap.size→q' x≤aP ρ [(0,aK .aH fun _=>xs),(1,aK .aH fun _=>[y])] x)∧∀x,q' x≤1:=fun a b c d e=>
   ⟨_,_,rfl,a,b,fun x hx h0=>c x hx (by rw[fE] at h0; omega),fun x hx=>by rw[fE]; exact d x hx,e⟩
 rcases Nat.lt_or_ge i xs.length with aR | ku
 · -- not at the end
   rcases ho.dU with⟨_,h,_⟩ | ⟨b,off,c,cs,e,fz,S,dq,hp,hb,hf,hl,hm,dm,bZ⟩
   · have h:xs = []:=h;rw[h] at aR; simp at aR
   have hl:xs.length≤c:=hl;have bZ:bj w.heap .aH xs (fun q=>cs.getD (off+q) Go.undef) S:=bZ
   have Hg:(ρ 0).2 b=1∧(ρ 1).2 b=0:=by
     have h1:=eS b;have h2:0<(ρ 0).2 b:=by rw[hp]; exact iM _ _ _ _
     omega
   have vE:0<(ρ 1).2 vb:=by rw[qh]; exact iM _ _ _ _
   have hne:vb≠b:=fun he=>by rw[he] at vE; omega
   have e3:xs.length*an.sz .aH≤c*an.sz .aH:=Nat.mul_le_mul_right _ hl;obtain⟨uA,us,Hh,eG,mK,ni,Hi⟩:=oC (P:=Tryz.prog) (E:= .aH) (xs:=[y]) (k:=0) (Nat.zero_le _) fK dN mg iH ht;have eG:us.length=an.sz .aH:=by rw[eG]; simp
   have qi:bj w.heap .aH [y] (fun q=>us.getD q Go.undef) U:=iH.cells fun q hq=>by
     have hq:q<an.sz .aH:=by simpa using hq
     rw[mK q (by rw[eG]; exact hq)]; simp
   have qj:∀j v,us[j]? = some v→w.cell? ((⟨vb,bT,none⟩:Addr).add j)=some v:=fun j v hj=>by
     have hq:=bD hj;have h3:us.getD j Go.undef=v:=by rw[List.getD_eq_getElem?_getD,hj]; rfl
     rw[←h3,mK j hq,dS,Nat.zero_mul,Nat.add_zero]
     exact cell_of dN (getD_some (by
       have:bT+vc*an.sz .aH≤mf.size:=mg;have h4:=Nat.mul_le_mul_right (an.sz .aH) fK;omega))
   have eE:w.drew.heap[b]? = some (.cells cs e fz):=hb;obtain⟨nA,news,mh,fW,di,jM,_⟩:=oC (P:=Tryz.prog) (w:=w) (E:= .aH) (xs:=xs) (k:=i) hi hl hb dm bZ ht
   have mh:nA=⟨b,off+i*an.sz .aH,none⟩:=by
     rw[if_neg (by omega)] at mh; exact(Option.some.inj mh).symm
   have e1:i*an.sz .aH+(xs.length - i)*an.sz .aH=xs.length*an.sz .aH:=by rw[←Nat.add_mul]; congr 1; omega
   have qk:∀j v,news[j]? = some v→w.cell? ((⟨b,off+i*an.sz .aH,none⟩:Addr).add j)=some v:=fun j v hj=>by
     have hq:=bD hj;have h3:news.getD j Go.undef=v:=by rw[List.getD_eq_getElem?_getD,hj]; rfl
     rw[←h3,di j hq,dS];rw[fW] at hq;exact cell_of hb (getD_some (by omega))
   have e4:(i+1)*an.sz .aH=i*an.sz .aH+an.sz .aH:=by rw[Nat.add_mul]; omega
   have e5:(xs.length+1)*an.sz .aH=xs.length*an.sz .aH+an.sz .aH:=by rw[Nat.add_mul]; omega
   rcases Nat.lt_or_ge c (xs.length+1) with hg | eT
   · -- a new row
     obtain⟨fo,jU,hold,vF⟩:=BM (P:=Tryz.prog) (w:=w.drew) (E:= .aH) (xs:=xs) (k:=i) hi hl eE dm bZ;have gw:0<xs.length+1 - i:=by omega
     have b_:=fun ty=>run_append_grow_zeros (P:=Tryz.prog) w 49 3 ty _ inf z .i64 .i64 ht Tryz.underlying3 dY hz (some ⟨b,off,none⟩) i c fo (by rw[da]; exact vF) (xs.length+1 - i) gw (by rw[da]; decide) (by omega) (by omega) (by rw[fF]; omega) (by
       rw[fF]; exact growslice_fits (by omega) (by omega))
     have iI:=grownCap_ge w (i+(xs.length+1 - i)) c 105;rw[show i+(xs.length+1 - i)=xs.length+1 by omega] at b_ iI;generalize grownCap w (xs.length+1) c 105=C at b_ iI;generalize lQ:fo.toArray++Builtin.zeroCells z.cells (xs.length+1 - i)++Builtin.zeroCells z.cells (C - (xs.length+1))=cells at b_
     have cV:cells.size=C*an.sz .aH:=by
       rw[←lQ];simp only[Array.size_append,List.size_toArray,Builtin.zeroCells,Array.size_map,Array.size_range,iF,jU];rw[←Nat.add_mul,←Nat.add_mul]
       congr 1; omega
     have bP:∀q,q<i*an.sz .aH→cells.getD q Go.undef=cs.getD (off+q) Go.undef:=fun q hq=>by
       rw[←hold q (by rw[jU]; exact hq),←lQ,Array.getD_eq_getD_getElem?,Array.getElem?_append_left (by simp[jU]; omega),Array.getElem?_append_left (by simp[jU]; omega),List.getElem?_toArray,List.getD_eq_getElem?_getD]
     obtain⟨W1,jV⟩:∃W1,W1=w.drew.alloc (.cells cells 105):=⟨_,rfl⟩;have k1:W1.heap[w.heap.size]? = some (.cells cells 105 (0,0)):=by rw[jV]; show(w.heap.push _)[w.heap.size]? = _; simp
     have k2:∀x,x<w.heap.size→W1.heap[x]? = w.heap[x]? :=fun x hx=>by rw[jV]; show(w.heap.push _)[x]? = _; rw[Array.getElem?_push,if_neg (Nat.ne_of_lt hx)]
     have k3:Ext w W1:=by rw[jV]; exact(show Ext w w.drew from Ext.of (Nat.le_refl _) rfl rfl fun _=>rfl).trans (oV w.drew _ _)
     have vG:vb<w.heap.size:=jC vb (by omega);have ql:b<w.heap.size:=jC b (by omega);have e6:(xs.length+1)*an.sz .aH≤C*an.sz .aH:=Nat.mul_le_mul_right _ iI
     obtain⟨W2,c1,c2,c3,c4⟩:=ly (P:=Tryz.prog) (w:=W1) (o:=i*an.sz .aH) (dLen:=xs.length+1 - i) (sLen:=1) (m:=1) (T2:=49) k1 (kK _) ht dY (by simp only[Nat.min_def]; split <;> omega) (by rw[da,eG,Nat.one_mul]) (fun j v hj=>by
       have:=qj j v hj;rw[dS] at this ⊢;rw[World.cell?,k2 vb vG]; exact this) (by rw[eG,cV]; omega) ni
     have vH:W2.drew.heap[w.heap.size]? = _:=c2
     obtain⟨W3,d1,d2,d3,d4⟩:=ly (P:=Tryz.prog) (w:=W2.drew) (o:=(i+1)*an.sz .aH) (dLen:=xs.length - i) (sLen:=xs.length - i) (m:=xs.length - i) (T2:=49) vH (kK _) ht dY (by simp only[Nat.min_def]; split <;> omega) (by rw[da,fW]) (fun j v hj=>by
       have:=qk j v hj;rw[dS] at this ⊢;rw[World.cell?,show W2.drew.heap[b]? = W2.heap[b]? from rfl,c3 b (Nat.ne_of_lt ql),k2 b ql]; exact this) (by rw[fW,dk,cV]; omega) jM
     have iJ:=Oa w W1 W2 W3 b off xs.length c i vb bT vc w.heap.size C _ _ aR hg hl (by omega) iI (fun ty=>by
       have:=b_ ty;rw[show((xs.length+1 - i:Nat):Int)=(xs.length:Int)+1 - (i:Int) by omega] at this;rw[jV]; exact this) (fun ty dc=>c1 ty dc vc) (fun ty dc sc=>d1 ty dc sc)
     rw[fV,dq,iG];refine iJ.mono fun e' w' he=> ?_;obtain⟨rfl,rfl⟩:=he;refine fin (BL (E:= .aH) rfl hi iI (by unfold cm; omega) cV bZ qi bP fW di eG d2) (k3.trans (c4.trans ((show Ext W2 W2.drew from Ext.of (Nat.le_refl _) rfl rfl fun _=>rfl).trans d4))) (fun x hx h0=> ?_) (fun x hx=> ?_) (fun x=> ?_)
     · rw[d3 x (Nat.ne_of_lt hx),show W2.drew.heap[x]? = W2.heap[x]? from rfl,c3 x (Nat.ne_of_lt hx),k2 x hx]
     · rw[ik,if_neg (Nat.ne_of_lt hx)]; omega
     · rw[ik]; split <;> omega
   · -- in place
     have e6:(xs.length+1)*an.sz .aH≤c*an.sz .aH:=Nat.mul_le_mul_right _ eT
     have mb:∀lb cb,(callFunc 267 #[.slice (some ⟨vb,bT,none⟩) 1 vc, .slice (some ⟨b,off+(i+1)*an.sz .aH,none⟩) lb cb]).run Tryz.prog w = .ok (.value (.bool false)) w:=fun lb cb=>by
       rw [run_callFunc_extern Tryz.func267 (by kernel_rfl) (by kernel_rfl) (by kernel_rfl) (e:=Extern.SlicesOverlaps.overlaps #[49,49] #[4]) (by kernel_rfl),
        Lib.run_overlaps_apart w 49 4 105 ht (an.sz .aH) (fun w=>by simp[sizeOf,typeInfo,dY,da]) ⟨vb,bT,none⟩ ⟨b,off+(i+1)*an.sz .aH,none⟩ 1 vc lb cb hne ue e mf.size cs.size (by simp[World.shape?,dN]) (by simp[World.shape?,hb]) (by
         have:0<an.sz .aH:=by decide
         omega) (sX dN kS _) (sX dN kS _)]
       rfl
     obtain⟨W1,c1,c2,c3,c4⟩:=ly (P:=Tryz.prog) (w:=w.drew) (o:=off+(i+1)*an.sz .aH) (dLen:=xs.length - i) (sLen:=xs.length+1 - i) (m:=xs.length - i) (T2:=49) eE hf ht dY (by simp only[Nat.min_def]; split <;> omega) (by rw[da,fW]) qk (by rw[fW]; omega) jM;have n_:NF (cZ cs (off+(i+1)*an.sz .aH) news) fz:=by rcases hf with h | h; exact .inl h; exact .inr (by rw[dk]; exact h)
     obtain⟨W2,d1,d2,d3,d4⟩:=ly (P:=Tryz.prog) (w:=W1) (o:=off+i*an.sz .aH) (dLen:=xs.length+1 - i) (sLen:=1) (m:=1) (T2:=49) c2 n_ ht dY (by simp only[Nat.min_def]; split <;> omega) (by rw[da,eG,Nat.one_mul]) (fun j v hj=>by
       have:=qj j v hj;rw[dS] at this ⊢;rw[World.cell?,c3 vb hne]; exact this) (by rw[eG,dk]; omega) ni
     have iJ:=N_ w W1 W2 b off xs.length c i vb bT vc _ _ aR eT (by omega) mb (fun ty dc sc=>c1 ty dc sc) (fun ty dc=>d1 ty dc vc);rw[fV,dq,iG];refine iJ.mono fun e' w' he=> ?_;obtain⟨rfl,rfl⟩:=he;refine fin (BK (E:= .aH) rfl hi hf eT (by unfold cm; omega) dm bZ qi fW di eG d2) ((show Ext w w.drew from Ext.of (Nat.le_refl _) rfl rfl fun _=>rfl).trans (c4.trans d4)) (fun x hx h0=> ?_) (fun x hx=> ?_) (fun x=> ?_)
     · have gY:x≠b:=fun he=>by rw[he] at h0; omega
       rw[d3 x gY,c3 x gY]; rfl
     · rw[ik]
       split
       · rename_i he; rw[he]; omega
       · omega
     · rw[ik]; split <;> omega
 · -- at the end
   obtain rfl:i=xs.length:=by omega
   obtain⟨news,hN⟩:=hZ.of (c:=vc) dN (by have:=Nat.mul_le_mul_right (an.sz .aH) fK; simpa using Nat.le_trans (Nat.add_le_add_left this bT) mg) iH;obtain⟨v,p,w',g1,g2,g3,g4,g5,g6⟩:=uf (P:=Tryz.prog) (w:=w) (E:= .aH) (xs:=xs) (ys:=[y]) (vy:= .slice (some ⟨vb,bT,none⟩) 1 vc) (py:=(ρ 1).2) (T:=49) (T2:=49) (ty:=0) ho (hN.wH ht) (fun x=>by rw[qh]; simp only[bB,bQ]; exact Nat.le_add_left _ _) eS jC ht dY hz da iF (by rw[fF]; decide) (by rw[fF]; simp only[List.length_cons,List.length_nil]; omega)
   obtain⟨base,c,dq⟩:∃base c,(ρ 0).1 = .slice base xs.length c:=by
     rcases ho.dU with⟨h1,h2,_⟩ | ⟨b,off,c,cs,e,fz,S,dq,_⟩
     · have h2:xs = []:=h2;exact⟨none,0,by rw[h1,h2]; rfl⟩
     · exact⟨_,c,dq⟩
   have iJ:=N9 w w' base xs.length c vb bT vc v (fun ty=>by rw[dq] at g1; exact g1);rw[fV,dq,iG];refine iJ.mono fun e' qy he=> ?_;obtain⟨rfl,rfl⟩:=he;have e7:xs.take xs.length++y::xs.drop xs.length=xs ++ [y]:=by simp
   refine fin (by rw[e7]; exact g2) g3 g4 g5 (fun x=> ?_);rcases Nat.lt_or_ge x w.heap.size with h | h
   · exact Nat.le_trans (g5 x h) (eS x)
   · exact g6 x h
set_option maxHeartbeats 4000000 in
theorem Oc (w W1:World) (base:Option Addr) (n c vb bT vc:Nat) (v':Value)
   (gL:∀ty,(Builtin.append_ #[101,101] ty #[.slice base n c, .slice (some ⟨vb,bT,none⟩) 1 vc]).run Tryz.prog w = .ok v' W1) :
   Calls Tryz.prog 200 #[.slice base n c, .int .i64 n, .slice (some ⟨vb,bT,none⟩) 1 vc] w fun e w'=>e = .returned v'∧w'=W1:=by
 go_enter Tryz.func200,Tryz.ntmps200
 cases base with
 | none=>
   go_wp2_with (at_builtin; refine Lib.wpList_append_run _ rfl _ _ _ _ rfl _ _ rfl rfl _ _ (gL _) ?_)
   all_goals (go_ret; exact⟨rfl,rfl⟩)
 | some a=>
   obtain⟨ab,ao,Ha⟩:=a
   go_wp2_with (at_builtin; refine Lib.wpList_append_run _ rfl _ _ _ _ rfl _ _ rfl rfl _ _ (gL _) ?_)
   all_goals (go_ret; exact⟨rfl,rfl⟩)
set_option maxHeartbeats 4000000 in
theorem Od (w W1 W2:World) (b off n c i vb bT vc:Nat) (r1 r2:Value) (hi:i<n) (eT:n+1≤c) (vv:n+1≤9223372036854775807)
  (mb:∀lb cb,(callFunc 250 #[.slice (some ⟨vb,bT,none⟩) 1 vc, .slice (some ⟨b,off+(i+1)*2,none⟩) lb cb]).run Tryz.prog w = .ok (.value (.bool false)) w)
  (mc:∀ty dc sc,(Builtin.copy_ #[101,101] ty #[.slice (some ⟨b,off+(i+1)*2,none⟩) (n - i) dc, .slice (some ⟨b,off+i*2,none⟩) (n+1 - i) sc]).run Tryz.prog w.drew = .ok r1 W1)
  (me:∀ty dc,(Builtin.copy_ #[101,101] ty #[.slice (some ⟨b,off+i*2,none⟩) (n+1 - i) dc, .slice (some ⟨vb,bT,none⟩) 1 vc]).run Tryz.prog W1 = .ok r2 W2) :
  Calls Tryz.prog 200 #[.slice (some ⟨b,off,none⟩) n c, .int .i64 i, .slice (some ⟨vb,bT,none⟩) 1 vc] w fun e w'=>e = .returned (.slice (some ⟨b,off,none⟩) (n+1) c)∧w'=W2:=by
 have mixed:Tryz.prog.follows Departure.mixedOrders=true:=by kernel_rfl
 have vz:¬((i:Int)=(n:Int)):=by omega
 have pd:((i:Int)+1).toNat=i+1:=by omega
 have k_:((n:Int)+1).toNat=n+1:=by omega
 have dN:¬(c=i+1):=by omega
 have gk:(i:Int)≤(n:Int)+1:=by omega
 have lq:¬(c=i):=by omega
 have sY:¬((n:Int)+1>(c:Int)):=by omega
 have oD:¬((c:Int)<(n:Int)+1):=by omega
 have sZ:(0:Int)≤(n:Int)+1:=by omega
 have BN:(n:Int)+1≤(c:Int):=by omega
 have lz:(0:Int)≤(i:Int)+1:=by omega
 have vA:(i:Int)+1≤(n:Int)+1:=by omega
 have vB:(i:Int)≤(n:Int):=by omega
 have dF:i≤n:=by omega
 have vC:IntKind.i64.wrap ((i:Int)+1)=(i:Int)+1:=by rw[IntKind.wrap_i64]; omega
 have vD:IntKind.i64.wrap ((n:Int)+1)=(n:Int)+1:=by rw[IntKind.wrap_i64]; omega
 go_enter Tryz.func200,Tryz.ntmps200
 go_wp2_with (simp only[mb])
 go_region_law_o (refine step_copy_runI rfl _ _ _ _ rfl _ _ (by simp[Act.eval,Act.put]) (by simp[Act.eval,Act.put]) (mc _ _ _) ?_)
 go_wp2_with (at_builtin; refine wpList_copy_runI _ rfl _ _ _ _ rfl _ _ rfl rfl (me _ _) ?_)
 all_goals (go_ret; exact⟨rfl,rfl⟩)
set_option maxHeartbeats 4000000 in
theorem Oe (w W1 W2 W3:World) (b off n c i vb bT vc nb c2:Nat) (r1 r2:Value) (hi:i<n) (eT:c<n+1) (hc:n≤c) (vv:n+1≤9223372036854775807) (jy:n+1≤c2)
  (gL:∀ty,(Builtin.append_ #[101,3] ty #[.slice (some ⟨b,off,none⟩) i c, .int .i64 ((n:Int)+1 - (i:Int))]).run Tryz.prog w = .ok (.slice (some ⟨nb,0,none⟩) (n+1) c2) W1)
  (mc:∀ty dc,(Builtin.copy_ #[101,101] ty #[.slice (some ⟨nb,i*2,none⟩) (n+1 - i) dc, .slice (some ⟨vb,bT,none⟩) 1 vc]).run Tryz.prog W1 = .ok r1 W2)
  (me:∀ty dc sc,(Builtin.copy_ #[101,101] ty #[.slice (some ⟨nb,(i+1)*2,none⟩) (n - i) dc, .slice (some ⟨b,off+i*2,none⟩) (n - i) sc]).run Tryz.prog W2.drew = .ok r2 W3) :
  Calls Tryz.prog 200 #[.slice (some ⟨b,off,none⟩) n c, .int .i64 i, .slice (some ⟨vb,bT,none⟩) 1 vc] w fun e w'=>e = .returned (.slice (some ⟨nb,0,none⟩) (n+1) c2)∧w'=W3:=by
 have mixed:Tryz.prog.follows Departure.mixedOrders=true:=by kernel_rfl
 have vz:¬((i:Int)=(n:Int)):=by omega
 have pd:((i:Int)+1).toNat=i+1:=by omega
 have k_:((n:Int)+1).toNat=n+1:=by omega
 have dN:¬(c2=i+1):=by omega
 have lq:¬(c=i):=by omega
 have Hb:¬(c2=i):=by omega
 have sY:(c:Int)<(n:Int)+1:=by omega
 have lz:(0:Int)≤(i:Int)+1:=by omega
 have vA:(i:Int)+1≤(n:Int)+1:=by omega
 have gk:(i:Int)≤(n:Int)+1:=by omega
 have vB:(i:Int)≤(n:Int):=by omega
 have Hc:i≤c:=by omega
 have dF:i≤n:=by omega
 have vC:IntKind.i64.wrap ((i:Int)+1)=(i:Int)+1:=by rw[IntKind.wrap_i64]; omega
 have vD:IntKind.i64.wrap ((n:Int)+1)=(n:Int)+1:=by rw[IntKind.wrap_i64]; omega
 have Hd:IntKind.i64.wrap ((n:Int)+1 - (i:Int))=(n:Int)+1 - (i:Int):=by rw[IntKind.wrap_i64]; omega
 go_enter Tryz.func200,Tryz.ntmps200
 go_wp2_with (first | (at_builtin; refine Lib.wpList_append_run _ rfl _ _ _ _ rfl _ _ rfl rfl _ _ (gL _) ?_) | (at_builtin; refine wpList_copy_runI _ rfl _ _ _ _ rfl _ _ rfl rfl (mc _ _) ?_))
 go_region_law_o (refine step_copy_runI rfl _ _ _ _ rfl _ _ (by simp[Act.eval,Act.put]) (by simp[Act.eval,Act.put]) (me _ _ _) ?_)
 go_wp2
 all_goals (go_ret; exact⟨rfl,rfl⟩)
set_option maxHeartbeats 4000000 in
theorem Hj (xs:List ay) (y:ay) (i:Nat) (hi:i≤xs.length) (qf:xs.length≤aS):bY Tryz.prog 200 [oN 0,nT fun _=>i,oN 1] [(0,aK .aI fun _=>xs),(1,aK .aI fun _=>[y])] (eV (lR .aI fun _=>xs.take i++y::xs.drop i) []):=by
 refine sV ⟨_,Tryz.func200,rfl,rfl⟩ (fun k hk=>by(have q:k=0∨k=1:=by simpa [av] using hk); omega) fun w vs ρ hr ha=> ?_;have qf:xs.length≤1048576:=qf;obtain⟨aY,hv⟩:=ha;have e0:vs.getD 0 Go.undef=(ρ 0).1:=(hv 0 _ rfl).2;have e1:vs.getD 1 Go.undef = .int .i64 (i:Int):=oB (hv 1 _ rfl);have e2:vs.getD 2 Go.undef=(ρ 1).1:=(hv 2 _ rfl).2;have fV:=sW (vs:=vs) aY;rw[e0,e1,e2] at fV;have ho:bc w.heap (.list .aI fun _=>xs) (ρ 0).1 (ρ 0).2:=hr.af 0 _ List.mem_cons_self;have qg:bc w.heap (.list .aI fun _=>[y]) (ρ 1).1 (ρ 1).2:=hr.af 1 _ (List.mem_cons_of_mem _ List.mem_cons_self);have fE:∀x,aP ρ [(0,aK .aI fun _=>xs),(1,aK .aI fun _=>[y])] x=(ρ 0).2 x+(ρ 1).2 x:=fun x=>by simp[aP]
 have eS:∀x,(ρ 0).2 x+(ρ 1).2 x≤1:=fun x=>by have:=hr.sum x; rwa [fE] at this
 have jC:∀x,0<(ρ 0).2 x+(ρ 1).2 x→x<w.heap.size:=fun x hx=>by
   have:∃cs e fz,w.heap[x]? = some (.cells cs e fz):=by
     rcases Nat.eq_zero_or_pos ((ρ 0).2 x) with h | h
     · exact qg.there x (by omega)
     · exact ho.there x h
   obtain⟨_,_,_,h⟩:=this;rcases Nat.lt_or_ge x w.heap.size with h' | h'
   · exact h'
   · rw[Array.getElem?_eq_none h'] at h; cases h
 obtain⟨ht,inf,z,dY,da,fF,hz,qe,iF⟩:=iy aD (T:=101) (E:= .aI) rfl;rcases qg.dU with⟨_,h,_⟩ | ⟨vb,bT,vc,mf,ue,Hf,U,iG,qh,dN,kS,fK,xU,mg,iH⟩
 · cases h
 have fK:1≤vc:=fK;have iH:bj w.heap .aI [y] (fun q=>mf.getD (bT+q) Go.undef) U:=iH;have iG:(ρ 1).1 = .slice (some ⟨vb,bT,none⟩) 1 vc:=iG
 have fin:∀{v:Value} {q:Nat→Nat} {w':World},bc w'.heap (.list .aI fun _=>xs.take i++y::xs.drop i) v q→Ext w w'→(∀x,x<w.heap.size→(ρ 0).2 x=0→w'.heap[x]? = w.heap[x]?)→(∀x,x<w.heap.size→q x≤(ρ 0).2 x+(ρ 1).2 x)→(∀x,q x≤1)→
     ∃ v' q',Ending.returned v = .returned v'∧bc w'.heap (.list .aI fun _=>xs.take i++y::xs.drop i) v' q'∧Ext w w'∧(∀x,x<w.heap.size→aP ρ [(0,aK .aI fun _=>xs),(1,aK .aI fun _=>[y])] x=0→w'.heap[x]? = w.heap[x]?)∧(∀x,x<w.heap.size→q' x≤aP ρ [(0,aK .aI fun _=>xs),(1,aK .aI fun _=>[y])] x)∧∀x,q' x≤1:=fun a b c d e=>
   ⟨_,_,rfl,a,b,fun x hx h0=>c x hx (by rw[fE] at h0; omega),fun x hx=>by rw[fE]; exact d x hx,e⟩
 rcases Nat.lt_or_ge i xs.length with aR | ku
 · -- not at the end
   rcases ho.dU with⟨_,h,_⟩ | ⟨b,off,c,cs,e,fz,S,dq,hp,hb,hf,hl,hm,dm,bZ⟩
   · have h:xs = []:=h;rw[h] at aR; simp at aR
   have hl:xs.length≤c:=hl;have bZ:bj w.heap .aI xs (fun q=>cs.getD (off+q) Go.undef) S:=bZ
   have Hg:(ρ 0).2 b=1∧(ρ 1).2 b=0:=by
     have h1:=eS b;have h2:0<(ρ 0).2 b:=by rw[hp]; exact iM _ _ _ _
     omega
   have vE:0<(ρ 1).2 vb:=by rw[qh]; exact iM _ _ _ _
   have hne:vb≠b:=fun he=>by rw[he] at vE; omega
   have e3:xs.length*an.sz .aI≤c*an.sz .aI:=Nat.mul_le_mul_right _ hl;obtain⟨uA,us,Hh,eG,mK,ni,Hi⟩:=oC (P:=Tryz.prog) (E:= .aI) (xs:=[y]) (k:=0) (Nat.zero_le _) fK dN mg iH ht;have eG:us.length=an.sz .aI:=by rw[eG]; simp
   have qi:bj w.heap .aI [y] (fun q=>us.getD q Go.undef) U:=iH.cells fun q hq=>by
     have hq:q<an.sz .aI:=by simpa using hq
     rw[mK q (by rw[eG]; exact hq)]; simp
   have qj:∀j v,us[j]? = some v→w.cell? ((⟨vb,bT,none⟩:Addr).add j)=some v:=fun j v hj=>by
     have hq:=bD hj;have h3:us.getD j Go.undef=v:=by rw[List.getD_eq_getElem?_getD,hj]; rfl
     rw[←h3,mK j hq,dS,Nat.zero_mul,Nat.add_zero]
     exact cell_of dN (getD_some (by
       have:bT+vc*an.sz .aI≤mf.size:=mg;have h4:=Nat.mul_le_mul_right (an.sz .aI) fK;omega))
   have eE:w.drew.heap[b]? = some (.cells cs e fz):=hb;obtain⟨nA,news,mh,fW,di,jM,_⟩:=oC (P:=Tryz.prog) (w:=w) (E:= .aI) (xs:=xs) (k:=i) hi hl hb dm bZ ht
   have mh:nA=⟨b,off+i*an.sz .aI,none⟩:=by
     rw[if_neg (by omega)] at mh; exact(Option.some.inj mh).symm
   have e1:i*an.sz .aI+(xs.length - i)*an.sz .aI=xs.length*an.sz .aI:=by rw[←Nat.add_mul]; congr 1; omega
   have qk:∀j v,news[j]? = some v→w.cell? ((⟨b,off+i*an.sz .aI,none⟩:Addr).add j)=some v:=fun j v hj=>by
     have hq:=bD hj;have h3:news.getD j Go.undef=v:=by rw[List.getD_eq_getElem?_getD,hj]; rfl
     rw[←h3,di j hq,dS];rw[fW] at hq;exact cell_of hb (getD_some (by omega))
   have e4:(i+1)*an.sz .aI=i*an.sz .aI+an.sz .aI:=by rw[Nat.add_mul]; omega
   have e5:(xs.length+1)*an.sz .aI=xs.length*an.sz .aI+an.sz .aI:=by rw[Nat.add_mul]; omega
   rcases Nat.lt_or_ge c (xs.length+1) with hg | eT
   · -- a new row
     obtain⟨fo,jU,hold,vF⟩:=BM (P:=Tryz.prog) (w:=w.drew) (E:= .aI) (xs:=xs) (k:=i) hi hl eE dm bZ;have gw:0<xs.length+1 - i:=by omega
     have b_:=fun ty=>run_append_grow_zeros (P:=Tryz.prog) w 101 3 ty _ inf z .i64 .i64 ht Tryz.underlying3 dY hz (some ⟨b,off,none⟩) i c fo (by rw[da]; exact vF) (xs.length+1 - i) gw (by rw[da]; decide) (by omega) (by omega) (by rw[fF]; omega) (by
       rw[fF]; exact growslice_fits (by omega) (by omega))
     have iI:=grownCap_ge w (i+(xs.length+1 - i)) c 57;rw[show i+(xs.length+1 - i)=xs.length+1 by omega] at b_ iI;generalize grownCap w (xs.length+1) c 57=C at b_ iI;generalize lQ:fo.toArray++Builtin.zeroCells z.cells (xs.length+1 - i)++Builtin.zeroCells z.cells (C - (xs.length+1))=cells at b_
     have cV:cells.size=C*an.sz .aI:=by
       rw[←lQ];simp only[Array.size_append,List.size_toArray,Builtin.zeroCells,Array.size_map,Array.size_range,iF,jU];rw[←Nat.add_mul,←Nat.add_mul]
       congr 1; omega
     have bP:∀q,q<i*an.sz .aI→cells.getD q Go.undef=cs.getD (off+q) Go.undef:=fun q hq=>by
       rw[←hold q (by rw[jU]; exact hq),←lQ,Array.getD_eq_getD_getElem?,Array.getElem?_append_left (by simp[jU]; omega),Array.getElem?_append_left (by simp[jU]; omega),List.getElem?_toArray,List.getD_eq_getElem?_getD]
     obtain⟨W1,jV⟩:∃W1,W1=w.drew.alloc (.cells cells 57):=⟨_,rfl⟩;have k1:W1.heap[w.heap.size]? = some (.cells cells 57 (0,0)):=by rw[jV]; show(w.heap.push _)[w.heap.size]? = _; simp
     have k2:∀x,x<w.heap.size→W1.heap[x]? = w.heap[x]? :=fun x hx=>by rw[jV]; show(w.heap.push _)[x]? = _; rw[Array.getElem?_push,if_neg (Nat.ne_of_lt hx)]
     have k3:Ext w W1:=by rw[jV]; exact(show Ext w w.drew from Ext.of (Nat.le_refl _) rfl rfl fun _=>rfl).trans (oV w.drew _ _)
     have vG:vb<w.heap.size:=jC vb (by omega);have ql:b<w.heap.size:=jC b (by omega);have e6:(xs.length+1)*an.sz .aI≤C*an.sz .aI:=Nat.mul_le_mul_right _ iI
     obtain⟨W2,c1,c2,c3,c4⟩:=ly (P:=Tryz.prog) (w:=W1) (o:=i*an.sz .aI) (dLen:=xs.length+1 - i) (sLen:=1) (m:=1) (T2:=101) k1 (kK _) ht dY (by simp only[Nat.min_def]; split <;> omega) (by rw[da,eG,Nat.one_mul]) (fun j v hj=>by
       have:=qj j v hj;rw[dS] at this ⊢;rw[World.cell?,k2 vb vG]; exact this) (by rw[eG,cV]; omega) ni
     have vH:W2.drew.heap[w.heap.size]? = _:=c2
     obtain⟨W3,d1,d2,d3,d4⟩:=ly (P:=Tryz.prog) (w:=W2.drew) (o:=(i+1)*an.sz .aI) (dLen:=xs.length - i) (sLen:=xs.length - i) (m:=xs.length - i) (T2:=101) vH (kK _) ht dY (by simp only[Nat.min_def]; split <;> omega) (by rw[da,fW]) (fun j v hj=>by
       have:=qk j v hj;rw[dS] at this ⊢;rw[World.cell?,show W2.drew.heap[b]? = W2.heap[b]? from rfl,c3 b (Nat.ne_of_lt ql),k2 b ql]; exact this) (by rw[fW,dk,cV]; omega) jM
     have iJ:=Oe w W1 W2 W3 b off xs.length c i vb bT vc w.heap.size C _ _ aR hg hl (by omega) iI (fun ty=>by
       have:=b_ ty;rw[show((xs.length+1 - i:Nat):Int)=(xs.length:Int)+1 - (i:Int) by omega] at this;rw[jV]; exact this) (fun ty dc=>c1 ty dc vc) (fun ty dc sc=>d1 ty dc sc)
     rw[fV,dq,iG];refine iJ.mono fun e' w' he=> ?_;obtain⟨rfl,rfl⟩:=he;refine fin (BL (E:= .aI) rfl hi iI (by unfold cm; omega) cV bZ qi bP fW di eG d2) (k3.trans (c4.trans ((show Ext W2 W2.drew from Ext.of (Nat.le_refl _) rfl rfl fun _=>rfl).trans d4))) (fun x hx h0=> ?_) (fun x hx=> ?_) (fun x=> ?_)
     · rw[d3 x (Nat.ne_of_lt hx),show W2.drew.heap[x]? = W2.heap[x]? from rfl,c3 x (Nat.ne_of_lt hx),k2 x hx]
     · rw[ik,if_neg (Nat.ne_of_lt hx)]; omega
     · rw[ik]; split <;> omega
   · -- in place
     have e6:(xs.length+1)*an.sz .aI≤c*an.sz .aI:=Nat.mul_le_mul_right _ eT
     have mb:∀lb cb,(callFunc 250 #[.slice (some ⟨vb,bT,none⟩) 1 vc, .slice (some ⟨b,off+(i+1)*an.sz .aI,none⟩) lb cb]).run Tryz.prog w = .ok (.value (.bool false)) w:=fun lb cb=>by
       rw [run_callFunc_extern Tryz.func250 (by kernel_rfl) (by kernel_rfl) (by kernel_rfl) (e:=Extern.SlicesOverlaps.overlaps #[101,101] #[4]) (by kernel_rfl),
        Lib.run_overlaps_apart w 101 4 57 ht (an.sz .aI) (fun w=>by simp[sizeOf,typeInfo,dY,da]) ⟨vb,bT,none⟩ ⟨b,off+(i+1)*an.sz .aI,none⟩ 1 vc lb cb hne ue e mf.size cs.size (by simp[World.shape?,dN]) (by simp[World.shape?,hb]) (by
         have:0<an.sz .aI:=by decide
         omega) (sX dN kS _) (sX dN kS _)]
       rfl
     obtain⟨W1,c1,c2,c3,c4⟩:=ly (P:=Tryz.prog) (w:=w.drew) (o:=off+(i+1)*an.sz .aI) (dLen:=xs.length - i) (sLen:=xs.length+1 - i) (m:=xs.length - i) (T2:=101) eE hf ht dY (by simp only[Nat.min_def]; split <;> omega) (by rw[da,fW]) qk (by rw[fW]; omega) jM;have n_:NF (cZ cs (off+(i+1)*an.sz .aI) news) fz:=by rcases hf with h | h; exact .inl h; exact .inr (by rw[dk]; exact h)
     obtain⟨W2,d1,d2,d3,d4⟩:=ly (P:=Tryz.prog) (w:=W1) (o:=off+i*an.sz .aI) (dLen:=xs.length+1 - i) (sLen:=1) (m:=1) (T2:=101) c2 n_ ht dY (by simp only[Nat.min_def]; split <;> omega) (by rw[da,eG,Nat.one_mul]) (fun j v hj=>by
       have:=qj j v hj;rw[dS] at this ⊢;rw[World.cell?,c3 vb hne]; exact this) (by rw[eG,dk]; omega) ni
     have iJ:=Od w W1 W2 b off xs.length c i vb bT vc _ _ aR eT (by omega) mb (fun ty dc sc=>c1 ty dc sc) (fun ty dc=>d1 ty dc vc);rw[fV,dq,iG];refine iJ.mono fun e' w' he=> ?_;obtain⟨rfl,rfl⟩:=he;refine fin (BK (E:= .aI) rfl hi hf eT (by unfold cm; omega) dm bZ qi fW di eG d2) ((show Ext w w.drew from Ext.of (Nat.le_refl _) rfl rfl fun _=>rfl).trans (c4.trans d4)) (fun x hx h0=> ?_) (fun x hx=> ?_) (fun x=> ?_)
     · have gY:x≠b:=fun he=>by rw[he] at h0; omega
       rw[d3 x gY,c3 x gY]; rfl
     · rw[ik]
       split
       · rename_i he; rw[he]; omega
       · omega
     · rw[ik]; split <;> omega
 · -- at the end
   obtain rfl:i=xs.length:=by omega
   obtain⟨news,hN⟩:=hZ.of (c:=vc) dN (by have:=Nat.mul_le_mul_right (an.sz .aI) fK; simpa using Nat.le_trans (Nat.add_le_add_left this bT) mg) iH;obtain⟨v,p,w',g1,g2,g3,g4,g5,g6⟩:=uf (P:=Tryz.prog) (w:=w) (E:= .aI) (xs:=xs) (ys:=[y]) (vy:= .slice (some ⟨vb,bT,none⟩) 1 vc) (py:=(ρ 1).2) (T:=101) (T2:=101) (ty:=0) ho (hN.wH ht) (fun x=>by rw[qh]; simp only[bB,bQ]; exact Nat.le_add_left _ _) eS jC ht dY hz da iF (by rw[fF]; decide) (by rw[fF]; simp only[List.length_cons,List.length_nil]; omega)
   obtain⟨base,c,dq⟩:∃base c,(ρ 0).1 = .slice base xs.length c:=by
     rcases ho.dU with⟨h1,h2,_⟩ | ⟨b,off,c,cs,e,fz,S,dq,_⟩
     · have h2:xs = []:=h2;exact⟨none,0,by rw[h1,h2]; rfl⟩
     · exact⟨_,c,dq⟩
   have iJ:=Oc w w' base xs.length c vb bT vc v (fun ty=>by rw[dq] at g1; exact g1);rw[fV,dq,iG];refine iJ.mono fun e' qy he=> ?_;obtain⟨rfl,rfl⟩:=he;have e7:xs.take xs.length++y::xs.drop xs.length=xs ++ [y]:=by simp
   refine fin (by rw[e7]; exact g2) g3 g4 g5 (fun x=> ?_);rcases Nat.lt_or_ge x w.heap.size with h | h
   · exact Nat.le_trans (g5 x h) (eS x)
   · exact g6 x h
set_option maxHeartbeats 4000000 in
theorem Of (w W1:World) (base:Option Addr) (n c vb bT vc:Nat) (v':Value)
   (gL:∀ty,(Builtin.append_ #[28,28] ty #[.slice base n c, .slice (some ⟨vb,bT,none⟩) 1 vc]).run Tryz.prog w = .ok v' W1) :
   Calls Tryz.prog 197 #[.slice base n c, .int .i64 n, .slice (some ⟨vb,bT,none⟩) 1 vc] w fun e w'=>e = .returned v'∧w'=W1:=by
 go_enter Tryz.func197,Tryz.ntmps197
 cases base with
 | none=>
   go_wp2_with (at_builtin; refine Lib.wpList_append_run _ rfl _ _ _ _ rfl _ _ rfl rfl _ _ (gL _) ?_)
   all_goals (go_ret; exact⟨rfl,rfl⟩)
 | some a=>
   obtain⟨ab,ao,Ha⟩:=a
   go_wp2_with (at_builtin; refine Lib.wpList_append_run _ rfl _ _ _ _ rfl _ _ rfl rfl _ _ (gL _) ?_)
   all_goals (go_ret; exact⟨rfl,rfl⟩)
set_option maxHeartbeats 4000000 in
theorem Og (w W1 W2:World) (b off n c i vb bT vc:Nat) (r1 r2:Value) (hi:i<n) (eT:n+1≤c) (vv:n+1≤9223372036854775807)
  (mb:∀lb cb,(callFunc 248 #[.slice (some ⟨vb,bT,none⟩) 1 vc, .slice (some ⟨b,off+(i+1)*10,none⟩) lb cb]).run Tryz.prog w = .ok (.value (.bool false)) w)
  (mc:∀ty dc sc,(Builtin.copy_ #[28,28] ty #[.slice (some ⟨b,off+(i+1)*10,none⟩) (n - i) dc, .slice (some ⟨b,off+i*10,none⟩) (n+1 - i) sc]).run Tryz.prog w.drew = .ok r1 W1)
  (me:∀ty dc,(Builtin.copy_ #[28,28] ty #[.slice (some ⟨b,off+i*10,none⟩) (n+1 - i) dc, .slice (some ⟨vb,bT,none⟩) 1 vc]).run Tryz.prog W1 = .ok r2 W2) :
  Calls Tryz.prog 197 #[.slice (some ⟨b,off,none⟩) n c, .int .i64 i, .slice (some ⟨vb,bT,none⟩) 1 vc] w fun e w'=>e = .returned (.slice (some ⟨b,off,none⟩) (n+1) c)∧w'=W2:=by
 have mixed:Tryz.prog.follows Departure.mixedOrders=true:=by kernel_rfl
 have vz:¬((i:Int)=(n:Int)):=by omega
 have pd:((i:Int)+1).toNat=i+1:=by omega
 have k_:((n:Int)+1).toNat=n+1:=by omega
 have dN:¬(c=i+1):=by omega
 have gk:(i:Int)≤(n:Int)+1:=by omega
 have lq:¬(c=i):=by omega
 have sY:¬((n:Int)+1>(c:Int)):=by omega
 have oD:¬((c:Int)<(n:Int)+1):=by omega
 have sZ:(0:Int)≤(n:Int)+1:=by omega
 have BN:(n:Int)+1≤(c:Int):=by omega
 have lz:(0:Int)≤(i:Int)+1:=by omega
 have vA:(i:Int)+1≤(n:Int)+1:=by omega
 have vB:(i:Int)≤(n:Int):=by omega
 have dF:i≤n:=by omega
 have vC:IntKind.i64.wrap ((i:Int)+1)=(i:Int)+1:=by rw[IntKind.wrap_i64]; omega
 have vD:IntKind.i64.wrap ((n:Int)+1)=(n:Int)+1:=by rw[IntKind.wrap_i64]; omega
 go_enter Tryz.func197,Tryz.ntmps197
 go_wp2_with (simp only[mb])
 go_region_law_o (refine step_copy_runI rfl _ _ _ _ rfl _ _ (by simp[Act.eval,Act.put]) (by simp[Act.eval,Act.put]) (mc _ _ _) ?_)
 go_wp2_with (at_builtin; refine wpList_copy_runI _ rfl _ _ _ _ rfl _ _ rfl rfl (me _ _) ?_)
 all_goals (go_ret; exact⟨rfl,rfl⟩)
set_option maxHeartbeats 4000000 in
theorem Oh (w W1 W2 W3:World) (b off n c i vb bT vc nb c2:Nat) (r1 r2:Value) (hi:i<n) (eT:c<n+1) (hc:n≤c) (vv:n+1≤9223372036854775807) (jy:n+1≤c2)
  (gL:∀ty,(Builtin.append_ #[28,3] ty #[.slice (some ⟨b,off,none⟩) i c, .int .i64 ((n:Int)+1 - (i:Int))]).run Tryz.prog w = .ok (.slice (some ⟨nb,0,none⟩) (n+1) c2) W1)
  (mc:∀ty dc,(Builtin.copy_ #[28,28] ty #[.slice (some ⟨nb,i*10,none⟩) (n+1 - i) dc, .slice (some ⟨vb,bT,none⟩) 1 vc]).run Tryz.prog W1 = .ok r1 W2)
  (me:∀ty dc sc,(Builtin.copy_ #[28,28] ty #[.slice (some ⟨nb,(i+1)*10,none⟩) (n - i) dc, .slice (some ⟨b,off+i*10,none⟩) (n - i) sc]).run Tryz.prog W2.drew = .ok r2 W3) :
  Calls Tryz.prog 197 #[.slice (some ⟨b,off,none⟩) n c, .int .i64 i, .slice (some ⟨vb,bT,none⟩) 1 vc] w fun e w'=>e = .returned (.slice (some ⟨nb,0,none⟩) (n+1) c2)∧w'=W3:=by
 have mixed:Tryz.prog.follows Departure.mixedOrders=true:=by kernel_rfl
 have vz:¬((i:Int)=(n:Int)):=by omega
 have pd:((i:Int)+1).toNat=i+1:=by omega
 have k_:((n:Int)+1).toNat=n+1:=by omega
 have dN:¬(c2=i+1):=by omega
 have lq:¬(c=i):=by omega
 have Hb:¬(c2=i):=by omega
 have sY:(c:Int)<(n:Int)+1:=by omega
 have lz:(0:Int)≤(i:Int)+1:=by omega
 have vA:(i:Int)+1≤(n:Int)+1:=by omega
 have gk:(i:Int)≤(n:Int)+1:=by omega
 have vB:(i:Int)≤(n:Int):=by omega
 have Hc:i≤c:=by omega
 have dF:i≤n:=by omega
 have vC:IntKind.i64.wrap ((i:Int)+1)=(i:Int)+1:=by rw[IntKind.wrap_i64]; omega
 have vD:IntKind.i64.wrap ((n:Int)+1)=(n:Int)+1:=by rw[IntKind.wrap_i64]; omega
 have Hd:IntKind.i64.wrap ((n:Int)+1 - (i:Int))=(n:Int)+1 - (i:Int):=by rw[IntKind.wrap_i64]; omega
 go_enter Tryz.func197,Tryz.ntmps197
 go_wp2_with (first | (at_builtin; refine Lib.wpList_append_run _ rfl _ _ _ _ rfl _ _ rfl rfl _ _ (gL _) ?_) | (at_builtin; refine wpList_copy_runI _ rfl _ _ _ _ rfl _ _ rfl rfl (mc _ _) ?_))
 go_region_law_o (refine step_copy_runI rfl _ _ _ _ rfl _ _ (by simp[Act.eval,Act.put]) (by simp[Act.eval,Act.put]) (me _ _ _) ?_)
 go_wp2
 all_goals (go_ret; exact⟨rfl,rfl⟩)
set_option maxHeartbeats 4000000 in
theorem Hk (xs:List ax) (y:ax) (i:Nat) (hi:i≤xs.length) (qf:xs.length≤aS):bY Tryz.prog 197 [oN 0,nT fun _=>i,oN 1] [(0,aK .aB fun _=>xs),(1,aK .aB fun _=>[y])] (eV (lR .aB fun _=>xs.take i++y::xs.drop i) []):=by
 refine sV ⟨_,Tryz.func197,rfl,rfl⟩ (fun k hk=>by(have q:k=0∨k=1:=by simpa [av] using hk); omega) fun w vs ρ hr ha=> ?_;have qf:xs.length≤1048576:=qf;obtain⟨aY,hv⟩:=ha;have e0:vs.getD 0 Go.undef=(ρ 0).1:=(hv 0 _ rfl).2;have e1:vs.getD 1 Go.undef = .int .i64 (i:Int):=oB (hv 1 _ rfl);have e2:vs.getD 2 Go.undef=(ρ 1).1:=(hv 2 _ rfl).2;have fV:=sW (vs:=vs) aY;rw[e0,e1,e2] at fV;have ho:bc w.heap (.list .aB fun _=>xs) (ρ 0).1 (ρ 0).2:=hr.af 0 _ List.mem_cons_self;have qg:bc w.heap (.list .aB fun _=>[y]) (ρ 1).1 (ρ 1).2:=hr.af 1 _ (List.mem_cons_of_mem _ List.mem_cons_self);have fE:∀x,aP ρ [(0,aK .aB fun _=>xs),(1,aK .aB fun _=>[y])] x=(ρ 0).2 x+(ρ 1).2 x:=fun x=>by simp[aP]
 have eS:∀x,(ρ 0).2 x+(ρ 1).2 x≤1:=fun x=>by have:=hr.sum x; rwa [fE] at this
 have jC:∀x,0<(ρ 0).2 x+(ρ 1).2 x→x<w.heap.size:=fun x hx=>by
   have:∃cs e fz,w.heap[x]? = some (.cells cs e fz):=by
     rcases Nat.eq_zero_or_pos ((ρ 0).2 x) with h | h
     · exact qg.there x (by omega)
     · exact ho.there x h
   obtain⟨_,_,_,h⟩:=this;rcases Nat.lt_or_ge x w.heap.size with h' | h'
   · exact h'
   · rw[Array.getElem?_eq_none h'] at h; cases h
 obtain⟨ht,inf,z,dY,da,fF,hz,qe,iF⟩:=iy aD (T:=28) (E:= .aB) rfl;rcases qg.dU with⟨_,h,_⟩ | ⟨vb,bT,vc,mf,ue,Hf,U,iG,qh,dN,kS,fK,xU,mg,iH⟩
 · cases h
 have fK:1≤vc:=fK;have iH:bj w.heap .aB [y] (fun q=>mf.getD (bT+q) Go.undef) U:=iH;have iG:(ρ 1).1 = .slice (some ⟨vb,bT,none⟩) 1 vc:=iG
 have fin:∀{v:Value} {q:Nat→Nat} {w':World},bc w'.heap (.list .aB fun _=>xs.take i++y::xs.drop i) v q→Ext w w'→(∀x,x<w.heap.size→(ρ 0).2 x=0→w'.heap[x]? = w.heap[x]?)→(∀x,x<w.heap.size→q x≤(ρ 0).2 x+(ρ 1).2 x)→(∀x,q x≤1)→
     ∃ v' q',Ending.returned v = .returned v'∧bc w'.heap (.list .aB fun _=>xs.take i++y::xs.drop i) v' q'∧Ext w w'∧(∀x,x<w.heap.size→aP ρ [(0,aK .aB fun _=>xs),(1,aK .aB fun _=>[y])] x=0→w'.heap[x]? = w.heap[x]?)∧(∀x,x<w.heap.size→q' x≤aP ρ [(0,aK .aB fun _=>xs),(1,aK .aB fun _=>[y])] x)∧∀x,q' x≤1:=fun a b c d e=>
   ⟨_,_,rfl,a,b,fun x hx h0=>c x hx (by rw[fE] at h0; omega),fun x hx=>by rw[fE]; exact d x hx,e⟩
 rcases Nat.lt_or_ge i xs.length with aR | ku
 · -- not at the end
   rcases ho.dU with⟨_,h,_⟩ | ⟨b,off,c,cs,e,fz,S,dq,hp,hb,hf,hl,hm,dm,bZ⟩
   · have h:xs = []:=h;rw[h] at aR; simp at aR
   have hl:xs.length≤c:=hl;have bZ:bj w.heap .aB xs (fun q=>cs.getD (off+q) Go.undef) S:=bZ
   have Hg:(ρ 0).2 b=1∧(ρ 1).2 b=0:=by
     have h1:=eS b;have h2:0<(ρ 0).2 b:=by rw[hp]; exact iM _ _ _ _
     omega
   have vE:0<(ρ 1).2 vb:=by rw[qh]; exact iM _ _ _ _
   have hne:vb≠b:=fun he=>by rw[he] at vE; omega
   have e3:xs.length*an.sz .aB≤c*an.sz .aB:=Nat.mul_le_mul_right _ hl;obtain⟨uA,us,Hh,eG,mK,ni,Hi⟩:=oC (P:=Tryz.prog) (E:= .aB) (xs:=[y]) (k:=0) (Nat.zero_le _) fK dN mg iH ht;have eG:us.length=an.sz .aB:=by rw[eG]; simp
   have qi:bj w.heap .aB [y] (fun q=>us.getD q Go.undef) U:=iH.cells fun q hq=>by
     have hq:q<an.sz .aB:=by simpa using hq
     rw[mK q (by rw[eG]; exact hq)]; simp
   have qj:∀j v,us[j]? = some v→w.cell? ((⟨vb,bT,none⟩:Addr).add j)=some v:=fun j v hj=>by
     have hq:=bD hj;have h3:us.getD j Go.undef=v:=by rw[List.getD_eq_getElem?_getD,hj]; rfl
     rw[←h3,mK j hq,dS,Nat.zero_mul,Nat.add_zero]
     exact cell_of dN (getD_some (by
       have:bT+vc*an.sz .aB≤mf.size:=mg;have h4:=Nat.mul_le_mul_right (an.sz .aB) fK;omega))
   have eE:w.drew.heap[b]? = some (.cells cs e fz):=hb;obtain⟨nA,news,mh,fW,di,jM,_⟩:=oC (P:=Tryz.prog) (w:=w) (E:= .aB) (xs:=xs) (k:=i) hi hl hb dm bZ ht
   have mh:nA=⟨b,off+i*an.sz .aB,none⟩:=by
     rw[if_neg (by omega)] at mh; exact(Option.some.inj mh).symm
   have e1:i*an.sz .aB+(xs.length - i)*an.sz .aB=xs.length*an.sz .aB:=by rw[←Nat.add_mul]; congr 1; omega
   have qk:∀j v,news[j]? = some v→w.cell? ((⟨b,off+i*an.sz .aB,none⟩:Addr).add j)=some v:=fun j v hj=>by
     have hq:=bD hj;have h3:news.getD j Go.undef=v:=by rw[List.getD_eq_getElem?_getD,hj]; rfl
     rw[←h3,di j hq,dS];rw[fW] at hq;exact cell_of hb (getD_some (by omega))
   have e4:(i+1)*an.sz .aB=i*an.sz .aB+an.sz .aB:=by rw[Nat.add_mul]; omega
   have e5:(xs.length+1)*an.sz .aB=xs.length*an.sz .aB+an.sz .aB:=by rw[Nat.add_mul]; omega
   rcases Nat.lt_or_ge c (xs.length+1) with hg | eT
   · -- a new row
     obtain⟨fo,jU,hold,vF⟩:=BM (P:=Tryz.prog) (w:=w.drew) (E:= .aB) (xs:=xs) (k:=i) hi hl eE dm bZ;have gw:0<xs.length+1 - i:=by omega
     have b_:=fun ty=>run_append_grow_zeros (P:=Tryz.prog) w 28 3 ty _ inf z .i64 .i64 ht Tryz.underlying3 dY hz (some ⟨b,off,none⟩) i c fo (by rw[da]; exact vF) (xs.length+1 - i) gw (by rw[da]; decide) (by omega) (by omega) (by rw[fF]; omega) (by
       rw[fF]; exact growslice_fits (by omega) (by omega))
     have iI:=grownCap_ge w (i+(xs.length+1 - i)) c 45;rw[show i+(xs.length+1 - i)=xs.length+1 by omega] at b_ iI;generalize grownCap w (xs.length+1) c 45=C at b_ iI;generalize lQ:fo.toArray++Builtin.zeroCells z.cells (xs.length+1 - i)++Builtin.zeroCells z.cells (C - (xs.length+1))=cells at b_
     have cV:cells.size=C*an.sz .aB:=by
       rw[←lQ];simp only[Array.size_append,List.size_toArray,Builtin.zeroCells,Array.size_map,Array.size_range,iF,jU];rw[←Nat.add_mul,←Nat.add_mul]
       congr 1; omega
     have bP:∀q,q<i*an.sz .aB→cells.getD q Go.undef=cs.getD (off+q) Go.undef:=fun q hq=>by
       rw[←hold q (by rw[jU]; exact hq),←lQ,Array.getD_eq_getD_getElem?,Array.getElem?_append_left (by simp[jU]; omega),Array.getElem?_append_left (by simp[jU]; omega),List.getElem?_toArray,List.getD_eq_getElem?_getD]
     obtain⟨W1,jV⟩:∃W1,W1=w.drew.alloc (.cells cells 45):=⟨_,rfl⟩;have k1:W1.heap[w.heap.size]? = some (.cells cells 45 (0,0)):=by rw[jV]; show(w.heap.push _)[w.heap.size]? = _; simp
     have k2:∀x,x<w.heap.size→W1.heap[x]? = w.heap[x]? :=fun x hx=>by rw[jV]; show(w.heap.push _)[x]? = _; rw[Array.getElem?_push,if_neg (Nat.ne_of_lt hx)]
     have k3:Ext w W1:=by rw[jV]; exact(show Ext w w.drew from Ext.of (Nat.le_refl _) rfl rfl fun _=>rfl).trans (oV w.drew _ _)
     have vG:vb<w.heap.size:=jC vb (by omega);have ql:b<w.heap.size:=jC b (by omega);have e6:(xs.length+1)*an.sz .aB≤C*an.sz .aB:=Nat.mul_le_mul_right _ iI
     obtain⟨W2,c1,c2,c3,c4⟩:=ly (P:=Tryz.prog) (w:=W1) (o:=i*an.sz .aB) (dLen:=xs.length+1 - i) (sLen:=1) (m:=1) (T2:=28) k1 (kK _) ht dY (by simp only[Nat.min_def]; split <;> omega) (by rw[da,eG,Nat.one_mul]) (fun j v hj=>by
       have:=qj j v hj;rw[dS] at this ⊢;rw[World.cell?,k2 vb vG]; exact this) (by rw[eG,cV]; omega) ni
     have vH:W2.drew.heap[w.heap.size]? = _:=c2
     obtain⟨W3,d1,d2,d3,d4⟩:=ly (P:=Tryz.prog) (w:=W2.drew) (o:=(i+1)*an.sz .aB) (dLen:=xs.length - i) (sLen:=xs.length - i) (m:=xs.length - i) (T2:=28) vH (kK _) ht dY (by simp only[Nat.min_def]; split <;> omega) (by rw[da,fW]) (fun j v hj=>by
       have:=qk j v hj;rw[dS] at this ⊢;rw[World.cell?,show W2.drew.heap[b]? = W2.heap[b]? from rfl,c3 b (Nat.ne_of_lt ql),k2 b ql]; exact this) (by rw[fW,dk,cV]; omega) jM
     have iJ:=Oh w W1 W2 W3 b off xs.length c i vb bT vc w.heap.size C _ _ aR hg hl (by omega) iI (fun ty=>by
       have:=b_ ty;rw[show((xs.length+1 - i:Nat):Int)=(xs.length:Int)+1 - (i:Int) by omega] at this;rw[jV]; exact this) (fun ty dc=>c1 ty dc vc) (fun ty dc sc=>d1 ty dc sc)
     rw[fV,dq,iG];refine iJ.mono fun e' w' he=> ?_;obtain⟨rfl,rfl⟩:=he;refine fin (BL (E:= .aB) rfl hi iI (by unfold cm; omega) cV bZ qi bP fW di eG d2) (k3.trans (c4.trans ((show Ext W2 W2.drew from Ext.of (Nat.le_refl _) rfl rfl fun _=>rfl).trans d4))) (fun x hx h0=> ?_) (fun x hx=> ?_) (fun x=> ?_)
     · rw[d3 x (Nat.ne_of_lt hx),show W2.drew.heap[x]? = W2.heap[x]? from rfl,c3 x (Nat.ne_of_lt hx),k2 x hx]
     · rw[ik,if_neg (Nat.ne_of_lt hx)]; omega
     · rw[ik]; split <;> omega
   · -- in place
     have e6:(xs.length+1)*an.sz .aB≤c*an.sz .aB:=Nat.mul_le_mul_right _ eT
     have mb:∀lb cb,(callFunc 248 #[.slice (some ⟨vb,bT,none⟩) 1 vc, .slice (some ⟨b,off+(i+1)*an.sz .aB,none⟩) lb cb]).run Tryz.prog w = .ok (.value (.bool false)) w:=fun lb cb=>by
       rw [run_callFunc_extern Tryz.func248 (by kernel_rfl) (by kernel_rfl) (by kernel_rfl) (e:=Extern.SlicesOverlaps.overlaps #[28,28] #[4]) (by kernel_rfl),
        Lib.run_overlaps_apart w 28 4 45 ht (an.sz .aB) (fun w=>by simp[sizeOf,typeInfo,dY,da]) ⟨vb,bT,none⟩ ⟨b,off+(i+1)*an.sz .aB,none⟩ 1 vc lb cb hne ue e mf.size cs.size (by simp[World.shape?,dN]) (by simp[World.shape?,hb]) (by
         have:0<an.sz .aB:=by decide
         omega) (sX dN kS _) (sX dN kS _)]
       rfl
     obtain⟨W1,c1,c2,c3,c4⟩:=ly (P:=Tryz.prog) (w:=w.drew) (o:=off+(i+1)*an.sz .aB) (dLen:=xs.length - i) (sLen:=xs.length+1 - i) (m:=xs.length - i) (T2:=28) eE hf ht dY (by simp only[Nat.min_def]; split <;> omega) (by rw[da,fW]) qk (by rw[fW]; omega) jM;have n_:NF (cZ cs (off+(i+1)*an.sz .aB) news) fz:=by rcases hf with h | h; exact .inl h; exact .inr (by rw[dk]; exact h)
     obtain⟨W2,d1,d2,d3,d4⟩:=ly (P:=Tryz.prog) (w:=W1) (o:=off+i*an.sz .aB) (dLen:=xs.length+1 - i) (sLen:=1) (m:=1) (T2:=28) c2 n_ ht dY (by simp only[Nat.min_def]; split <;> omega) (by rw[da,eG,Nat.one_mul]) (fun j v hj=>by
       have:=qj j v hj;rw[dS] at this ⊢;rw[World.cell?,c3 vb hne]; exact this) (by rw[eG,dk]; omega) ni
     have iJ:=Og w W1 W2 b off xs.length c i vb bT vc _ _ aR eT (by omega) mb (fun ty dc sc=>c1 ty dc sc) (fun ty dc=>d1 ty dc vc);rw[fV,dq,iG];refine iJ.mono fun e' w' he=> ?_;obtain⟨rfl,rfl⟩:=he;refine fin (BK (E:= .aB) rfl hi hf eT (by unfold cm; omega) dm bZ qi fW di eG d2) ((show Ext w w.drew from Ext.of (Nat.le_refl _) rfl rfl fun _=>rfl).trans (c4.trans d4)) (fun x hx h0=> ?_) (fun x hx=> ?_) (fun x=> ?_)
     · have gY:x≠b:=fun he=>by rw[he] at h0; omega
       rw[d3 x gY,c3 x gY]; rfl
     · rw[ik]
       split
       · rename_i he; rw[he]; omega
       · omega
     · rw[ik]; split <;> omega
 · -- at the end
   obtain rfl:i=xs.length:=by omega
   obtain⟨news,hN⟩:=hZ.of (c:=vc) dN (by have:=Nat.mul_le_mul_right (an.sz .aB) fK; simpa using Nat.le_trans (Nat.add_le_add_left this bT) mg) iH;obtain⟨v,p,w',g1,g2,g3,g4,g5,g6⟩:=uf (P:=Tryz.prog) (w:=w) (E:= .aB) (xs:=xs) (ys:=[y]) (vy:= .slice (some ⟨vb,bT,none⟩) 1 vc) (py:=(ρ 1).2) (T:=28) (T2:=28) (ty:=0) ho (hN.wH ht) (fun x=>by rw[qh]; simp only[bB,bQ]; exact Nat.le_add_left _ _) eS jC ht dY hz da iF (by rw[fF]; decide) (by rw[fF]; simp only[List.length_cons,List.length_nil]; omega)
   obtain⟨base,c,dq⟩:∃base c,(ρ 0).1 = .slice base xs.length c:=by
     rcases ho.dU with⟨h1,h2,_⟩ | ⟨b,off,c,cs,e,fz,S,dq,_⟩
     · have h2:xs = []:=h2;exact⟨none,0,by rw[h1,h2]; rfl⟩
     · exact⟨_,c,dq⟩
   have iJ:=Of w w' base xs.length c vb bT vc v (fun ty=>by rw[dq] at g1; exact g1);rw[fV,dq,iG];refine iJ.mono fun e' qy he=> ?_;obtain⟨rfl,rfl⟩:=he;have e7:xs.take xs.length++y::xs.drop xs.length=xs ++ [y]:=by simp
   refine fin (by rw[e7]; exact g2) g3 g4 g5 (fun x=> ?_);rcases Nat.lt_or_ge x w.heap.size with h | h
   · exact Nat.le_trans (g5 x h) (eS x)
   · exact g6 x h
end Go.Proofs.YtpklefhdkkegiaaGreat

