/- Parts of a proof. No conditions. -/

import Derived.Test.YtpklefhdkkegiaaGreatG17
import Derived.Test.YtpklefhdkkegiaaGreatGTab
import Derived.Test.YtpklefhdkkegiaaGreatG05
import Derived.WalkKit
import Derived.Deep.RegionLaw
import Derived.Lib.SliceRun
import Derived.Shelf.RegionOpenPlain
import Derived.Lib.JoinLaws
import Derived.Shelf.Spec.SlicesInsert
set_option linter.unusedSimpArgs false
set_option linter.unusedVariables false
namespace Go.Proofs.YtpklefhdkkegiaaGreat
open Go Go.RowKit Go.Lib Go.Shelf
set_option maxRecDepth 100000
set_option maxHeartbeats 1000000 in
theorem Sj (w:World) (b off c n i:Nat) (hi:i<n) (KG:n≤c) (W1 W2:World) (A:Addr) (hA:(if c=i+1 then some (⟨b,off,none⟩:Addr) else some ⟨b,off+(i+1)*4,none⟩)=some A)
  (iW:∀ty,(Builtin.append_ #[49,49] ty #[.slice (some ⟨b,off,none⟩) i c, .slice (some A) (n - (i+1)) (c - (i+1))]).run Tryz.prog w.drew = .ok (.slice (some ⟨b,off,none⟩) (n - 1) c) W1)
  (fA:∀ty c',(Builtin.clear_ #[49] ty #[.slice (some ⟨b,off+(n - 1)*4,none⟩) 1 c']).run Tryz.prog W1 = .ok (.tuple #[]) W2) :
  Calls Tryz.prog 194 #[.slice (some ⟨b,off,none⟩) n c, .int .i64 i, .int .i64 ((i:Int)+1)] w fun e w'=>e = .returned (.slice (some ⟨b,off,none⟩) (n - 1) c)∧w'=W2:=by
 have n1:((i:Int)+1).toNat=i+1:=by omega
 have n2:((i:Int)).toNat=i:=by omega
 have n3:(i:Int)≤(i:Int)+1:=by omega
 have n4:(i:Int)+1≤(n:Int):=by omega
 have n5:(n:Int)≤(c:Int):=by omega
 have n6:(0:Int)≤(i:Int)+1:=by omega
 have n7:¬((i:Int)=(i:Int)+1):=by omega
 have n8:i≤c:=by omega
 have n9:n - (n - 1)=1:=by omega
 have KH:¬(c=n - 1):=by omega
 have KI:((n - 1:Nat):Int)≤(n:Int):=by omega
 have mixed:Tryz.prog.follows Departure.mixedOrders=true:=by kernel_rfl
 go_enter Tryz.func194,Tryz.ntmps194
 go_wp2
 go_region_law_o (refine ET rfl _ _ _ _ rfl _ _ (by simp[Act.eval,Act.put]) (by simp[Act.eval,Act.put]) (iW _) ?_)
 go_wp2
 go_ret
 exact⟨rfl,rfl⟩
theorem Sk (xs:List Entry) (i:Nat) (hi:i<xs.length):bJ Tryz.prog 194 [oN 0,nT fun _=>i,iT fun _=>(i:Int)+1] [(0,aH .aJ fun _=>xs)] (dx (lR .aJ fun _=>xs.take i++xs.drop (i+1)) []):=by
 refine vQ ⟨_,Tryz.func194,rfl,rfl⟩ (fun k hk=>by(have q:k=0:=by simpa [ay] using hk); omega) fun w vs ρ hr ha=> ?_;obtain⟨bq,hv⟩:=ha;have e0:vs.getD 0 Go.undef=(ρ 0).1:=(hv 0 _ rfl).2;have e1:vs.getD 1 Go.undef = .int .i64 (i:Int):=qJ (hv 1 _ rfl);have e2:vs.getD 2 Go.undef = .int .i64 ((i:Int)+1):=qJ (hv 2 _ rfl);have gY:=vR (vs:=vs) bq;rw[e0,e1,e2] at gY;have ho:bx w.heap (.list .aJ fun _=>xs) (ρ 0).1 (ρ 0).2:=hr.ah 0 _ List.mem_cons_self;have gK:∀x,aT ρ [(0,aH .aJ fun _=>xs)] x=(ρ 0).2 x:=fun x=>by simp[aT]
 rcases ho.fY with⟨_,h,_⟩ | ⟨b,off,c,cs,e,fz,S,cF,hp,hb,hf,hl,hm,eM,cB⟩
 · have h:xs = []:=h;rw[h] at hi; simp at hi
 have hl:xs.length≤c:=hl;have hm:xs.length≤cM:=hm;have cB:bO w.heap .aJ xs (fun q=>cs.getD (off+q) Go.undef) S:=cB;obtain⟨ht,inf,z,fe,dK,_,hz,sF,jS⟩:=ly au (T:=49) (E:= .aJ) rfl;have fF:w.drew.heap[b]? = some (.cells cs e fz):=hb;have qe:bO w.drew.heap .aJ xs (fun q=>cs.getD (off+q) Go.undef) S:=cB;obtain⟨A,news,hA,hn,dP,eI,t_⟩:=qK (P:=Tryz.prog) (E:= .aJ) (xs:=xs) (k:=i+1) hi hl fF eM qe ht;have yk:i+(xs.length - (i+1))≤c:=by omega
 obtain⟨W1,g1,g2,g3,g4⟩:=EU (P:=Tryz.prog) (n:=i) fF hf (by rw[dK]; exact t_) (by rw[dK]; exact hn) eI ht fe yk (by rw[dK]; exact eM);rw[dK] at g2;have nn:NF (dL cs (off+i*av.sz .aJ) news) fz:=by rcases hf with h | h; exact .inl h; exact .inr (by rw[eJ]; exact h)
 have e3:xs.length*av.sz .aJ≤c*av.sz .aJ:=Nat.mul_le_mul_right _ hl
 have e4:(xs.length - 1)*av.sz .aJ+av.sz .aJ=xs.length*av.sz .aJ:=by
   have:xs.length=(xs.length - 1)+1:=by omega
   rw[show xs.length*av.sz .aJ=((xs.length - 1)+1)*av.sz .aJ by rw[←this],Nat.add_mul]; omega
 obtain⟨W2,c1,c2,c3,c4⟩:=EV (P:=Tryz.prog) (z:=z) (o:=off+(xs.length - 1)*av.sz .aJ) g2 nn ht (fun w=>by simp[zeroValue,typeInfo,fe,hz]) (fun u hu=>Z.EX sF (by decide) hu) (by rw[eJ,jS]; omega);have cR:=Sj w b off c xs.length i hi hl W1 W2 A hA (fun ty=>by rw[g1 ty]; congr 2; omega) c1;rw[gY,cF];refine cR.mono fun e w' he=> ?_;obtain⟨rfl,rfl⟩:=he;refine⟨_,b0 b (xs.length - 1) (av.sz .aJ) fun _ _ _=>0,rfl, ?_,(show Ext w W1 from⟨g4.sz,g4.os,g4.out,g4.fz⟩).trans c4,fun x hx h0=> ?_,fun x hx=> ?_,fun x=> ?_⟩
 · exact EW (E:= .aJ) (w:=w) (w1:=W1) rfl hi hf hl hm eM cB hn dP (by simpa using jS) g2 c2
 · rw[gK] at h0;have jn:x≠b:=fun he=>by rw[hp,he] at h0; have:=kQ b xs.length (av.sz .aJ) S; omega
   rw[c3 x jn,g3 x jn]; rfl
 · rw[gK,hp];rw[jF];simp only[b0]
   split <;> omega
 · rw[jF]
   split <;> omega
set_option maxHeartbeats 1000000 in
theorem Sl (w:World) (b off c n i:Nat) (hi:i<n) (KG:n≤c) (W1 W2:World) (A:Addr) (hA:(if c=i+1 then some (⟨b,off,none⟩:Addr) else some ⟨b,off+(i+1)*2,none⟩)=some A)
  (iW:∀ty,(Builtin.append_ #[101,101] ty #[.slice (some ⟨b,off,none⟩) i c, .slice (some A) (n - (i+1)) (c - (i+1))]).run Tryz.prog w.drew = .ok (.slice (some ⟨b,off,none⟩) (n - 1) c) W1)
  (fA:∀ty c',(Builtin.clear_ #[101] ty #[.slice (some ⟨b,off+(n - 1)*2,none⟩) 1 c']).run Tryz.prog W1 = .ok (.tuple #[]) W2) :
  Calls Tryz.prog 233 #[.slice (some ⟨b,off,none⟩) n c, .int .i64 i, .int .i64 ((i:Int)+1)] w fun e w'=>e = .returned (.slice (some ⟨b,off,none⟩) (n - 1) c)∧w'=W2:=by
 have n1:((i:Int)+1).toNat=i+1:=by omega
 have n2:((i:Int)).toNat=i:=by omega
 have n3:(i:Int)≤(i:Int)+1:=by omega
 have n4:(i:Int)+1≤(n:Int):=by omega
 have n5:(n:Int)≤(c:Int):=by omega
 have n6:(0:Int)≤(i:Int)+1:=by omega
 have n7:¬((i:Int)=(i:Int)+1):=by omega
 have n8:i≤c:=by omega
 have n9:n - (n - 1)=1:=by omega
 have KH:¬(c=n - 1):=by omega
 have KI:((n - 1:Nat):Int)≤(n:Int):=by omega
 have mixed:Tryz.prog.follows Departure.mixedOrders=true:=by kernel_rfl
 go_enter Tryz.func233,Tryz.ntmps233
 go_wp2
 go_region_law_o (refine ET rfl _ _ _ _ rfl _ _ (by simp[Act.eval,Act.put]) (by simp[Act.eval,Act.put]) (iW _) ?_)
 go_wp2
 go_ret
 exact⟨rfl,rfl⟩
theorem Sm (xs:List aC) (i:Nat) (hi:i<xs.length):bJ Tryz.prog 233 [oN 0,nT fun _=>i,iT fun _=>(i:Int)+1] [(0,aH .aI fun _=>xs)] (dx (lR .aI fun _=>xs.take i++xs.drop (i+1)) []):=by
 refine vQ ⟨_,Tryz.func233,rfl,rfl⟩ (fun k hk=>by(have q:k=0:=by simpa [ay] using hk); omega) fun w vs ρ hr ha=> ?_;obtain⟨bq,hv⟩:=ha;have e0:vs.getD 0 Go.undef=(ρ 0).1:=(hv 0 _ rfl).2;have e1:vs.getD 1 Go.undef = .int .i64 (i:Int):=qJ (hv 1 _ rfl);have e2:vs.getD 2 Go.undef = .int .i64 ((i:Int)+1):=qJ (hv 2 _ rfl);have gY:=vR (vs:=vs) bq;rw[e0,e1,e2] at gY;have ho:bx w.heap (.list .aI fun _=>xs) (ρ 0).1 (ρ 0).2:=hr.ah 0 _ List.mem_cons_self;have gK:∀x,aT ρ [(0,aH .aI fun _=>xs)] x=(ρ 0).2 x:=fun x=>by simp[aT]
 rcases ho.fY with⟨_,h,_⟩ | ⟨b,off,c,cs,e,fz,S,cF,hp,hb,hf,hl,hm,eM,cB⟩
 · have h:xs = []:=h;rw[h] at hi; simp at hi
 have hl:xs.length≤c:=hl;have hm:xs.length≤cM:=hm;have cB:bO w.heap .aI xs (fun q=>cs.getD (off+q) Go.undef) S:=cB;obtain⟨ht,inf,z,fe,dK,_,hz,sF,jS⟩:=ly au (T:=101) (E:= .aI) rfl;have fF:w.drew.heap[b]? = some (.cells cs e fz):=hb;have qe:bO w.drew.heap .aI xs (fun q=>cs.getD (off+q) Go.undef) S:=cB;obtain⟨A,news,hA,hn,dP,eI,t_⟩:=qK (P:=Tryz.prog) (E:= .aI) (xs:=xs) (k:=i+1) hi hl fF eM qe ht;have yk:i+(xs.length - (i+1))≤c:=by omega
 obtain⟨W1,g1,g2,g3,g4⟩:=EU (P:=Tryz.prog) (n:=i) fF hf (by rw[dK]; exact t_) (by rw[dK]; exact hn) eI ht fe yk (by rw[dK]; exact eM);rw[dK] at g2;have nn:NF (dL cs (off+i*av.sz .aI) news) fz:=by rcases hf with h | h; exact .inl h; exact .inr (by rw[eJ]; exact h)
 have e3:xs.length*av.sz .aI≤c*av.sz .aI:=Nat.mul_le_mul_right _ hl
 have e4:(xs.length - 1)*av.sz .aI+av.sz .aI=xs.length*av.sz .aI:=by
   have:xs.length=(xs.length - 1)+1:=by omega
   rw[show xs.length*av.sz .aI=((xs.length - 1)+1)*av.sz .aI by rw[←this],Nat.add_mul]; omega
 obtain⟨W2,c1,c2,c3,c4⟩:=EV (P:=Tryz.prog) (z:=z) (o:=off+(xs.length - 1)*av.sz .aI) g2 nn ht (fun w=>by simp[zeroValue,typeInfo,fe,hz]) (fun u hu=>Z.EX sF (by decide) hu) (by rw[eJ,jS]; omega);have cR:=Sl w b off c xs.length i hi hl W1 W2 A hA (fun ty=>by rw[g1 ty]; congr 2; omega) c1;rw[gY,cF];refine cR.mono fun e w' he=> ?_;obtain⟨rfl,rfl⟩:=he;refine⟨_,b0 b (xs.length - 1) (av.sz .aI) fun _ _ _=>0,rfl, ?_,(show Ext w W1 from⟨g4.sz,g4.os,g4.out,g4.fz⟩).trans c4,fun x hx h0=> ?_,fun x hx=> ?_,fun x=> ?_⟩
 · exact EW (E:= .aI) (w:=w) (w1:=W1) rfl hi hf hl hm eM cB hn dP (by simpa using jS) g2 c2
 · rw[gK] at h0;have jn:x≠b:=fun he=>by rw[hp,he] at h0; have:=kQ b xs.length (av.sz .aI) S; omega
   rw[c3 x jn,g3 x jn]; rfl
 · rw[gK,hp];rw[jF];simp only[b0]
   split <;> omega
 · rw[jF]
   split <;> omega
set_option maxHeartbeats 1000000 in
theorem Sn (w:World) (b off c n i:Nat) (hi:i<n) (KG:n≤c) (W1 W2:World) (A:Addr) (hA:(if c=i+1 then some (⟨b,off,none⟩:Addr) else some ⟨b,off+(i+1)*10,none⟩)=some A)
  (iW:∀ty,(Builtin.append_ #[28,28] ty #[.slice (some ⟨b,off,none⟩) i c, .slice (some A) (n - (i+1)) (c - (i+1))]).run Tryz.prog w.drew = .ok (.slice (some ⟨b,off,none⟩) (n - 1) c) W1)
  (fA:∀ty c',(Builtin.clear_ #[28] ty #[.slice (some ⟨b,off+(n - 1)*10,none⟩) 1 c']).run Tryz.prog W1 = .ok (.tuple #[]) W2) :
  Calls Tryz.prog 236 #[.slice (some ⟨b,off,none⟩) n c, .int .i64 i, .int .i64 ((i:Int)+1)] w fun e w'=>e = .returned (.slice (some ⟨b,off,none⟩) (n - 1) c)∧w'=W2:=by
 have n1:((i:Int)+1).toNat=i+1:=by omega
 have n2:((i:Int)).toNat=i:=by omega
 have n3:(i:Int)≤(i:Int)+1:=by omega
 have n4:(i:Int)+1≤(n:Int):=by omega
 have n5:(n:Int)≤(c:Int):=by omega
 have n6:(0:Int)≤(i:Int)+1:=by omega
 have n7:¬((i:Int)=(i:Int)+1):=by omega
 have n8:i≤c:=by omega
 have n9:n - (n - 1)=1:=by omega
 have KH:¬(c=n - 1):=by omega
 have KI:((n - 1:Nat):Int)≤(n:Int):=by omega
 have mixed:Tryz.prog.follows Departure.mixedOrders=true:=by kernel_rfl
 go_enter Tryz.func236,Tryz.ntmps236
 go_wp2
 go_region_law_o (refine ET rfl _ _ _ _ rfl _ _ (by simp[Act.eval,Act.put]) (by simp[Act.eval,Act.put]) (iW _) ?_)
 go_wp2
 go_ret
 exact⟨rfl,rfl⟩
theorem So (xs:List ax) (i:Nat) (hi:i<xs.length):bJ Tryz.prog 236 [oN 0,nT fun _=>i,iT fun _=>(i:Int)+1] [(0,aH .aE fun _=>xs)] (dx (lR .aE fun _=>xs.take i++xs.drop (i+1)) []):=by
 refine vQ ⟨_,Tryz.func236,rfl,rfl⟩ (fun k hk=>by(have q:k=0:=by simpa [ay] using hk); omega) fun w vs ρ hr ha=> ?_;obtain⟨bq,hv⟩:=ha;have e0:vs.getD 0 Go.undef=(ρ 0).1:=(hv 0 _ rfl).2;have e1:vs.getD 1 Go.undef = .int .i64 (i:Int):=qJ (hv 1 _ rfl);have e2:vs.getD 2 Go.undef = .int .i64 ((i:Int)+1):=qJ (hv 2 _ rfl);have gY:=vR (vs:=vs) bq;rw[e0,e1,e2] at gY;have ho:bx w.heap (.list .aE fun _=>xs) (ρ 0).1 (ρ 0).2:=hr.ah 0 _ List.mem_cons_self;have gK:∀x,aT ρ [(0,aH .aE fun _=>xs)] x=(ρ 0).2 x:=fun x=>by simp[aT]
 rcases ho.fY with⟨_,h,_⟩ | ⟨b,off,c,cs,e,fz,S,cF,hp,hb,hf,hl,hm,eM,cB⟩
 · have h:xs = []:=h;rw[h] at hi; simp at hi
 have hl:xs.length≤c:=hl;have hm:xs.length≤cM:=hm;have cB:bO w.heap .aE xs (fun q=>cs.getD (off+q) Go.undef) S:=cB;obtain⟨ht,inf,z,fe,dK,_,hz,sF,jS⟩:=ly au (T:=28) (E:= .aE) rfl;have fF:w.drew.heap[b]? = some (.cells cs e fz):=hb;have qe:bO w.drew.heap .aE xs (fun q=>cs.getD (off+q) Go.undef) S:=cB;obtain⟨A,news,hA,hn,dP,eI,t_⟩:=qK (P:=Tryz.prog) (E:= .aE) (xs:=xs) (k:=i+1) hi hl fF eM qe ht;have yk:i+(xs.length - (i+1))≤c:=by omega
 obtain⟨W1,g1,g2,g3,g4⟩:=EU (P:=Tryz.prog) (n:=i) fF hf (by rw[dK]; exact t_) (by rw[dK]; exact hn) eI ht fe yk (by rw[dK]; exact eM);rw[dK] at g2;have nn:NF (dL cs (off+i*av.sz .aE) news) fz:=by rcases hf with h | h; exact .inl h; exact .inr (by rw[eJ]; exact h)
 have e3:xs.length*av.sz .aE≤c*av.sz .aE:=Nat.mul_le_mul_right _ hl
 have e4:(xs.length - 1)*av.sz .aE+av.sz .aE=xs.length*av.sz .aE:=by
   have:xs.length=(xs.length - 1)+1:=by omega
   rw[show xs.length*av.sz .aE=((xs.length - 1)+1)*av.sz .aE by rw[←this],Nat.add_mul]; omega
 obtain⟨W2,c1,c2,c3,c4⟩:=EV (P:=Tryz.prog) (z:=z) (o:=off+(xs.length - 1)*av.sz .aE) g2 nn ht (fun w=>by simp[zeroValue,typeInfo,fe,hz]) (fun u hu=>Z.EX sF (by decide) hu) (by rw[eJ,jS]; omega);have cR:=Sn w b off c xs.length i hi hl W1 W2 A hA (fun ty=>by rw[g1 ty]; congr 2; omega) c1;rw[gY,cF];refine cR.mono fun e w' he=> ?_;obtain⟨rfl,rfl⟩:=he;refine⟨_,b0 b (xs.length - 1) (av.sz .aE) fun _ _ _=>0,rfl, ?_,(show Ext w W1 from⟨g4.sz,g4.os,g4.out,g4.fz⟩).trans c4,fun x hx h0=> ?_,fun x hx=> ?_,fun x=> ?_⟩
 · exact EW (E:= .aE) (w:=w) (w1:=W1) rfl hi hf hl hm eM cB hn dP (by simpa using jS) g2 c2
 · rw[gK] at h0;have jn:x≠b:=fun he=>by rw[hp,he] at h0; have:=kQ b xs.length (av.sz .aE) S; omega
   rw[c3 x jn,g3 x jn]; rfl
 · rw[gK,hp];rw[jF];simp only[b0]
   split <;> omega
 · rw[jF]
   split <;> omega
end Go.Proofs.YtpklefhdkkegiaaGreat
namespace Go.Proofs.YtpklefhdkkegiaaGreat
open Go Go.RowKit Go.Lib Go.Shelf
set_option maxRecDepth 100000
set_option maxHeartbeats 4000000 in
theorem Sp (w W1:World) (base:Option Addr) (n c vb cn vc:Nat) (v':Value)
   (iW:∀ty,(Builtin.append_ #[49,49] ty #[.slice base n c, .slice (some ⟨vb,cn,none⟩) 1 vc]).run Tryz.prog w = .ok v' W1) :
   Calls Tryz.prog 230 #[.slice base n c, .int .i64 n, .slice (some ⟨vb,cn,none⟩) 1 vc] w fun e w'=>e = .returned v'∧w'=W1:=by
 go_enter Tryz.func230,Tryz.ntmps230
 cases base with
 | none=>
   go_wp2_with (at_builtin; refine Lib.wpList_append_run _ rfl _ _ _ _ rfl _ _ rfl rfl _ _ (iW _) ?_)
   all_goals (go_ret; exact⟨rfl,rfl⟩)
 | some a=>
   obtain⟨ab,ao,KJ⟩:=a
   go_wp2_with (at_builtin; refine Lib.wpList_append_run _ rfl _ _ _ _ rfl _ _ rfl rfl _ _ (iW _) ?_)
   all_goals (go_ret; exact⟨rfl,rfl⟩)
set_option maxHeartbeats 4000000 in
theorem Sq (w W1 W2:World) (b off n c i vb cn vc:Nat) (r1 r2:Value) (hi:i<n) (gC:n+1≤c) (yl:n+1≤9223372036854775807)
  (nW:∀lb cb,(callFunc 267 #[.slice (some ⟨vb,cn,none⟩) 1 vc, .slice (some ⟨b,off+(i+1)*4,none⟩) lb cb]).run Tryz.prog w = .ok (.value (.bool false)) w)
  (nX:∀ty dc sc,(Builtin.copy_ #[49,49] ty #[.slice (some ⟨b,off+(i+1)*4,none⟩) (n - i) dc, .slice (some ⟨b,off+i*4,none⟩) (n+1 - i) sc]).run Tryz.prog w.drew = .ok r1 W1)
  (nY:∀ty dc,(Builtin.copy_ #[49,49] ty #[.slice (some ⟨b,off+i*4,none⟩) (n+1 - i) dc, .slice (some ⟨vb,cn,none⟩) 1 vc]).run Tryz.prog W1 = .ok r2 W2) :
  Calls Tryz.prog 230 #[.slice (some ⟨b,off,none⟩) n c, .int .i64 i, .slice (some ⟨vb,cn,none⟩) 1 vc] w fun e w'=>e = .returned (.slice (some ⟨b,off,none⟩) (n+1) c)∧w'=W2:=by
 have mixed:Tryz.prog.follows Departure.mixedOrders=true:=by kernel_rfl
 have ym:¬((i:Int)=(n:Int)):=by omega
 have rE:((i:Int)+1).toNat=i+1:=by omega
 have rW:((n:Int)+1).toNat=n+1:=by omega
 have eh:¬(c=i+1):=by omega
 have ek:(i:Int)≤(n:Int)+1:=by omega
 have sr:¬(c=i):=by omega
 have jT:¬((n:Int)+1>(c:Int)):=by omega
 have KK:¬((c:Int)<(n:Int)+1):=by omega
 have pF:(0:Int)≤(n:Int)+1:=by omega
 have AY:(n:Int)+1≤(c:Int):=by omega
 have iG:(0:Int)≤(i:Int)+1:=by omega
 have yn:(i:Int)+1≤(n:Int)+1:=by omega
 have yo:(i:Int)≤(n:Int):=by omega
 have dW:i≤n:=by omega
 have yp:IntKind.i64.wrap ((i:Int)+1)=(i:Int)+1:=by rw[IntKind.wrap_i64]; omega
 have yq:IntKind.i64.wrap ((n:Int)+1)=(n:Int)+1:=by rw[IntKind.wrap_i64]; omega
 go_enter Tryz.func230,Tryz.ntmps230
 go_wp2_with (simp only[nW])
 go_region_law_o (refine step_copy_runI rfl _ _ _ _ rfl _ _ (by simp[Act.eval,Act.put]) (by simp[Act.eval,Act.put]) (nX _ _ _) ?_)
 go_wp2_with (at_builtin; refine wpList_copy_runI _ rfl _ _ _ _ rfl _ _ rfl rfl (nY _ _) ?_)
 all_goals (go_ret; exact⟨rfl,rfl⟩)
set_option maxHeartbeats 4000000 in
theorem Sr (w W1 W2 W3:World) (b off n c i vb cn vc nb c2:Nat) (r1 r2:Value) (hi:i<n) (gC:c<n+1) (hc:n≤c) (yl:n+1≤9223372036854775807) (lq:n+1≤c2)
  (iW:∀ty,(Builtin.append_ #[49,3] ty #[.slice (some ⟨b,off,none⟩) i c, .int .i64 ((n:Int)+1 - (i:Int))]).run Tryz.prog w = .ok (.slice (some ⟨nb,0,none⟩) (n+1) c2) W1)
  (nX:∀ty dc,(Builtin.copy_ #[49,49] ty #[.slice (some ⟨nb,i*4,none⟩) (n+1 - i) dc, .slice (some ⟨vb,cn,none⟩) 1 vc]).run Tryz.prog W1 = .ok r1 W2)
  (nY:∀ty dc sc,(Builtin.copy_ #[49,49] ty #[.slice (some ⟨nb,(i+1)*4,none⟩) (n - i) dc, .slice (some ⟨b,off+i*4,none⟩) (n - i) sc]).run Tryz.prog W2.drew = .ok r2 W3) :
  Calls Tryz.prog 230 #[.slice (some ⟨b,off,none⟩) n c, .int .i64 i, .slice (some ⟨vb,cn,none⟩) 1 vc] w fun e w'=>e = .returned (.slice (some ⟨nb,0,none⟩) (n+1) c2)∧w'=W3:=by
 have mixed:Tryz.prog.follows Departure.mixedOrders=true:=by kernel_rfl
 have ym:¬((i:Int)=(n:Int)):=by omega
 have rE:((i:Int)+1).toNat=i+1:=by omega
 have rW:((n:Int)+1).toNat=n+1:=by omega
 have eh:¬(c2=i+1):=by omega
 have sr:¬(c=i):=by omega
 have KL:¬(c2=i):=by omega
 have jT:(c:Int)<(n:Int)+1:=by omega
 have iG:(0:Int)≤(i:Int)+1:=by omega
 have yn:(i:Int)+1≤(n:Int)+1:=by omega
 have ek:(i:Int)≤(n:Int)+1:=by omega
 have yo:(i:Int)≤(n:Int):=by omega
 have KM:i≤c:=by omega
 have dW:i≤n:=by omega
 have yp:IntKind.i64.wrap ((i:Int)+1)=(i:Int)+1:=by rw[IntKind.wrap_i64]; omega
 have yq:IntKind.i64.wrap ((n:Int)+1)=(n:Int)+1:=by rw[IntKind.wrap_i64]; omega
 have KN:IntKind.i64.wrap ((n:Int)+1 - (i:Int))=(n:Int)+1 - (i:Int):=by rw[IntKind.wrap_i64]; omega
 go_enter Tryz.func230,Tryz.ntmps230
 go_wp2_with (first | (at_builtin; refine Lib.wpList_append_run _ rfl _ _ _ _ rfl _ _ rfl rfl _ _ (iW _) ?_) | (at_builtin; refine wpList_copy_runI _ rfl _ _ _ _ rfl _ _ rfl rfl (nX _ _) ?_))
 go_region_law_o (refine step_copy_runI rfl _ _ _ _ rfl _ _ (by simp[Act.eval,Act.put]) (by simp[Act.eval,Act.put]) (nY _ _ _) ?_)
 go_wp2
 all_goals (go_ret; exact⟨rfl,rfl⟩)
set_option maxHeartbeats 4000000 in
theorem KO (xs:List Entry) (y:Entry) (i:Nat) (hi:i≤xs.length) (sG:xs.length≤aN):bJ Tryz.prog 230 [oN 0,nT fun _=>i,oN 1] [(0,aH .aJ fun _=>xs),(1,aH .aJ fun _=>[y])] (dx (lR .aJ fun _=>xs.take i++y::xs.drop i) []):=by
 refine vQ ⟨_,Tryz.func230,rfl,rfl⟩ (fun k hk=>by(have q:k=0∨k=1:=by simpa [ay] using hk); omega) fun w vs ρ hr ha=> ?_;have sG:xs.length≤1048576:=sG;obtain⟨bq,hv⟩:=ha;have e0:vs.getD 0 Go.undef=(ρ 0).1:=(hv 0 _ rfl).2;have e1:vs.getD 1 Go.undef = .int .i64 (i:Int):=qJ (hv 1 _ rfl);have e2:vs.getD 2 Go.undef=(ρ 1).1:=(hv 2 _ rfl).2;have gY:=vR (vs:=vs) bq;rw[e0,e1,e2] at gY;have ho:bx w.heap (.list .aJ fun _=>xs) (ρ 0).1 (ρ 0).2:=hr.ah 0 _ List.mem_cons_self;have sH:bx w.heap (.list .aJ fun _=>[y]) (ρ 1).1 (ρ 1).2:=hr.ah 1 _ (List.mem_cons_of_mem _ List.mem_cons_self);have gK:∀x,aT ρ [(0,aH .aJ fun _=>xs),(1,aH .aJ fun _=>[y])] x=(ρ 0).2 x+(ρ 1).2 x:=fun x=>by simp[aT]
 have fZ:∀x,(ρ 0).2 x+(ρ 1).2 x≤1:=fun x=>by have:=hr.sum x; rwa [gK] at this
 have lv:∀x,0<(ρ 0).2 x+(ρ 1).2 x→x<w.heap.size:=fun x hx=>by
   have:∃cs e fz,w.heap[x]? = some (.cells cs e fz):=by
     rcases Nat.eq_zero_or_pos ((ρ 0).2 x) with h | h
     · exact sH.there x (by omega)
     · exact ho.there x h
   obtain⟨_,_,_,h⟩:=this;rcases Nat.lt_or_ge x w.heap.size with h' | h'
   · exact h'
   · rw[Array.getElem?_eq_none h'] at h; cases h
 obtain⟨ht,inf,z,fe,dK,iw,hz,sF,jS⟩:=ly au (T:=49) (E:= .aJ) rfl;rcases sH.fY with⟨_,h,_⟩ | ⟨vb,cn,vc,nZ,ue,KP,U,jU,sI,eh,mO,gP,pG,n_,jV⟩
 · cases h
 have gP:1≤vc:=gP;have jV:bO w.heap .aJ [y] (fun q=>nZ.getD (cn+q) Go.undef) U:=jV;have jU:(ρ 1).1 = .slice (some ⟨vb,cn,none⟩) 1 vc:=jU
 have fin:∀{v:Value} {q:Nat→Nat} {w':World},bx w'.heap (.list .aJ fun _=>xs.take i++y::xs.drop i) v q→Ext w w'→(∀x,x<w.heap.size→(ρ 0).2 x=0→w'.heap[x]? = w.heap[x]?)→(∀x,x<w.heap.size→q x≤(ρ 0).2 x+(ρ 1).2 x)→(∀x,q x≤1)→
     ∃ v' q',Ending.returned v = .returned v'∧bx w'.heap (.list .aJ fun _=>xs.take i++y::xs.drop i) v' q'∧Ext w w'∧(∀x,x<w.heap.size→aT ρ [(0,aH .aJ fun _=>xs),(1,aH .aJ fun _=>[y])] x=0→w'.heap[x]? = w.heap[x]?)∧(∀x,x<w.heap.size→q' x≤aT ρ [(0,aH .aJ fun _=>xs),(1,aH .aJ fun _=>[y])] x)∧∀x,q' x≤1:=fun a b c d e=>
   ⟨_,_,rfl,a,b,fun x hx h0=>c x hx (by rw[gK] at h0; omega),fun x hx=>by rw[gK]; exact d x hx,e⟩
 rcases Nat.lt_or_ge i xs.length with aQ | k_
 · -- not at the end
   rcases ho.fY with⟨_,h,_⟩ | ⟨b,off,c,cs,e,fz,S,cF,hp,hb,hf,hl,hm,eM,cB⟩
   · have h:xs = []:=h;rw[h] at aQ; simp at aQ
   have hl:xs.length≤c:=hl;have cB:bO w.heap .aJ xs (fun q=>cs.getD (off+q) Go.undef) S:=cB
   have KQ:(ρ 0).2 b=1∧(ρ 1).2 b=0:=by
     have h1:=fZ b;have h2:0<(ρ 0).2 b:=by rw[hp]; exact kQ _ _ _ _
     omega
   have yr:0<(ρ 1).2 vb:=by rw[sI]; exact kQ _ _ _ _
   have hne:vb≠b:=fun he=>by rw[he] at yr; omega
   have e3:xs.length*av.sz .aJ≤c*av.sz .aJ:=Nat.mul_le_mul_right _ hl;obtain⟨uA,us,KR,fM,oR,pH,KS⟩:=qK (P:=Tryz.prog) (E:= .aJ) (xs:=[y]) (k:=0) (Nat.zero_le _) gP eh n_ jV ht;have fM:us.length=av.sz .aJ:=by rw[fM]; simp
   have sJ:bO w.heap .aJ [y] (fun q=>us.getD q Go.undef) U:=jV.cells fun q hq=>by
     have hq:q<av.sz .aJ:=by simpa using hq
     rw[oR q (by rw[fM]; exact hq)]; simp
   have sK:∀j v,us[j]? = some v→w.cell? ((⟨vb,cn,none⟩:Addr).add j)=some v:=fun j v hj=>by
     have hq:=bC hj;have h3:us.getD j Go.undef=v:=by rw[List.getD_eq_getElem?_getD,hj]; rfl
     rw[←h3,oR j hq,fj,Nat.zero_mul,Nat.add_zero]
     exact cell_of eh (getD_some (by
       have:cn+vc*av.sz .aJ≤nZ.size:=n_;have h4:=Nat.mul_le_mul_right (av.sz .aJ) gP;omega))
   have fF:w.drew.heap[b]? = some (.cells cs e fz):=hb;obtain⟨nA,news,oa,gZ,dP,lJ,_⟩:=qK (P:=Tryz.prog) (w:=w) (E:= .aJ) (xs:=xs) (k:=i) hi hl hb eM cB ht
   have oa:nA=⟨b,off+i*av.sz .aJ,none⟩:=by
     rw[if_neg (by omega)] at oa; exact(Option.some.inj oa).symm
   have e1:i*av.sz .aJ+(xs.length - i)*av.sz .aJ=xs.length*av.sz .aJ:=by rw[←Nat.add_mul]; congr 1; omega
   have sL:∀j v,news[j]? = some v→w.cell? ((⟨b,off+i*av.sz .aJ,none⟩:Addr).add j)=some v:=fun j v hj=>by
     have hq:=bC hj;have h3:news.getD j Go.undef=v:=by rw[List.getD_eq_getElem?_getD,hj]; rfl
     rw[←h3,dP j hq,fj];rw[gZ] at hq;exact cell_of hb (getD_some (by omega))
   have e4:(i+1)*av.sz .aJ=i*av.sz .aJ+av.sz .aJ:=by rw[Nat.add_mul]; omega
   have e5:(xs.length+1)*av.sz .aJ=xs.length*av.sz .aJ+av.sz .aJ:=by rw[Nat.add_mul]; omega
   rcases Nat.lt_or_ge c (xs.length+1) with hg | gC
   · -- a new row
     obtain⟨gz,lU,hold,yt⟩:=E0 (P:=Tryz.prog) (w:=w.drew) (E:= .aJ) (xs:=xs) (k:=i) hi hl fF eM cB;have gU:0<xs.length+1 - i:=by omega
     have cR:=fun ty=>run_append_grow_zeros (P:=Tryz.prog) w 49 3 ty _ inf z .i64 .i64 ht Tryz.underlying3 fe hz (some ⟨b,off,none⟩) i c gz (by rw[dK]; exact yt) (xs.length+1 - i) gU (by rw[dK]; decide) (by omega) (by omega) (by rw[iw]; omega) (by
       rw[iw]; exact growslice_fits (by omega) (by omega))
     have jW:=grownCap_ge w (i+(xs.length+1 - i)) c 105;rw[show i+(xs.length+1 - i)=xs.length+1 by omega] at cR jW;generalize grownCap w (xs.length+1) c 105=C at cR jW;generalize nC:gz.toArray++Builtin.zeroCells z.cells (xs.length+1 - i)++Builtin.zeroCells z.cells (C - (xs.length+1))=cells at cR
     have dB:cells.size=C*av.sz .aJ:=by
       rw[←nC];simp only[Array.size_append,List.size_toArray,Builtin.zeroCells,Array.size_map,Array.size_range,jS,lU];rw[←Nat.add_mul,←Nat.add_mul]
       congr 1; omega
     have ck:∀q,q<i*av.sz .aJ→cells.getD q Go.undef=cs.getD (off+q) Go.undef:=fun q hq=>by
       rw[←hold q (by rw[lU]; exact hq),←nC,Array.getD_eq_getD_getElem?,Array.getElem?_append_left (by simp[lU]; omega),Array.getElem?_append_left (by simp[lU]; omega),List.getElem?_toArray,List.getD_eq_getElem?_getD]
     obtain⟨W1,lV⟩:∃W1,W1=w.drew.alloc (.cells cells 105):=⟨_,rfl⟩;have k1:W1.heap[w.heap.size]? = some (.cells cells 105 (0,0)):=by rw[lV]; show(w.heap.push _)[w.heap.size]? = _; simp
     have k2:∀x,x<w.heap.size→W1.heap[x]? = w.heap[x]? :=fun x hx=>by rw[lV]; show(w.heap.push _)[x]? = _; rw[Array.getElem?_push,if_neg (Nat.ne_of_lt hx)]
     have k3:Ext w W1:=by rw[lV]; exact(show Ext w w.drew from Ext.of (Nat.le_refl _) rfl rfl fun _=>rfl).trans (tj w.drew _ _)
     have yu:vb<w.heap.size:=lv vb (by omega);have sM:b<w.heap.size:=lv b (by omega);have e6:(xs.length+1)*av.sz .aJ≤C*av.sz .aJ:=Nat.mul_le_mul_right _ jW
     obtain⟨W2,c1,c2,c3,c4⟩:=nk (P:=Tryz.prog) (w:=W1) (o:=i*av.sz .aJ) (dLen:=xs.length+1 - i) (sLen:=1) (m:=1) (T2:=49) k1 (nz _) ht fe (by simp only[Nat.min_def]; split <;> omega) (by rw[dK,fM,Nat.one_mul]) (fun j v hj=>by
       have:=sK j v hj;rw[fj] at this ⊢;rw[World.cell?,k2 vb yu]; exact this) (by rw[fM,dB]; omega) pH
     have yv:W2.drew.heap[w.heap.size]? = _:=c2
     obtain⟨W3,d1,d2,d3,d4⟩:=nk (P:=Tryz.prog) (w:=W2.drew) (o:=(i+1)*av.sz .aJ) (dLen:=xs.length - i) (sLen:=xs.length - i) (m:=xs.length - i) (T2:=49) yv (nz _) ht fe (by simp only[Nat.min_def]; split <;> omega) (by rw[dK,gZ]) (fun j v hj=>by
       have:=sL j v hj;rw[fj] at this ⊢;rw[World.cell?,show W2.drew.heap[b]? = W2.heap[b]? from rfl,c3 b (Nat.ne_of_lt sM),k2 b sM]; exact this) (by rw[gZ,eJ,dB]; omega) lJ
     have jX:=Sr w W1 W2 W3 b off xs.length c i vb cn vc w.heap.size C _ _ aQ hg hl (by omega) jW (fun ty=>by
       have:=cR ty;rw[show((xs.length+1 - i:Nat):Int)=(xs.length:Int)+1 - (i:Int) by omega] at this;rw[lV]; exact this) (fun ty dc=>c1 ty dc vc) (fun ty dc sc=>d1 ty dc sc)
     rw[gY,cF,jU];refine jX.mono fun e' w' he=> ?_;obtain⟨rfl,rfl⟩:=he;refine fin (EZ (E:= .aJ) rfl hi jW (by unfold cM; omega) dB cB sJ ck gZ dP fM d2) (k3.trans (c4.trans ((show Ext W2 W2.drew from Ext.of (Nat.le_refl _) rfl rfl fun _=>rfl).trans d4))) (fun x hx h0=> ?_) (fun x hx=> ?_) (fun x=> ?_)
     · rw[d3 x (Nat.ne_of_lt hx),show W2.drew.heap[x]? = W2.heap[x]? from rfl,c3 x (Nat.ne_of_lt hx),k2 x hx]
     · rw[jF,if_neg (Nat.ne_of_lt hx)]; omega
     · rw[jF]; split <;> omega
   · -- in place
     have e6:(xs.length+1)*av.sz .aJ≤c*av.sz .aJ:=Nat.mul_le_mul_right _ gC
     have nW:∀lb cb,(callFunc 267 #[.slice (some ⟨vb,cn,none⟩) 1 vc, .slice (some ⟨b,off+(i+1)*av.sz .aJ,none⟩) lb cb]).run Tryz.prog w = .ok (.value (.bool false)) w:=fun lb cb=>by
       rw [run_callFunc_extern Tryz.func267 (by kernel_rfl) (by kernel_rfl) (by kernel_rfl) (e:=Extern.SlicesOverlaps.overlaps #[49,49] #[4]) (by kernel_rfl),
        Lib.run_overlaps_apart w 49 4 105 ht (av.sz .aJ) (fun w=>by simp[sizeOf,typeInfo,fe,dK]) ⟨vb,cn,none⟩ ⟨b,off+(i+1)*av.sz .aJ,none⟩ 1 vc lb cb hne ue e nZ.size cs.size (by simp[World.shape?,eh]) (by simp[World.shape?,hb]) (by
         have:0<av.sz .aJ:=by decide
         omega) (vS eh mO _) (vS eh mO _)]
       rfl
     obtain⟨W1,c1,c2,c3,c4⟩:=nk (P:=Tryz.prog) (w:=w.drew) (o:=off+(i+1)*av.sz .aJ) (dLen:=xs.length - i) (sLen:=xs.length+1 - i) (m:=xs.length - i) (T2:=49) fF hf ht fe (by simp only[Nat.min_def]; split <;> omega) (by rw[dK,gZ]) sL (by rw[gZ]; omega) lJ;have ql:NF (dL cs (off+(i+1)*av.sz .aJ) news) fz:=by rcases hf with h | h; exact .inl h; exact .inr (by rw[eJ]; exact h)
     obtain⟨W2,d1,d2,d3,d4⟩:=nk (P:=Tryz.prog) (w:=W1) (o:=off+i*av.sz .aJ) (dLen:=xs.length+1 - i) (sLen:=1) (m:=1) (T2:=49) c2 ql ht fe (by simp only[Nat.min_def]; split <;> omega) (by rw[dK,fM,Nat.one_mul]) (fun j v hj=>by
       have:=sK j v hj;rw[fj] at this ⊢;rw[World.cell?,c3 vb hne]; exact this) (by rw[fM,eJ]; omega) pH
     have jX:=Sq w W1 W2 b off xs.length c i vb cn vc _ _ aQ gC (by omega) nW (fun ty dc sc=>c1 ty dc sc) (fun ty dc=>d1 ty dc vc);rw[gY,cF,jU];refine jX.mono fun e' w' he=> ?_;obtain⟨rfl,rfl⟩:=he;refine fin (EY (E:= .aJ) rfl hi hf gC (by unfold cM; omega) eM cB sJ gZ dP fM d2) ((show Ext w w.drew from Ext.of (Nat.le_refl _) rfl rfl fun _=>rfl).trans (c4.trans d4)) (fun x hx h0=> ?_) (fun x hx=> ?_) (fun x=> ?_)
     · have jn:x≠b:=fun he=>by rw[he] at h0; omega
       rw[d3 x jn,c3 x jn]; rfl
     · rw[jF]
       split
       · rename_i he; rw[he]; omega
       · omega
     · rw[jF]; split <;> omega
 · -- at the end
   obtain rfl:i=xs.length:=by omega
   obtain⟨news,hN⟩:=jz.of (c:=vc) eh (by have:=Nat.mul_le_mul_right (av.sz .aJ) gP; simpa using Nat.le_trans (Nat.add_le_add_left this cn) n_) jV;obtain⟨v,p,w',g1,g2,g3,g4,g5,g6⟩:=w5 (P:=Tryz.prog) (w:=w) (E:= .aJ) (xs:=xs) (ys:=[y]) (vy:= .slice (some ⟨vb,cn,none⟩) 1 vc) (py:=(ρ 1).2) (T:=49) (T2:=49) (ty:=0) ho (hN.zw ht) (fun x=>by rw[sI]; simp only[b0,cp]; exact Nat.le_add_left _ _) fZ lv ht fe hz dK jS (by rw[iw]; decide) (by rw[iw]; simp only[List.length_cons,List.length_nil]; omega)
   obtain⟨base,c,cF⟩:∃base c,(ρ 0).1 = .slice base xs.length c:=by
     rcases ho.fY with⟨h1,h2,_⟩ | ⟨b,off,c,cs,e,fz,S,cF,_⟩
     · have h2:xs = []:=h2;exact⟨none,0,by rw[h1,h2]; rfl⟩
     · exact⟨_,c,cF⟩
   have jX:=Sp w w' base xs.length c vb cn vc v (fun ty=>by rw[cF] at g1; exact g1);rw[gY,cF,jU];refine jX.mono fun e' s8 he=> ?_;obtain⟨rfl,rfl⟩:=he;have e7:xs.take xs.length++y::xs.drop xs.length=xs ++ [y]:=by simp
   refine fin (by rw[e7]; exact g2) g3 g4 g5 (fun x=> ?_);rcases Nat.lt_or_ge x w.heap.size with h | h
   · exact Nat.le_trans (g5 x h) (fZ x)
   · exact g6 x h
set_option maxHeartbeats 4000000 in
theorem Ss (w W1:World) (base:Option Addr) (n c vb cn vc:Nat) (v':Value)
   (iW:∀ty,(Builtin.append_ #[101,101] ty #[.slice base n c, .slice (some ⟨vb,cn,none⟩) 1 vc]).run Tryz.prog w = .ok v' W1) :
   Calls Tryz.prog 200 #[.slice base n c, .int .i64 n, .slice (some ⟨vb,cn,none⟩) 1 vc] w fun e w'=>e = .returned v'∧w'=W1:=by
 go_enter Tryz.func200,Tryz.ntmps200
 cases base with
 | none=>
   go_wp2_with (at_builtin; refine Lib.wpList_append_run _ rfl _ _ _ _ rfl _ _ rfl rfl _ _ (iW _) ?_)
   all_goals (go_ret; exact⟨rfl,rfl⟩)
 | some a=>
   obtain⟨ab,ao,KJ⟩:=a
   go_wp2_with (at_builtin; refine Lib.wpList_append_run _ rfl _ _ _ _ rfl _ _ rfl rfl _ _ (iW _) ?_)
   all_goals (go_ret; exact⟨rfl,rfl⟩)
set_option maxHeartbeats 4000000 in
theorem St (w W1 W2:World) (b off n c i vb cn vc:Nat) (r1 r2:Value) (hi:i<n) (gC:n+1≤c) (yl:n+1≤9223372036854775807)
  (nW:∀lb cb,(callFunc 250 #[.slice (some ⟨vb,cn,none⟩) 1 vc, .slice (some ⟨b,off+(i+1)*2,none⟩) lb cb]).run Tryz.prog w = .ok (.value (.bool false)) w)
  (nX:∀ty dc sc,(Builtin.copy_ #[101,101] ty #[.slice (some ⟨b,off+(i+1)*2,none⟩) (n - i) dc, .slice (some ⟨b,off+i*2,none⟩) (n+1 - i) sc]).run Tryz.prog w.drew = .ok r1 W1)
  (nY:∀ty dc,(Builtin.copy_ #[101,101] ty #[.slice (some ⟨b,off+i*2,none⟩) (n+1 - i) dc, .slice (some ⟨vb,cn,none⟩) 1 vc]).run Tryz.prog W1 = .ok r2 W2) :
  Calls Tryz.prog 200 #[.slice (some ⟨b,off,none⟩) n c, .int .i64 i, .slice (some ⟨vb,cn,none⟩) 1 vc] w fun e w'=>e = .returned (.slice (some ⟨b,off,none⟩) (n+1) c)∧w'=W2:=by
 have mixed:Tryz.prog.follows Departure.mixedOrders=true:=by kernel_rfl
 have ym:¬((i:Int)=(n:Int)):=by omega
 have rE:((i:Int)+1).toNat=i+1:=by omega
 have rW:((n:Int)+1).toNat=n+1:=by omega
 have eh:¬(c=i+1):=by omega
 have ek:(i:Int)≤(n:Int)+1:=by omega
 have sr:¬(c=i):=by omega
 have jT:¬((n:Int)+1>(c:Int)):=by omega
 have KK:¬((c:Int)<(n:Int)+1):=by omega
 have pF:(0:Int)≤(n:Int)+1:=by omega
 have AY:(n:Int)+1≤(c:Int):=by omega
 have iG:(0:Int)≤(i:Int)+1:=by omega
 have yn:(i:Int)+1≤(n:Int)+1:=by omega
 have yo:(i:Int)≤(n:Int):=by omega
 have dW:i≤n:=by omega
 have yp:IntKind.i64.wrap ((i:Int)+1)=(i:Int)+1:=by rw[IntKind.wrap_i64]; omega
 have yq:IntKind.i64.wrap ((n:Int)+1)=(n:Int)+1:=by rw[IntKind.wrap_i64]; omega
 go_enter Tryz.func200,Tryz.ntmps200
 go_wp2_with (simp only[nW])
 go_region_law_o (refine step_copy_runI rfl _ _ _ _ rfl _ _ (by simp[Act.eval,Act.put]) (by simp[Act.eval,Act.put]) (nX _ _ _) ?_)
 go_wp2_with (at_builtin; refine wpList_copy_runI _ rfl _ _ _ _ rfl _ _ rfl rfl (nY _ _) ?_)
 all_goals (go_ret; exact⟨rfl,rfl⟩)
set_option maxHeartbeats 4000000 in
theorem Su (w W1 W2 W3:World) (b off n c i vb cn vc nb c2:Nat) (r1 r2:Value) (hi:i<n) (gC:c<n+1) (hc:n≤c) (yl:n+1≤9223372036854775807) (lq:n+1≤c2)
  (iW:∀ty,(Builtin.append_ #[101,3] ty #[.slice (some ⟨b,off,none⟩) i c, .int .i64 ((n:Int)+1 - (i:Int))]).run Tryz.prog w = .ok (.slice (some ⟨nb,0,none⟩) (n+1) c2) W1)
  (nX:∀ty dc,(Builtin.copy_ #[101,101] ty #[.slice (some ⟨nb,i*2,none⟩) (n+1 - i) dc, .slice (some ⟨vb,cn,none⟩) 1 vc]).run Tryz.prog W1 = .ok r1 W2)
  (nY:∀ty dc sc,(Builtin.copy_ #[101,101] ty #[.slice (some ⟨nb,(i+1)*2,none⟩) (n - i) dc, .slice (some ⟨b,off+i*2,none⟩) (n - i) sc]).run Tryz.prog W2.drew = .ok r2 W3) :
  Calls Tryz.prog 200 #[.slice (some ⟨b,off,none⟩) n c, .int .i64 i, .slice (some ⟨vb,cn,none⟩) 1 vc] w fun e w'=>e = .returned (.slice (some ⟨nb,0,none⟩) (n+1) c2)∧w'=W3:=by
 have mixed:Tryz.prog.follows Departure.mixedOrders=true:=by kernel_rfl
 have ym:¬((i:Int)=(n:Int)):=by omega
 have rE:((i:Int)+1).toNat=i+1:=by omega
 have rW:((n:Int)+1).toNat=n+1:=by omega
 have eh:¬(c2=i+1):=by omega
 have sr:¬(c=i):=by omega
 have KL:¬(c2=i):=by omega
 have jT:(c:Int)<(n:Int)+1:=by omega
 have iG:(0:Int)≤(i:Int)+1:=by omega
 have yn:(i:Int)+1≤(n:Int)+1:=by omega
 have ek:(i:Int)≤(n:Int)+1:=by omega
 have yo:(i:Int)≤(n:Int):=by omega
 have KM:i≤c:=by omega
 have dW:i≤n:=by omega
 have yp:IntKind.i64.wrap ((i:Int)+1)=(i:Int)+1:=by rw[IntKind.wrap_i64]; omega
 have yq:IntKind.i64.wrap ((n:Int)+1)=(n:Int)+1:=by rw[IntKind.wrap_i64]; omega
 have KN:IntKind.i64.wrap ((n:Int)+1 - (i:Int))=(n:Int)+1 - (i:Int):=by rw[IntKind.wrap_i64]; omega
 go_enter Tryz.func200,Tryz.ntmps200
 go_wp2_with (first | (at_builtin; refine Lib.wpList_append_run _ rfl _ _ _ _ rfl _ _ rfl rfl _ _ (iW _) ?_) | (at_builtin; refine wpList_copy_runI _ rfl _ _ _ _ rfl _ _ rfl rfl (nX _ _) ?_))
 go_region_law_o (refine step_copy_runI rfl _ _ _ _ rfl _ _ (by simp[Act.eval,Act.put]) (by simp[Act.eval,Act.put]) (nY _ _ _) ?_)
 go_wp2
 all_goals (go_ret; exact⟨rfl,rfl⟩)
set_option maxHeartbeats 4000000 in
theorem KU (xs:List aC) (y:aC) (i:Nat) (hi:i≤xs.length) (sG:xs.length≤aN):bJ Tryz.prog 200 [oN 0,nT fun _=>i,oN 1] [(0,aH .aI fun _=>xs),(1,aH .aI fun _=>[y])] (dx (lR .aI fun _=>xs.take i++y::xs.drop i) []):=by
 refine vQ ⟨_,Tryz.func200,rfl,rfl⟩ (fun k hk=>by(have q:k=0∨k=1:=by simpa [ay] using hk); omega) fun w vs ρ hr ha=> ?_;have sG:xs.length≤1048576:=sG;obtain⟨bq,hv⟩:=ha;have e0:vs.getD 0 Go.undef=(ρ 0).1:=(hv 0 _ rfl).2;have e1:vs.getD 1 Go.undef = .int .i64 (i:Int):=qJ (hv 1 _ rfl);have e2:vs.getD 2 Go.undef=(ρ 1).1:=(hv 2 _ rfl).2;have gY:=vR (vs:=vs) bq;rw[e0,e1,e2] at gY;have ho:bx w.heap (.list .aI fun _=>xs) (ρ 0).1 (ρ 0).2:=hr.ah 0 _ List.mem_cons_self;have sH:bx w.heap (.list .aI fun _=>[y]) (ρ 1).1 (ρ 1).2:=hr.ah 1 _ (List.mem_cons_of_mem _ List.mem_cons_self);have gK:∀x,aT ρ [(0,aH .aI fun _=>xs),(1,aH .aI fun _=>[y])] x=(ρ 0).2 x+(ρ 1).2 x:=fun x=>by simp[aT]
 have fZ:∀x,(ρ 0).2 x+(ρ 1).2 x≤1:=fun x=>by have:=hr.sum x; rwa [gK] at this
 have lv:∀x,0<(ρ 0).2 x+(ρ 1).2 x→x<w.heap.size:=fun x hx=>by
   have:∃cs e fz,w.heap[x]? = some (.cells cs e fz):=by
     rcases Nat.eq_zero_or_pos ((ρ 0).2 x) with h | h
     · exact sH.there x (by omega)
     · exact ho.there x h
   obtain⟨_,_,_,h⟩:=this;rcases Nat.lt_or_ge x w.heap.size with h' | h'
   · exact h'
   · rw[Array.getElem?_eq_none h'] at h; cases h
 obtain⟨ht,inf,z,fe,dK,iw,hz,sF,jS⟩:=ly au (T:=101) (E:= .aI) rfl;rcases sH.fY with⟨_,h,_⟩ | ⟨vb,cn,vc,nZ,ue,KP,U,jU,sI,eh,mO,gP,pG,n_,jV⟩
 · cases h
 have gP:1≤vc:=gP;have jV:bO w.heap .aI [y] (fun q=>nZ.getD (cn+q) Go.undef) U:=jV;have jU:(ρ 1).1 = .slice (some ⟨vb,cn,none⟩) 1 vc:=jU
 have fin:∀{v:Value} {q:Nat→Nat} {w':World},bx w'.heap (.list .aI fun _=>xs.take i++y::xs.drop i) v q→Ext w w'→(∀x,x<w.heap.size→(ρ 0).2 x=0→w'.heap[x]? = w.heap[x]?)→(∀x,x<w.heap.size→q x≤(ρ 0).2 x+(ρ 1).2 x)→(∀x,q x≤1)→
     ∃ v' q',Ending.returned v = .returned v'∧bx w'.heap (.list .aI fun _=>xs.take i++y::xs.drop i) v' q'∧Ext w w'∧(∀x,x<w.heap.size→aT ρ [(0,aH .aI fun _=>xs),(1,aH .aI fun _=>[y])] x=0→w'.heap[x]? = w.heap[x]?)∧(∀x,x<w.heap.size→q' x≤aT ρ [(0,aH .aI fun _=>xs),(1,aH .aI fun _=>[y])] x)∧∀x,q' x≤1:=fun a b c d e=>
   ⟨_,_,rfl,a,b,fun x hx h0=>c x hx (by rw[gK] at h0; omega),fun x hx=>by rw[gK]; exact d x hx,e⟩
 rcases Nat.lt_or_ge i xs.length with aQ | k_
 · -- not at the end
   rcases ho.fY with⟨_,h,_⟩ | ⟨b,off,c,cs,e,fz,S,cF,hp,hb,hf,hl,hm,eM,cB⟩
   · have h:xs = []:=h;rw[h] at aQ; simp at aQ
   have hl:xs.length≤c:=hl;have cB:bO w.heap .aI xs (fun q=>cs.getD (off+q) Go.undef) S:=cB
   have KQ:(ρ 0).2 b=1∧(ρ 1).2 b=0:=by
     have h1:=fZ b;have h2:0<(ρ 0).2 b:=by rw[hp]; exact kQ _ _ _ _
     omega
   have yr:0<(ρ 1).2 vb:=by rw[sI]; exact kQ _ _ _ _
   have hne:vb≠b:=fun he=>by rw[he] at yr; omega
   have e3:xs.length*av.sz .aI≤c*av.sz .aI:=Nat.mul_le_mul_right _ hl;obtain⟨uA,us,KR,fM,oR,pH,KS⟩:=qK (P:=Tryz.prog) (E:= .aI) (xs:=[y]) (k:=0) (Nat.zero_le _) gP eh n_ jV ht;have fM:us.length=av.sz .aI:=by rw[fM]; simp
   have sJ:bO w.heap .aI [y] (fun q=>us.getD q Go.undef) U:=jV.cells fun q hq=>by
     have hq:q<av.sz .aI:=by simpa using hq
     rw[oR q (by rw[fM]; exact hq)]; simp
   have sK:∀j v,us[j]? = some v→w.cell? ((⟨vb,cn,none⟩:Addr).add j)=some v:=fun j v hj=>by
     have hq:=bC hj;have h3:us.getD j Go.undef=v:=by rw[List.getD_eq_getElem?_getD,hj]; rfl
     rw[←h3,oR j hq,fj,Nat.zero_mul,Nat.add_zero]
     exact cell_of eh (getD_some (by
       have:cn+vc*av.sz .aI≤nZ.size:=n_;have h4:=Nat.mul_le_mul_right (av.sz .aI) gP;omega))
   have fF:w.drew.heap[b]? = some (.cells cs e fz):=hb;obtain⟨nA,news,oa,gZ,dP,lJ,_⟩:=qK (P:=Tryz.prog) (w:=w) (E:= .aI) (xs:=xs) (k:=i) hi hl hb eM cB ht
   have oa:nA=⟨b,off+i*av.sz .aI,none⟩:=by
     rw[if_neg (by omega)] at oa; exact(Option.some.inj oa).symm
   have e1:i*av.sz .aI+(xs.length - i)*av.sz .aI=xs.length*av.sz .aI:=by rw[←Nat.add_mul]; congr 1; omega
   have sL:∀j v,news[j]? = some v→w.cell? ((⟨b,off+i*av.sz .aI,none⟩:Addr).add j)=some v:=fun j v hj=>by
     have hq:=bC hj;have h3:news.getD j Go.undef=v:=by rw[List.getD_eq_getElem?_getD,hj]; rfl
     rw[←h3,dP j hq,fj];rw[gZ] at hq;exact cell_of hb (getD_some (by omega))
   have e4:(i+1)*av.sz .aI=i*av.sz .aI+av.sz .aI:=by rw[Nat.add_mul]; omega
   have e5:(xs.length+1)*av.sz .aI=xs.length*av.sz .aI+av.sz .aI:=by rw[Nat.add_mul]; omega
   rcases Nat.lt_or_ge c (xs.length+1) with hg | gC
   · -- a new row
     obtain⟨gz,lU,hold,yt⟩:=E0 (P:=Tryz.prog) (w:=w.drew) (E:= .aI) (xs:=xs) (k:=i) hi hl fF eM cB;have gU:0<xs.length+1 - i:=by omega
     have cR:=fun ty=>run_append_grow_zeros (P:=Tryz.prog) w 101 3 ty _ inf z .i64 .i64 ht Tryz.underlying3 fe hz (some ⟨b,off,none⟩) i c gz (by rw[dK]; exact yt) (xs.length+1 - i) gU (by rw[dK]; decide) (by omega) (by omega) (by rw[iw]; omega) (by
       rw[iw]; exact growslice_fits (by omega) (by omega))
     have jW:=grownCap_ge w (i+(xs.length+1 - i)) c 57;rw[show i+(xs.length+1 - i)=xs.length+1 by omega] at cR jW;generalize grownCap w (xs.length+1) c 57=C at cR jW;generalize nC:gz.toArray++Builtin.zeroCells z.cells (xs.length+1 - i)++Builtin.zeroCells z.cells (C - (xs.length+1))=cells at cR
     have dB:cells.size=C*av.sz .aI:=by
       rw[←nC];simp only[Array.size_append,List.size_toArray,Builtin.zeroCells,Array.size_map,Array.size_range,jS,lU];rw[←Nat.add_mul,←Nat.add_mul]
       congr 1; omega
     have ck:∀q,q<i*av.sz .aI→cells.getD q Go.undef=cs.getD (off+q) Go.undef:=fun q hq=>by
       rw[←hold q (by rw[lU]; exact hq),←nC,Array.getD_eq_getD_getElem?,Array.getElem?_append_left (by simp[lU]; omega),Array.getElem?_append_left (by simp[lU]; omega),List.getElem?_toArray,List.getD_eq_getElem?_getD]
     obtain⟨W1,lV⟩:∃W1,W1=w.drew.alloc (.cells cells 57):=⟨_,rfl⟩;have k1:W1.heap[w.heap.size]? = some (.cells cells 57 (0,0)):=by rw[lV]; show(w.heap.push _)[w.heap.size]? = _; simp
     have k2:∀x,x<w.heap.size→W1.heap[x]? = w.heap[x]? :=fun x hx=>by rw[lV]; show(w.heap.push _)[x]? = _; rw[Array.getElem?_push,if_neg (Nat.ne_of_lt hx)]
     have k3:Ext w W1:=by rw[lV]; exact(show Ext w w.drew from Ext.of (Nat.le_refl _) rfl rfl fun _=>rfl).trans (tj w.drew _ _)
     have yu:vb<w.heap.size:=lv vb (by omega);have sM:b<w.heap.size:=lv b (by omega);have e6:(xs.length+1)*av.sz .aI≤C*av.sz .aI:=Nat.mul_le_mul_right _ jW
     obtain⟨W2,c1,c2,c3,c4⟩:=nk (P:=Tryz.prog) (w:=W1) (o:=i*av.sz .aI) (dLen:=xs.length+1 - i) (sLen:=1) (m:=1) (T2:=101) k1 (nz _) ht fe (by simp only[Nat.min_def]; split <;> omega) (by rw[dK,fM,Nat.one_mul]) (fun j v hj=>by
       have:=sK j v hj;rw[fj] at this ⊢;rw[World.cell?,k2 vb yu]; exact this) (by rw[fM,dB]; omega) pH
     have yv:W2.drew.heap[w.heap.size]? = _:=c2
     obtain⟨W3,d1,d2,d3,d4⟩:=nk (P:=Tryz.prog) (w:=W2.drew) (o:=(i+1)*av.sz .aI) (dLen:=xs.length - i) (sLen:=xs.length - i) (m:=xs.length - i) (T2:=101) yv (nz _) ht fe (by simp only[Nat.min_def]; split <;> omega) (by rw[dK,gZ]) (fun j v hj=>by
       have:=sL j v hj;rw[fj] at this ⊢;rw[World.cell?,show W2.drew.heap[b]? = W2.heap[b]? from rfl,c3 b (Nat.ne_of_lt sM),k2 b sM]; exact this) (by rw[gZ,eJ,dB]; omega) lJ
     have jX:=Su w W1 W2 W3 b off xs.length c i vb cn vc w.heap.size C _ _ aQ hg hl (by omega) jW (fun ty=>by
       have:=cR ty;rw[show((xs.length+1 - i:Nat):Int)=(xs.length:Int)+1 - (i:Int) by omega] at this;rw[lV]; exact this) (fun ty dc=>c1 ty dc vc) (fun ty dc sc=>d1 ty dc sc)
     rw[gY,cF,jU];refine jX.mono fun e' w' he=> ?_;obtain⟨rfl,rfl⟩:=he;refine fin (EZ (E:= .aI) rfl hi jW (by unfold cM; omega) dB cB sJ ck gZ dP fM d2) (k3.trans (c4.trans ((show Ext W2 W2.drew from Ext.of (Nat.le_refl _) rfl rfl fun _=>rfl).trans d4))) (fun x hx h0=> ?_) (fun x hx=> ?_) (fun x=> ?_)
     · rw[d3 x (Nat.ne_of_lt hx),show W2.drew.heap[x]? = W2.heap[x]? from rfl,c3 x (Nat.ne_of_lt hx),k2 x hx]
     · rw[jF,if_neg (Nat.ne_of_lt hx)]; omega
     · rw[jF]; split <;> omega
   · -- in place
     have e6:(xs.length+1)*av.sz .aI≤c*av.sz .aI:=Nat.mul_le_mul_right _ gC
     have nW:∀lb cb,(callFunc 250 #[.slice (some ⟨vb,cn,none⟩) 1 vc, .slice (some ⟨b,off+(i+1)*av.sz .aI,none⟩) lb cb]).run Tryz.prog w = .ok (.value (.bool false)) w:=fun lb cb=>by
       rw [run_callFunc_extern Tryz.func250 (by kernel_rfl) (by kernel_rfl) (by kernel_rfl) (e:=Extern.SlicesOverlaps.overlaps #[101,101] #[4]) (by kernel_rfl),
        Lib.run_overlaps_apart w 101 4 57 ht (av.sz .aI) (fun w=>by simp[sizeOf,typeInfo,fe,dK]) ⟨vb,cn,none⟩ ⟨b,off+(i+1)*av.sz .aI,none⟩ 1 vc lb cb hne ue e nZ.size cs.size (by simp[World.shape?,eh]) (by simp[World.shape?,hb]) (by
         have:0<av.sz .aI:=by decide
         omega) (vS eh mO _) (vS eh mO _)]
       rfl
     obtain⟨W1,c1,c2,c3,c4⟩:=nk (P:=Tryz.prog) (w:=w.drew) (o:=off+(i+1)*av.sz .aI) (dLen:=xs.length - i) (sLen:=xs.length+1 - i) (m:=xs.length - i) (T2:=101) fF hf ht fe (by simp only[Nat.min_def]; split <;> omega) (by rw[dK,gZ]) sL (by rw[gZ]; omega) lJ;have ql:NF (dL cs (off+(i+1)*av.sz .aI) news) fz:=by rcases hf with h | h; exact .inl h; exact .inr (by rw[eJ]; exact h)
     obtain⟨W2,d1,d2,d3,d4⟩:=nk (P:=Tryz.prog) (w:=W1) (o:=off+i*av.sz .aI) (dLen:=xs.length+1 - i) (sLen:=1) (m:=1) (T2:=101) c2 ql ht fe (by simp only[Nat.min_def]; split <;> omega) (by rw[dK,fM,Nat.one_mul]) (fun j v hj=>by
       have:=sK j v hj;rw[fj] at this ⊢;rw[World.cell?,c3 vb hne]; exact this) (by rw[fM,eJ]; omega) pH
     have jX:=St w W1 W2 b off xs.length c i vb cn vc _ _ aQ gC (by omega) nW (fun ty dc sc=>c1 ty dc sc) (fun ty dc=>d1 ty dc vc);rw[gY,cF,jU];refine jX.mono fun e' w' he=> ?_;obtain⟨rfl,rfl⟩:=he;refine fin (EY (E:= .aI) rfl hi hf gC (by unfold cM; omega) eM cB sJ gZ dP fM d2) ((show Ext w w.drew from Ext.of (Nat.le_refl _) rfl rfl fun _=>rfl).trans (c4.trans d4)) (fun x hx h0=> ?_) (fun x hx=> ?_) (fun x=> ?_)
     · have jn:x≠b:=fun he=>by rw[he] at h0; omega
       rw[d3 x jn,c3 x jn]; rfl
     · rw[jF]
       split
       · rename_i he; rw[he]; omega
       · omega
     · rw[jF]; split <;> omega
 · -- at the end
   obtain rfl:i=xs.length:=by omega
   obtain⟨news,hN⟩:=jz.of (c:=vc) eh (by have:=Nat.mul_le_mul_right (av.sz .aI) gP; simpa using Nat.le_trans (Nat.add_le_add_left this cn) n_) jV;obtain⟨v,p,w',g1,g2,g3,g4,g5,g6⟩:=w5 (P:=Tryz.prog) (w:=w) (E:= .aI) (xs:=xs) (ys:=[y]) (vy:= .slice (some ⟨vb,cn,none⟩) 1 vc) (py:=(ρ 1).2) (T:=101) (T2:=101) (ty:=0) ho (hN.zw ht) (fun x=>by rw[sI]; simp only[b0,cp]; exact Nat.le_add_left _ _) fZ lv ht fe hz dK jS (by rw[iw]; decide) (by rw[iw]; simp only[List.length_cons,List.length_nil]; omega)
   obtain⟨base,c,cF⟩:∃base c,(ρ 0).1 = .slice base xs.length c:=by
     rcases ho.fY with⟨h1,h2,_⟩ | ⟨b,off,c,cs,e,fz,S,cF,_⟩
     · have h2:xs = []:=h2;exact⟨none,0,by rw[h1,h2]; rfl⟩
     · exact⟨_,c,cF⟩
   have jX:=Ss w w' base xs.length c vb cn vc v (fun ty=>by rw[cF] at g1; exact g1);rw[gY,cF,jU];refine jX.mono fun e' s8 he=> ?_;obtain⟨rfl,rfl⟩:=he;have e7:xs.take xs.length++y::xs.drop xs.length=xs ++ [y]:=by simp
   refine fin (by rw[e7]; exact g2) g3 g4 g5 (fun x=> ?_);rcases Nat.lt_or_ge x w.heap.size with h | h
   · exact Nat.le_trans (g5 x h) (fZ x)
   · exact g6 x h
set_option maxHeartbeats 4000000 in
theorem Sw (w W1:World) (base:Option Addr) (n c vb cn vc:Nat) (v':Value)
   (iW:∀ty,(Builtin.append_ #[28,28] ty #[.slice base n c, .slice (some ⟨vb,cn,none⟩) 1 vc]).run Tryz.prog w = .ok v' W1) :
   Calls Tryz.prog 197 #[.slice base n c, .int .i64 n, .slice (some ⟨vb,cn,none⟩) 1 vc] w fun e w'=>e = .returned v'∧w'=W1:=by
 go_enter Tryz.func197,Tryz.ntmps197
 cases base with
 | none=>
   go_wp2_with (at_builtin; refine Lib.wpList_append_run _ rfl _ _ _ _ rfl _ _ rfl rfl _ _ (iW _) ?_)
   all_goals (go_ret; exact⟨rfl,rfl⟩)
 | some a=>
   obtain⟨ab,ao,KJ⟩:=a
   go_wp2_with (at_builtin; refine Lib.wpList_append_run _ rfl _ _ _ _ rfl _ _ rfl rfl _ _ (iW _) ?_)
   all_goals (go_ret; exact⟨rfl,rfl⟩)
set_option maxHeartbeats 4000000 in
theorem Sx (w W1 W2:World) (b off n c i vb cn vc:Nat) (r1 r2:Value) (hi:i<n) (gC:n+1≤c) (yl:n+1≤9223372036854775807)
  (nW:∀lb cb,(callFunc 248 #[.slice (some ⟨vb,cn,none⟩) 1 vc, .slice (some ⟨b,off+(i+1)*10,none⟩) lb cb]).run Tryz.prog w = .ok (.value (.bool false)) w)
  (nX:∀ty dc sc,(Builtin.copy_ #[28,28] ty #[.slice (some ⟨b,off+(i+1)*10,none⟩) (n - i) dc, .slice (some ⟨b,off+i*10,none⟩) (n+1 - i) sc]).run Tryz.prog w.drew = .ok r1 W1)
  (nY:∀ty dc,(Builtin.copy_ #[28,28] ty #[.slice (some ⟨b,off+i*10,none⟩) (n+1 - i) dc, .slice (some ⟨vb,cn,none⟩) 1 vc]).run Tryz.prog W1 = .ok r2 W2) :
  Calls Tryz.prog 197 #[.slice (some ⟨b,off,none⟩) n c, .int .i64 i, .slice (some ⟨vb,cn,none⟩) 1 vc] w fun e w'=>e = .returned (.slice (some ⟨b,off,none⟩) (n+1) c)∧w'=W2:=by
 have mixed:Tryz.prog.follows Departure.mixedOrders=true:=by kernel_rfl
 have ym:¬((i:Int)=(n:Int)):=by omega
 have rE:((i:Int)+1).toNat=i+1:=by omega
 have rW:((n:Int)+1).toNat=n+1:=by omega
 have eh:¬(c=i+1):=by omega
 have ek:(i:Int)≤(n:Int)+1:=by omega
 have sr:¬(c=i):=by omega
 have jT:¬((n:Int)+1>(c:Int)):=by omega
 have KK:¬((c:Int)<(n:Int)+1):=by omega
 have pF:(0:Int)≤(n:Int)+1:=by omega
 have AY:(n:Int)+1≤(c:Int):=by omega
 have iG:(0:Int)≤(i:Int)+1:=by omega
 have yn:(i:Int)+1≤(n:Int)+1:=by omega
 have yo:(i:Int)≤(n:Int):=by omega
 have dW:i≤n:=by omega
 have yp:IntKind.i64.wrap ((i:Int)+1)=(i:Int)+1:=by rw[IntKind.wrap_i64]; omega
 have yq:IntKind.i64.wrap ((n:Int)+1)=(n:Int)+1:=by rw[IntKind.wrap_i64]; omega
 go_enter Tryz.func197,Tryz.ntmps197
 go_wp2_with (simp only[nW])
 go_region_law_o (refine step_copy_runI rfl _ _ _ _ rfl _ _ (by simp[Act.eval,Act.put]) (by simp[Act.eval,Act.put]) (nX _ _ _) ?_)
 go_wp2_with (at_builtin; refine wpList_copy_runI _ rfl _ _ _ _ rfl _ _ rfl rfl (nY _ _) ?_)
 all_goals (go_ret; exact⟨rfl,rfl⟩)
set_option maxHeartbeats 4000000 in
theorem Sy (w W1 W2 W3:World) (b off n c i vb cn vc nb c2:Nat) (r1 r2:Value) (hi:i<n) (gC:c<n+1) (hc:n≤c) (yl:n+1≤9223372036854775807) (lq:n+1≤c2)
  (iW:∀ty,(Builtin.append_ #[28,3] ty #[.slice (some ⟨b,off,none⟩) i c, .int .i64 ((n:Int)+1 - (i:Int))]).run Tryz.prog w = .ok (.slice (some ⟨nb,0,none⟩) (n+1) c2) W1)
  (nX:∀ty dc,(Builtin.copy_ #[28,28] ty #[.slice (some ⟨nb,i*10,none⟩) (n+1 - i) dc, .slice (some ⟨vb,cn,none⟩) 1 vc]).run Tryz.prog W1 = .ok r1 W2)
  (nY:∀ty dc sc,(Builtin.copy_ #[28,28] ty #[.slice (some ⟨nb,(i+1)*10,none⟩) (n - i) dc, .slice (some ⟨b,off+i*10,none⟩) (n - i) sc]).run Tryz.prog W2.drew = .ok r2 W3) :
  Calls Tryz.prog 197 #[.slice (some ⟨b,off,none⟩) n c, .int .i64 i, .slice (some ⟨vb,cn,none⟩) 1 vc] w fun e w'=>e = .returned (.slice (some ⟨nb,0,none⟩) (n+1) c2)∧w'=W3:=by
 have mixed:Tryz.prog.follows Departure.mixedOrders=true:=by kernel_rfl
 have ym:¬((i:Int)=(n:Int)):=by omega
 have rE:((i:Int)+1).toNat=i+1:=by omega
 have rW:((n:Int)+1).toNat=n+1:=by omega
 have eh:¬(c2=i+1):=by omega
 have sr:¬(c=i):=by omega
 have KL:¬(c2=i):=by omega
 have jT:(c:Int)<(n:Int)+1:=by omega
 have iG:(0:Int)≤(i:Int)+1:=by omega
 have yn:(i:Int)+1≤(n:Int)+1:=by omega
 have ek:(i:Int)≤(n:Int)+1:=by omega
 have yo:(i:Int)≤(n:Int):=by omega
 have KM:i≤c:=by omega
 have dW:i≤n:=by omega
 have yp:IntKind.i64.wrap ((i:Int)+1)=(i:Int)+1:=by rw[IntKind.wrap_i64]; omega
 have yq:IntKind.i64.wrap ((n:Int)+1)=(n:Int)+1:=by rw[IntKind.wrap_i64]; omega
 have KN:IntKind.i64.wrap ((n:Int)+1 - (i:Int))=(n:Int)+1 - (i:Int):=by rw[IntKind.wrap_i64]; omega
 go_enter Tryz.func197,Tryz.ntmps197
 go_wp2_with (first | (at_builtin; refine Lib.wpList_append_run _ rfl _ _ _ _ rfl _ _ rfl rfl _ _ (iW _) ?_) | (at_builtin; refine wpList_copy_runI _ rfl _ _ _ _ rfl _ _ rfl rfl (nX _ _) ?_))
 go_region_law_o (refine step_copy_runI rfl _ _ _ _ rfl _ _ (by simp[Act.eval,Act.put]) (by simp[Act.eval,Act.put]) (nY _ _ _) ?_)
 go_wp2
 all_goals (go_ret; exact⟨rfl,rfl⟩)
set_option maxHeartbeats 4000000 in
theorem KV (xs:List ax) (y:ax) (i:Nat) (hi:i≤xs.length) (sG:xs.length≤aN):bJ Tryz.prog 197 [oN 0,nT fun _=>i,oN 1] [(0,aH .aE fun _=>xs),(1,aH .aE fun _=>[y])] (dx (lR .aE fun _=>xs.take i++y::xs.drop i) []):=by
 refine vQ ⟨_,Tryz.func197,rfl,rfl⟩ (fun k hk=>by(have q:k=0∨k=1:=by simpa [ay] using hk); omega) fun w vs ρ hr ha=> ?_;have sG:xs.length≤1048576:=sG;obtain⟨bq,hv⟩:=ha;have e0:vs.getD 0 Go.undef=(ρ 0).1:=(hv 0 _ rfl).2;have e1:vs.getD 1 Go.undef = .int .i64 (i:Int):=qJ (hv 1 _ rfl);have e2:vs.getD 2 Go.undef=(ρ 1).1:=(hv 2 _ rfl).2;have gY:=vR (vs:=vs) bq;rw[e0,e1,e2] at gY;have ho:bx w.heap (.list .aE fun _=>xs) (ρ 0).1 (ρ 0).2:=hr.ah 0 _ List.mem_cons_self;have sH:bx w.heap (.list .aE fun _=>[y]) (ρ 1).1 (ρ 1).2:=hr.ah 1 _ (List.mem_cons_of_mem _ List.mem_cons_self);have gK:∀x,aT ρ [(0,aH .aE fun _=>xs),(1,aH .aE fun _=>[y])] x=(ρ 0).2 x+(ρ 1).2 x:=fun x=>by simp[aT]
 have fZ:∀x,(ρ 0).2 x+(ρ 1).2 x≤1:=fun x=>by have:=hr.sum x; rwa [gK] at this
 have lv:∀x,0<(ρ 0).2 x+(ρ 1).2 x→x<w.heap.size:=fun x hx=>by
   have:∃cs e fz,w.heap[x]? = some (.cells cs e fz):=by
     rcases Nat.eq_zero_or_pos ((ρ 0).2 x) with h | h
     · exact sH.there x (by omega)
     · exact ho.there x h
   obtain⟨_,_,_,h⟩:=this;rcases Nat.lt_or_ge x w.heap.size with h' | h'
   · exact h'
   · rw[Array.getElem?_eq_none h'] at h; cases h
 obtain⟨ht,inf,z,fe,dK,iw,hz,sF,jS⟩:=ly au (T:=28) (E:= .aE) rfl;rcases sH.fY with⟨_,h,_⟩ | ⟨vb,cn,vc,nZ,ue,KP,U,jU,sI,eh,mO,gP,pG,n_,jV⟩
 · cases h
 have gP:1≤vc:=gP;have jV:bO w.heap .aE [y] (fun q=>nZ.getD (cn+q) Go.undef) U:=jV;have jU:(ρ 1).1 = .slice (some ⟨vb,cn,none⟩) 1 vc:=jU
 have fin:∀{v:Value} {q:Nat→Nat} {w':World},bx w'.heap (.list .aE fun _=>xs.take i++y::xs.drop i) v q→Ext w w'→(∀x,x<w.heap.size→(ρ 0).2 x=0→w'.heap[x]? = w.heap[x]?)→(∀x,x<w.heap.size→q x≤(ρ 0).2 x+(ρ 1).2 x)→(∀x,q x≤1)→
     ∃ v' q',Ending.returned v = .returned v'∧bx w'.heap (.list .aE fun _=>xs.take i++y::xs.drop i) v' q'∧Ext w w'∧(∀x,x<w.heap.size→aT ρ [(0,aH .aE fun _=>xs),(1,aH .aE fun _=>[y])] x=0→w'.heap[x]? = w.heap[x]?)∧(∀x,x<w.heap.size→q' x≤aT ρ [(0,aH .aE fun _=>xs),(1,aH .aE fun _=>[y])] x)∧∀x,q' x≤1:=fun a b c d e=>
   ⟨_,_,rfl,a,b,fun x hx h0=>c x hx (by rw[gK] at h0; omega),fun x hx=>by rw[gK]; exact d x hx,e⟩
 rcases Nat.lt_or_ge i xs.length with aQ | k_
 · -- not at the end
   rcases ho.fY with⟨_,h,_⟩ | ⟨b,off,c,cs,e,fz,S,cF,hp,hb,hf,hl,hm,eM,cB⟩
   · have h:xs = []:=h;rw[h] at aQ; simp at aQ
   have hl:xs.length≤c:=hl;have cB:bO w.heap .aE xs (fun q=>cs.getD (off+q) Go.undef) S:=cB
   have KQ:(ρ 0).2 b=1∧(ρ 1).2 b=0:=by
     have h1:=fZ b;have h2:0<(ρ 0).2 b:=by rw[hp]; exact kQ _ _ _ _
     omega
   have yr:0<(ρ 1).2 vb:=by rw[sI]; exact kQ _ _ _ _
   have hne:vb≠b:=fun he=>by rw[he] at yr; omega
   have e3:xs.length*av.sz .aE≤c*av.sz .aE:=Nat.mul_le_mul_right _ hl;obtain⟨uA,us,KR,fM,oR,pH,KS⟩:=qK (P:=Tryz.prog) (E:= .aE) (xs:=[y]) (k:=0) (Nat.zero_le _) gP eh n_ jV ht;have fM:us.length=av.sz .aE:=by rw[fM]; simp
   have sJ:bO w.heap .aE [y] (fun q=>us.getD q Go.undef) U:=jV.cells fun q hq=>by
     have hq:q<av.sz .aE:=by simpa using hq
     rw[oR q (by rw[fM]; exact hq)]; simp
   have sK:∀j v,us[j]? = some v→w.cell? ((⟨vb,cn,none⟩:Addr).add j)=some v:=fun j v hj=>by
     have hq:=bC hj;have h3:us.getD j Go.undef=v:=by rw[List.getD_eq_getElem?_getD,hj]; rfl
     rw[←h3,oR j hq,fj,Nat.zero_mul,Nat.add_zero]
     exact cell_of eh (getD_some (by
       have:cn+vc*av.sz .aE≤nZ.size:=n_;have h4:=Nat.mul_le_mul_right (av.sz .aE) gP;omega))
   have fF:w.drew.heap[b]? = some (.cells cs e fz):=hb;obtain⟨nA,news,oa,gZ,dP,lJ,_⟩:=qK (P:=Tryz.prog) (w:=w) (E:= .aE) (xs:=xs) (k:=i) hi hl hb eM cB ht
   have oa:nA=⟨b,off+i*av.sz .aE,none⟩:=by
     rw[if_neg (by omega)] at oa; exact(Option.some.inj oa).symm
   have e1:i*av.sz .aE+(xs.length - i)*av.sz .aE=xs.length*av.sz .aE:=by rw[←Nat.add_mul]; congr 1; omega
   have sL:∀j v,news[j]? = some v→w.cell? ((⟨b,off+i*av.sz .aE,none⟩:Addr).add j)=some v:=fun j v hj=>by
     have hq:=bC hj;have h3:news.getD j Go.undef=v:=by rw[List.getD_eq_getElem?_getD,hj]; rfl
     rw[←h3,dP j hq,fj];rw[gZ] at hq;exact cell_of hb (getD_some (by omega))
   have e4:(i+1)*av.sz .aE=i*av.sz .aE+av.sz .aE:=by rw[Nat.add_mul]; omega
   have e5:(xs.length+1)*av.sz .aE=xs.length*av.sz .aE+av.sz .aE:=by rw[Nat.add_mul]; omega
   rcases Nat.lt_or_ge c (xs.length+1) with hg | gC
   · -- a new row
     obtain⟨gz,lU,hold,yt⟩:=E0 (P:=Tryz.prog) (w:=w.drew) (E:= .aE) (xs:=xs) (k:=i) hi hl fF eM cB;have gU:0<xs.length+1 - i:=by omega
     have cR:=fun ty=>run_append_grow_zeros (P:=Tryz.prog) w 28 3 ty _ inf z .i64 .i64 ht Tryz.underlying3 fe hz (some ⟨b,off,none⟩) i c gz (by rw[dK]; exact yt) (xs.length+1 - i) gU (by rw[dK]; decide) (by omega) (by omega) (by rw[iw]; omega) (by
       rw[iw]; exact growslice_fits (by omega) (by omega))
     have jW:=grownCap_ge w (i+(xs.length+1 - i)) c 45;rw[show i+(xs.length+1 - i)=xs.length+1 by omega] at cR jW;generalize grownCap w (xs.length+1) c 45=C at cR jW;generalize nC:gz.toArray++Builtin.zeroCells z.cells (xs.length+1 - i)++Builtin.zeroCells z.cells (C - (xs.length+1))=cells at cR
     have dB:cells.size=C*av.sz .aE:=by
       rw[←nC];simp only[Array.size_append,List.size_toArray,Builtin.zeroCells,Array.size_map,Array.size_range,jS,lU];rw[←Nat.add_mul,←Nat.add_mul]
       congr 1; omega
     have ck:∀q,q<i*av.sz .aE→cells.getD q Go.undef=cs.getD (off+q) Go.undef:=fun q hq=>by
       rw[←hold q (by rw[lU]; exact hq),←nC,Array.getD_eq_getD_getElem?,Array.getElem?_append_left (by simp[lU]; omega),Array.getElem?_append_left (by simp[lU]; omega),List.getElem?_toArray,List.getD_eq_getElem?_getD]
     obtain⟨W1,lV⟩:∃W1,W1=w.drew.alloc (.cells cells 45):=⟨_,rfl⟩;have k1:W1.heap[w.heap.size]? = some (.cells cells 45 (0,0)):=by rw[lV]; show(w.heap.push _)[w.heap.size]? = _; simp
     have k2:∀x,x<w.heap.size→W1.heap[x]? = w.heap[x]? :=fun x hx=>by rw[lV]; show(w.heap.push _)[x]? = _; rw[Array.getElem?_push,if_neg (Nat.ne_of_lt hx)]
     have k3:Ext w W1:=by rw[lV]; exact(show Ext w w.drew from Ext.of (Nat.le_refl _) rfl rfl fun _=>rfl).trans (tj w.drew _ _)
     have yu:vb<w.heap.size:=lv vb (by omega);have sM:b<w.heap.size:=lv b (by omega);have e6:(xs.length+1)*av.sz .aE≤C*av.sz .aE:=Nat.mul_le_mul_right _ jW
     obtain⟨W2,c1,c2,c3,c4⟩:=nk (P:=Tryz.prog) (w:=W1) (o:=i*av.sz .aE) (dLen:=xs.length+1 - i) (sLen:=1) (m:=1) (T2:=28) k1 (nz _) ht fe (by simp only[Nat.min_def]; split <;> omega) (by rw[dK,fM,Nat.one_mul]) (fun j v hj=>by
       have:=sK j v hj;rw[fj] at this ⊢;rw[World.cell?,k2 vb yu]; exact this) (by rw[fM,dB]; omega) pH
     have yv:W2.drew.heap[w.heap.size]? = _:=c2
     obtain⟨W3,d1,d2,d3,d4⟩:=nk (P:=Tryz.prog) (w:=W2.drew) (o:=(i+1)*av.sz .aE) (dLen:=xs.length - i) (sLen:=xs.length - i) (m:=xs.length - i) (T2:=28) yv (nz _) ht fe (by simp only[Nat.min_def]; split <;> omega) (by rw[dK,gZ]) (fun j v hj=>by
       have:=sL j v hj;rw[fj] at this ⊢;rw[World.cell?,show W2.drew.heap[b]? = W2.heap[b]? from rfl,c3 b (Nat.ne_of_lt sM),k2 b sM]; exact this) (by rw[gZ,eJ,dB]; omega) lJ
     have jX:=Sy w W1 W2 W3 b off xs.length c i vb cn vc w.heap.size C _ _ aQ hg hl (by omega) jW (fun ty=>by
       have:=cR ty;rw[show((xs.length+1 - i:Nat):Int)=(xs.length:Int)+1 - (i:Int) by omega] at this;rw[lV]; exact this) (fun ty dc=>c1 ty dc vc) (fun ty dc sc=>d1 ty dc sc)
     rw[gY,cF,jU];refine jX.mono fun e' w' he=> ?_;obtain⟨rfl,rfl⟩:=he;refine fin (EZ (E:= .aE) rfl hi jW (by unfold cM; omega) dB cB sJ ck gZ dP fM d2) (k3.trans (c4.trans ((show Ext W2 W2.drew from Ext.of (Nat.le_refl _) rfl rfl fun _=>rfl).trans d4))) (fun x hx h0=> ?_) (fun x hx=> ?_) (fun x=> ?_)
     · rw[d3 x (Nat.ne_of_lt hx),show W2.drew.heap[x]? = W2.heap[x]? from rfl,c3 x (Nat.ne_of_lt hx),k2 x hx]
     · rw[jF,if_neg (Nat.ne_of_lt hx)]; omega
     · rw[jF]; split <;> omega
   · -- in place
     have e6:(xs.length+1)*av.sz .aE≤c*av.sz .aE:=Nat.mul_le_mul_right _ gC
     have nW:∀lb cb,(callFunc 248 #[.slice (some ⟨vb,cn,none⟩) 1 vc, .slice (some ⟨b,off+(i+1)*av.sz .aE,none⟩) lb cb]).run Tryz.prog w = .ok (.value (.bool false)) w:=fun lb cb=>by
       rw [run_callFunc_extern Tryz.func248 (by kernel_rfl) (by kernel_rfl) (by kernel_rfl) (e:=Extern.SlicesOverlaps.overlaps #[28,28] #[4]) (by kernel_rfl),
        Lib.run_overlaps_apart w 28 4 45 ht (av.sz .aE) (fun w=>by simp[sizeOf,typeInfo,fe,dK]) ⟨vb,cn,none⟩ ⟨b,off+(i+1)*av.sz .aE,none⟩ 1 vc lb cb hne ue e nZ.size cs.size (by simp[World.shape?,eh]) (by simp[World.shape?,hb]) (by
         have:0<av.sz .aE:=by decide
         omega) (vS eh mO _) (vS eh mO _)]
       rfl
     obtain⟨W1,c1,c2,c3,c4⟩:=nk (P:=Tryz.prog) (w:=w.drew) (o:=off+(i+1)*av.sz .aE) (dLen:=xs.length - i) (sLen:=xs.length+1 - i) (m:=xs.length - i) (T2:=28) fF hf ht fe (by simp only[Nat.min_def]; split <;> omega) (by rw[dK,gZ]) sL (by rw[gZ]; omega) lJ;have ql:NF (dL cs (off+(i+1)*av.sz .aE) news) fz:=by rcases hf with h | h; exact .inl h; exact .inr (by rw[eJ]; exact h)
     obtain⟨W2,d1,d2,d3,d4⟩:=nk (P:=Tryz.prog) (w:=W1) (o:=off+i*av.sz .aE) (dLen:=xs.length+1 - i) (sLen:=1) (m:=1) (T2:=28) c2 ql ht fe (by simp only[Nat.min_def]; split <;> omega) (by rw[dK,fM,Nat.one_mul]) (fun j v hj=>by
       have:=sK j v hj;rw[fj] at this ⊢;rw[World.cell?,c3 vb hne]; exact this) (by rw[fM,eJ]; omega) pH
     have jX:=Sx w W1 W2 b off xs.length c i vb cn vc _ _ aQ gC (by omega) nW (fun ty dc sc=>c1 ty dc sc) (fun ty dc=>d1 ty dc vc);rw[gY,cF,jU];refine jX.mono fun e' w' he=> ?_;obtain⟨rfl,rfl⟩:=he;refine fin (EY (E:= .aE) rfl hi hf gC (by unfold cM; omega) eM cB sJ gZ dP fM d2) ((show Ext w w.drew from Ext.of (Nat.le_refl _) rfl rfl fun _=>rfl).trans (c4.trans d4)) (fun x hx h0=> ?_) (fun x hx=> ?_) (fun x=> ?_)
     · have jn:x≠b:=fun he=>by rw[he] at h0; omega
       rw[d3 x jn,c3 x jn]; rfl
     · rw[jF]
       split
       · rename_i he; rw[he]; omega
       · omega
     · rw[jF]; split <;> omega
 · -- at the end
   obtain rfl:i=xs.length:=by omega
   obtain⟨news,hN⟩:=jz.of (c:=vc) eh (by have:=Nat.mul_le_mul_right (av.sz .aE) gP; simpa using Nat.le_trans (Nat.add_le_add_left this cn) n_) jV;obtain⟨v,p,w',g1,g2,g3,g4,g5,g6⟩:=w5 (P:=Tryz.prog) (w:=w) (E:= .aE) (xs:=xs) (ys:=[y]) (vy:= .slice (some ⟨vb,cn,none⟩) 1 vc) (py:=(ρ 1).2) (T:=28) (T2:=28) (ty:=0) ho (hN.zw ht) (fun x=>by rw[sI]; simp only[b0,cp]; exact Nat.le_add_left _ _) fZ lv ht fe hz dK jS (by rw[iw]; decide) (by rw[iw]; simp only[List.length_cons,List.length_nil]; omega)
   obtain⟨base,c,cF⟩:∃base c,(ρ 0).1 = .slice base xs.length c:=by
     rcases ho.fY with⟨h1,h2,_⟩ | ⟨b,off,c,cs,e,fz,S,cF,_⟩
     · have h2:xs = []:=h2;exact⟨none,0,by rw[h1,h2]; rfl⟩
     · exact⟨_,c,cF⟩
   have jX:=Sw w w' base xs.length c vb cn vc v (fun ty=>by rw[cF] at g1; exact g1);rw[gY,cF,jU];refine jX.mono fun e' s8 he=> ?_;obtain⟨rfl,rfl⟩:=he;have e7:xs.take xs.length++y::xs.drop xs.length=xs ++ [y]:=by simp
   refine fin (by rw[e7]; exact g2) g3 g4 g5 (fun x=> ?_);rcases Nat.lt_or_ge x w.heap.size with h | h
   · exact Nat.le_trans (g5 x h) (fZ x)
   · exact g6 x h
end Go.Proofs.YtpklefhdkkegiaaGreat

