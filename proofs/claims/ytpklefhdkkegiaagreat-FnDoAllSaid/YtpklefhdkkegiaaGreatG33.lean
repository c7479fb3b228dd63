/- Parts of a proof. No conditions. -/

import Derived.Test.YtpklefhdkkegiaaGreatG31
import Derived.Test.YtpklefhdkkegiaaGreatG29
import Derived.Test.YtpklefhdkkegiaaGreatG32
import Derived.Test.YtpklefhdkkegiaaGreatGRetK
set_option linter.unusedSimpArgs false
set_option linter.unusedVariables false
namespace Go.Proofs.YtpklefhdkkegiaaGreat
open Go
set_option maxRecDepth 100000
theorem Mc (h:ai) (k:Int):(bj h k).length≤10:=by
 unfold bj; split
 · rw[sO,List.length_map]; exact Fp _ _
 · exact Nat.zero_le _
structure Uc (h:ai) (k:Int) (i j n:Nat) (c:ba) (E:ai) (p:ax):Prop where
 o :b_ E j n p c
 st:p.st=2
 id:p.id=(bj h k).getD ((i:Int)).toNat default
 at_:br E.ae ((bj h k).getD ((i:Int)).toNat default)=(j:Int)
 next:cw ((bj h k).take (i+1)) h=dz E p
theorem Md {h:ai} {k:Int} {i:Nat} (hi:i<(bj h k).length):∃j n c,Uc h k i j n c (cw ((bj h k).take i) h) ((cw ((bj h k).take i) h).ae.getD ((j:Int)).toNat default):=by
 obtain⟨n,hk,hn,I⟩:=TT hi;rw[←List.getElem_cons_drop hi] at I;obtain⟨j,c,o,st,fI,sY⟩:=I.at_ hn;have gi:(bj h k).getD ((i:Int)).toNat default=(bj h k)[i]:=sP hi
 have pe:(cw ((bj h k).take i) h).ae.getD ((j:Int)).toNat default=cN (cw ((bj h k).take i) h) (bj h k)[i]:=by
  rw[cN,sY,List.getD_eq_getElem?_getD]
 refine⟨j,n,c, ?_⟩;rw[pe];exact⟨o,st,by rw[gi]; exact fI,by rw[gi]; exact sY,LU hi h⟩
set_option maxHeartbeats 4000000 in
theorem Ud (h:ai) (k:Int) (hs:a_ h) (x:ai) (hx:x=cK h k):Spec Tryz.prog 66 [cG h,iA k] (aG (kB fun _=>x)):=by
 have dj:=Mc h k;refine aF au Tryz.func66 rfl rfl (fr:=true) (fun _=>by kernel_rfl) fun P hP hA=> ?_;cbv;refine af.by hP (jI h hs) ?_;cbv;refine af.by hP (Bb h k hs (bj h k) rfl) ?_;cbv;refine aR.by (X:=Nat) (fun i=>[(4,pN 0),(5,pN 1),(12,oN 7),(13,nT fun _=>(bj h k).length),(14,nT fun _=>i)]) (fun i=>[(0, .box [.nil, .lf (.int .i64 fun _=>0), .lf (.int .i64 fun _=>0), .lf (.int .i64 fun _=>0), .lf (.int .i64 fun _=>0), .lf (.int .i64 fun _=>0), .lf (.int .i64 fun _=>0), .lf (.int .i64 fun _=>0), .lf (.int .i64 fun _=>0), .lf (.int .i64 fun _=>0), .lf (.int .i64 fun _=>0), .nil, .nil, .nil, .nil]),(1, .box [.own 2, .lf (.int .i64 fun _=>(cw ((bj h k).take i) h).rules.bX), .lf (.int .i64 fun _=>(cw ((bj h k).take i) h).rules.room), .lf (.int .i64 fun _=>(cw ((bj h k).take i) h).rules.size), .lf (.int .i64 fun _=>(cw ((bj h k).take i) h).rules.period), .lf (.int .i64 fun _=>(cw ((bj h k).take i) h).rules.bE), .lf (.int .i64 fun _=>(cw ((bj h k).take i) h).rules.rest), .lf (.int .i64 fun _=>(cw ((bj h k).take i) h).rules.tries), .lf (.int .i64 fun _=>(cw ((bj h k).take i) h).rules.bm), .lf (.int .i64 fun _=>(cw ((bj h k).take i) h).now), .lf (.int .i64 fun _=>(cw ((bj h k).take i) h).aA), .own 3, .own 4, .own 5, .own 6]),(2,aH .int fun _=>(cw ((bj h k).take i) h).rules.seats),(3,aH .aE fun _=>(cw ((bj h k).take i) h).ae),(4,aH .ag fun _=>(cw ((bj h k).take i) h).cabins),(5,aH .int fun _=>(cw ((bj h k).take i) h).todo),(6,aH .int fun _=>(cw ((bj h k).take i) h).aq),(7,aH .int fun _=>bj h k)]) (fun i=>i≤(bj h k).length) (fun i _=>(bj h k).length - i) 0 (Nat.zero_le _) ?_ ?_
 · cbv
   repeat' first | exact trivial | refine⟨rfl, ?_⟩ | fail
 · intro i hi
   by_cases h2:i<(bj h k).length
   · obtain⟨j,n,c,r⟩:=Md h2;have oi:0≤(i:Int)∧(i:Int)<((bj h k).length:Int):=by omega
     cbv;refine Br.dec (fun h3=> ?_) (fun h3=> ?_) <;> cbv
     rotate_left
     · have h3:(bj h k).length≤i:=by simp at h3; omega
       omega
     repeat' first
       | exact trivial
       | (refine Ob.mk (oi) ?_; cbv)
       | (refine aD.by hP (Mb (cw ((bj h k).take i) h) r.o.hg.small r.o r.st ((bj h k).getD ((i:Int)).toNat default) r.id (cw ((bj h k).take (i+1)) h) r.next) ?_; cbv)
       | (refine Pz.mk ?_; cbv) | (refine aW.mk ?_ (by kernel_rfl) ?_; rotate_left; cbv; rotate_right) | refine⟨rfl, ?_⟩ | refine And.intro ?_ ?_ | exact rfl | fail
     refine Ar.exact (by(try simp only[nc] at *); omega) (by(try simp only[nc] at *); omega) ?_;cbv;refine aL.by (i+1) ?_ ?_ ?_
     · show(bj h k).length - (i+1)<(bj h k).length - i;omega
     · exact h2
     · cbv
       repeat' first | exact trivial | refine⟨rfl, ?_⟩ | fail
   · have hi:i=(bj h k).length:=by omega
     have hx:x=cw ((bj h k).take i) h:=by rw[hx,hi,List.take_length]; rfl
     cbv;refine Br.dec (fun h3=> ?_) (fun h3=> ?_) <;> cbv
     · have h3:i<(bj h k).length:=by simpa using h3
       omega
     obtain rfl:x=cw ((bj h k).take i) h:=hx
     repeat' first | exact trivial | refine⟨rfl, ?_⟩ | fail
theorem Ue (h:ai) (p:ax) (hr:h.rules.seats.length≤aN) (hl:h.ae.length≤aN) (dw:0≤p.ag∧p.ag<(h.cabins.length:Int)) (hp:iS (aB h p.ag)) (hf:p.al = -1∨∃f,ln h p f) (x:ai) (hx:x=dz h p):bJ Tryz.prog 143 [nf h,eA .aE p] (nU h) (dx (kB fun _=>x) []):=by
 subst hx;exact Ma h p hr hl dw hp hf
set_option maxHeartbeats 4000000 in
theorem Uf (h:ai) (m:Nat) (hs:a_ h) (hg:HG h) (hm:m<h.cabins.length) (k:Int) (hk:k=(m:Int)) (x:ai) (hx:x=cK h k):bJ Tryz.prog 78 [nf h,nT fun _=>m] (nU h) (dx (kB fun _=>x) []):=by
 have dj:=Mc h k;refine fp au Tryz.func78 rfl rfl (fr:=true) (fun _=>by kernel_rfl) rfl rfl fun P hP hA hB=> ?_;cbv;refine af.by hP (LJ h hs m hm (bj h k) (by rw[hk]; exact yK hg (List.getElem?_eq_getElem hm))) ?_;cbv;refine aR.by (X:=Nat) (fun i=>[(4,pN 0),(2,pN 1),(5,oN 7),(6,nT fun _=>i)]) (fun i=>[(0, .box [.nil, .lf (.int .i64 fun _=>0), .lf (.int .i64 fun _=>0), .lf (.int .i64 fun _=>0), .lf (.int .i64 fun _=>0), .lf (.int .i64 fun _=>0), .lf (.int .i64 fun _=>0), .lf (.int .i64 fun _=>0), .lf (.int .i64 fun _=>0), .lf (.int .i64 fun _=>0), .lf (.int .i64 fun _=>0), .nil, .nil, .nil, .nil]),(1, .box [.own 2, .lf (.int .i64 fun _=>(cw ((bj h k).take i) h).rules.bX), .lf (.int .i64 fun _=>(cw ((bj h k).take i) h).rules.room), .lf (.int .i64 fun _=>(cw ((bj h k).take i) h).rules.size), .lf (.int .i64 fun _=>(cw ((bj h k).take i) h).rules.period), .lf (.int .i64 fun _=>(cw ((bj h k).take i) h).rules.bE), .lf (.int .i64 fun _=>(cw ((bj h k).take i) h).rules.rest), .lf (.int .i64 fun _=>(cw ((bj h k).take i) h).rules.tries), .lf (.int .i64 fun _=>(cw ((bj h k).take i) h).rules.bm), .lf (.int .i64 fun _=>(cw ((bj h k).take i) h).now), .lf (.int .i64 fun _=>(cw ((bj h k).take i) h).aA), .own 3, .own 4, .own 5, .own 6]),(2,aH .int fun _=>(cw ((bj h k).take i) h).rules.seats),(3,aH .aE fun _=>(cw ((bj h k).take i) h).ae),(4,aH .ag fun _=>(cw ((bj h k).take i) h).cabins),(5,aH .int fun _=>(cw ((bj h k).take i) h).todo),(6,aH .int fun _=>(cw ((bj h k).take i) h).aq),(7,aH .int fun _=>bj h k)]) (fun i=>i≤(bj h k).length) (fun i _=>(bj h k).length - i) 0 (Nat.zero_le _) ?_ ?_
 · cbv
   repeat' first | exact trivial | refine⟨rfl, ?_⟩ | fail
 · intro i hi
   by_cases h2:i<(bj h k).length
   · obtain⟨j,n,c,r⟩:=Md h2;have oi:0≤(i:Int)∧(i:Int)<((bj h k).length:Int):=by omega
     obtain⟨hj,_⟩:=r.o.lt;have oj:0≤(j:Int)∧(j:Int)<((cw ((bj h k).take i) h).ae.length:Int):=by omega
     have sE:=r.o.hg.small;cbv;refine Br.dec (fun h3=> ?_) (fun h3=> ?_) <;> cbv
     rotate_left
     · have h3:(bj h k).length≤i:=by simp at h3; omega
       omega
     repeat' first
       | exact trivial
       | (refine Ob.mk (oi) ?_; cbv)
       | (refine Ob.mk (oj) ?_; cbv)
       | (refine af.by hP (sw (cw ((bj h k).take i) h) ((bj h k).getD ((i:Int)).toNat default) (j:Int) r.at_.symm) ?_; cbv)
       | (refine aD.by hP (Ue (cw ((bj h k).take i) h) ((cw ((bj h k).take i) h).ae.getD ((j:Int)).toNat default) sE.1 sE.2.1 r.o.lY (by rw[r.o.iJ]; exact sE.2.2.1.2 c (List.mem_of_getElem? r.o.hk)) r.o.al (cw ((bj h k).take (i+1)) h) r.next) ?_; cbv)
       | (refine Pz.mk ?_; cbv) | (refine aW.mk ?_ (by kernel_rfl) ?_; rotate_left; cbv; rotate_right) | refine⟨rfl, ?_⟩ | refine And.intro ?_ ?_ | exact rfl | fail
     all_goals
       refine Ar.exact (by(try simp only[nc] at *); omega) (by(try simp only[nc] at *); omega) ?_;cbv;refine aL.by (i+1) ?_ ?_ ?_
       · show(bj h k).length - (i+1)<(bj h k).length - i;omega
       · exact h2
       · cbv
         repeat' first | exact trivial | refine⟨rfl, ?_⟩ | fail
   · have hi:i=(bj h k).length:=by omega
     have hx:x=cw ((bj h k).take i) h:=by rw[hx,hi,List.take_length]; rfl
     cbv;refine Br.dec (fun h3=> ?_) (fun h3=> ?_) <;> cbv
     · have h3:i<(bj h k).length:=by simpa using h3
       omega
     obtain rfl:x=cw ((bj h k).take i) h:=hx
     repeat' first | exact trivial | refine⟨rfl, ?_⟩ | fail
set_option maxHeartbeats 4000000 in
theorem Bu (h:ai) (k:Int) (hs:a_ h) (x:ai) (hx:x=(bH h k).1) (y:List Int) (hy:y=(bH h k).2):Spec Tryz.prog 20 [cG h,iA k] (aG (.aS [(true,fb fun _=>x),(false,[.own .int fun _=>y])])):=by
 have FG:a_ (cK h k)∧l3 k (cK h k) []=(x,y)∧(cH (cK h k) k=0∨([]:List Int).length+dV (cK h k) k≤10):=by
   refine⟨LX hs k,by rw[hx,hy]; rfl, ?_⟩
   by_cases hv:cH (cK h k) k=0
   · exact .inl hv
   · exact .inr (by have:=(nr hv).2.2.2.2.2.2.2.2; simpa using this)
 refine aF au Tryz.func20 rfl rfl (fr:=true) (fun _=>by kernel_rfl) fun P hP hA=> ?_;cbv;refine af.by hP (Ud h k hs (cK h k) rfl) ?_;cbv;refine aR.by (X:=ai × List Int) (fun s=>[(1,iA k),(4,pN 0),(6,pN 1),(7,oN 7)]) (fun s=>[(0, .box [.nil, .lf (.int .i64 fun _=>0), .lf (.int .i64 fun _=>0), .lf (.int .i64 fun _=>0), .lf (.int .i64 fun _=>0), .lf (.int .i64 fun _=>0), .lf (.int .i64 fun _=>0), .lf (.int .i64 fun _=>0), .lf (.int .i64 fun _=>0), .lf (.int .i64 fun _=>0), .lf (.int .i64 fun _=>0), .nil, .nil, .nil, .nil]),(1, .box [.own 2, .lf (.int .i64 fun _=>(s.1).rules.bX), .lf (.int .i64 fun _=>(s.1).rules.room), .lf (.int .i64 fun _=>(s.1).rules.size), .lf (.int .i64 fun _=>(s.1).rules.period), .lf (.int .i64 fun _=>(s.1).rules.bE), .lf (.int .i64 fun _=>(s.1).rules.rest), .lf (.int .i64 fun _=>(s.1).rules.tries), .lf (.int .i64 fun _=>(s.1).rules.bm), .lf (.int .i64 fun _=>(s.1).now), .lf (.int .i64 fun _=>(s.1).aA), .own 3, .own 4, .own 5, .own 6]),(2,aH .int fun _=>(s.1).rules.seats),(3,aH .aE fun _=>(s.1).ae),(4,aH .ag fun _=>(s.1).cabins),(5,aH .int fun _=>(s.1).todo),(6,aH .int fun _=>(s.1).aq),(7,aH .int fun _=>s.2)]) (fun s=>a_ s.1∧l3 k s.1 s.2=(x,y)∧(cH s.1 k=0∨s.2.length+dV s.1 k≤10)) (fun s _=>dV s.1 k) (cK h k,[]) FG ?_ ?_
 · cbv
   repeat' first | exact trivial | refine⟨rfl, ?_⟩ | fail
 · intro ⟨E,ids⟩ ⟨hE,ht,hl⟩;have hE:a_ E:=hE;have ht:l3 k E ids=(x,y):=ht;have hl:cH E k=0∨ids.length+dV E k≤10:=hl
   by_cases hv:cH E k=0
   · rw[ui hv] at ht;obtain⟨rfl,rfl⟩:=Prod.mk.inj ht;cbv;refine af.by hP (Me E k hE E (if_pos hv).symm 0 hv.symm) ?_;cbv;refine Br.split (fun k0=> ?_) (fun k0=> ?_) <;> cbv
     · repeat' first | exact trivial | refine⟨rfl, ?_⟩ | fail
     · have k0:((0:Int) == 0)=false:=k0;cases k0
   · have hl:=hl.resolve_left hv;obtain⟨_,yw,_,_,_,_,_,hr,Ui⟩:=nr hv;have ob:(ids.length+1)*8≤140737488355328:=by omega
     rw[LY hv] at ht;cbv;refine af.by hP (Me E k hE (dU E k) rfl (cH E k) rfl) ?_;cbv;refine Br.split (fun k0=> ?_) (fun k0=> ?_) <;> cbv
     · have k0:(cH E k == 0)=true:=k0;exact absurd (by simpa using k0) hv
     repeat' first
       | exact trivial
       | (refine Ob.mk (ob) ?_; cbv)
       | (refine Pz.mk ?_; cbv) | (refine aW.mk ?_ (by kernel_rfl) ?_; rotate_left; cbv; rotate_right) | refine⟨rfl, ?_⟩ | refine And.intro ?_ ?_ | exact rfl | fail
     refine aL.by (dU E k,ids ++ [cH E k]) ?_ ?_ ?_
     · show dV (dU E k) k<dV E k;omega
     · refine⟨yw.small,ht, ?_⟩
       by_cases ml:cH (dU E k) k=0
       · exact .inl ml
       · exact .inr (by show(ids ++ [cH E k]).length+dV (dU E k) k≤10; rw[List.length_append,List.length_singleton]; omega)
     · cbv
       repeat' first | exact trivial | refine⟨rfl, ?_⟩ | fail
set_option maxHeartbeats 2000000 in
theorem Uj (h:ai) (n:Nat) (hs:a_ h) (hg:HG h) (hn:n<h.cabins.length) (hv:mo h h.cabins[n]=0):bJ Tryz.prog 79 [nf h,nT fun _=>n] (nU h) (Aq (.aS [(true,Kk (nf h)),(false,[.lf (.int .i64 fun _=>0)])]) (Ug h)):=by
 refine Jq au Tryz.func79 rfl rfl (fr:=true) (fun _=>by kernel_rfl) rfl rfl fun P hP hA hB=> ?_;cbv;refine af.by hP (Ky h n hn (dy.2 hg) (mo h h.cabins[n]) rfl) ?_;cbv;refine Br.split (fun k0=> ?_) (fun k0=> ?_) <;> cbv
 · repeat' first | exact trivial | refine⟨rfl, ?_⟩ | fail
 · have k0:(mo h h.cabins[n] == 0)=false:=k0;rw[hv] at k0; cases k0
set_option maxHeartbeats 4000000 in
theorem Bv (h:ai) (k:Int) (hs:a_ h) (x:ai) (hx:x=(bH h k).1) (y:List Int) (hy:y=(bH h k).2):Spec Tryz.prog 26 [cG h,iA k] (aG (.aS [(true,fb fun _=>x),(false,[.own .int fun _=>y])])):=by
 by_cases hc:cu h k=true
 rotate_left
 · have hd:bj h k = []:=we (by simpa using hc);have he:cK h k=h:=by rw[cK,hd]; rfl
   have hn:cH (cK h k) k=0:=by rw[he,cH,if_neg hc]
   obtain rfl:x=h:=by rw[hx,bH,ui hn]; exact he
   obtain rfl:y = []:=by rw[hy,bH,ui hn]
   refine aF au Tryz.func26 rfl rfl (fr:=true) (fun _=>by kernel_rfl) fun P hP hA=> ?_;cbv;refine af.by hP (kg x hs) ?_;cbv;refine af.by hP (EN x k hs (cu x k) rfl) ?_;cbv;refine Br.split (fun k0=> ?_) (fun k0=> ?_) <;> cbv
   · repeat' first | exact trivial | refine⟨rfl, ?_⟩ | fail
   · have k0:(!cu x k)=false:=k0;exact absurd (by simpa using k0) hc
 obtain⟨hg,n,cb,hk,rfl⟩:=sS hc;have hn:=bC hk;have I:=pP hg hn
 have FG:(HG (cK h (n:Int))∧(cK h (n:Int)).cabins.length=h.cabins.length)∧l3 (n:Int) (cK h (n:Int)) []=(x,y)∧(cH (cK h (n:Int)) (n:Int)=0∨([]:List Int).length+dV (cK h (n:Int)) (n:Int)≤10):=by
   refine⟨⟨I.hg,I.len⟩,by rw[hx,hy]; rfl, ?_⟩
   by_cases hv:cH (cK h (n:Int)) (n:Int)=0
   · exact .inl hv
   · exact .inr (by have:=(nr hv).2.2.2.2.2.2.2.2; simpa using this)
 refine aF au Tryz.func26 rfl rfl (fr:=true) (fun _=>by kernel_rfl) fun P hP hA=> ?_;cbv;refine af.by hP (kg h hs) ?_;cbv;refine af.by hP (EN h (n:Int) hs (cu h (n:Int)) rfl) ?_;cbv;refine Br.split (fun k0=> ?_) (fun k0=> ?_) <;> cbv
 · have k0:(!cu h (n:Int))=true:=k0;rw[hc] at k0; cases k0
 refine aD.by hP (Uf h n hs hg hn (n:Int) rfl (cK h (n:Int)) rfl) ?_;cbv;refine aR.by (X:=ai × List Int) (fun s=>[(1,nT fun _=>n),(4,pN 0),(6,pN 1),(7,oN 7)]) (fun s=>[(0, .box [.nil, .lf (.int .i64 fun _=>0), .lf (.int .i64 fun _=>0), .lf (.int .i64 fun _=>0), .lf (.int .i64 fun _=>0), .lf (.int .i64 fun _=>0), .lf (.int .i64 fun _=>0), .lf (.int .i64 fun _=>0), .lf (.int .i64 fun _=>0), .lf (.int .i64 fun _=>0), .lf (.int .i64 fun _=>0), .nil, .nil, .nil, .nil]),(1, .box [.own 2, .lf (.int .i64 fun _=>(s.1).rules.bX), .lf (.int .i64 fun _=>(s.1).rules.room), .lf (.int .i64 fun _=>(s.1).rules.size), .lf (.int .i64 fun _=>(s.1).rules.period), .lf (.int .i64 fun _=>(s.1).rules.bE), .lf (.int .i64 fun _=>(s.1).rules.rest), .lf (.int .i64 fun _=>(s.1).rules.tries), .lf (.int .i64 fun _=>(s.1).rules.bm), .lf (.int .i64 fun _=>(s.1).now), .lf (.int .i64 fun _=>(s.1).aA), .own 3, .own 4, .own 5, .own 6]),(2,aH .int fun _=>(s.1).rules.seats),(3,aH .aE fun _=>(s.1).ae),(4,aH .ag fun _=>(s.1).cabins),(5,aH .int fun _=>(s.1).todo),(6,aH .int fun _=>(s.1).aq),(7,aH .int fun _=>s.2)]) (fun s=>(HG s.1∧s.1.cabins.length=h.cabins.length)∧l3 (n:Int) s.1 s.2=(x,y)∧(cH s.1 (n:Int)=0∨s.2.length+dV s.1 (n:Int)≤10)) (fun s _=>dV s.1 (n:Int)) (cK h (n:Int),[]) FG ?_ ?_
 · cbv
   repeat' first | exact trivial | refine⟨rfl, ?_⟩ | fail
 · intro ⟨E,ids⟩ ⟨⟨gE,lE⟩,ht,hl⟩;have gE:HG E:=gE;have lE:E.cabins.length=h.cabins.length:=lE;have ht:l3 (n:Int) E ids=(x,y):=ht;have hl:cH E (n:Int)=0∨ids.length+dV E (n:Int)≤10:=hl;have Bw:n<E.cabins.length:=by omega
   have eN:=Bj gE (List.getElem?_eq_getElem Bw)
   by_cases hv:cH E (n:Int)=0
   · rw[ui hv] at ht;obtain⟨rfl,rfl⟩:=Prod.mk.inj ht;cbv;refine aD.vE hP (Uj E n gE.small gE Bw (by rw[←eN]; exact hv)) ?_;cbv;refine Br.split (fun k0=> ?_) (fun k0=> ?_) <;> cbv
     · repeat' first | exact trivial | refine⟨rfl, ?_⟩ | fail
     · have k0:((0:Int) == 0)=false:=k0;cases k0
   · have hl:=hl.resolve_left hv;obtain⟨_,yw,_,_,l2,_,_,hr,Ui⟩:=nr hv;have ob:(ids.length+1)*8≤140737488355328:=by omega
     rw[LY hv] at ht;obtain⟨n2,c2,i,p,en,o,st,fr,aZ,ep⟩:=Bk hv;obtain rfl:n2=n:=by omega
     have hr:dV (dU E (n2:Int)) (n2:Int)+1=dV E (n2:Int):=hr;have hl:ids.length+dV E (n2:Int)≤10:=hl;have h3:ids.length+1+dV (dU E (n2:Int)) (n2:Int)≤10:=by omega
     have h4:dV (dU E (n2:Int)) (n2:Int)<dV E (n2:Int):=by omega
     have pe:E.ae.getD ((i:Int)).toNat default=p:=by rw[Int.toNat_natCast,List.getD_eq_getElem?_getD,o.hi]; rfl
     have eH:dU E (n2:Int)=kL E (n2:Int) p:=by rw[dU,if_neg hv,ep]
     have ec:cH E (n2:Int)=mo E c2:=Bj gE o.hk;cbv;refine aD.by hP (Uh E n2 gE.small (i:=i) (cb:=c2) (by rw[pe]; exact o) (by rw[pe]; exact st) (cH E (n2:Int)) (by rw[pe]; exact aZ) ec (dU E (n2:Int)) (by rw[pe]; exact eH)) ?_;cbv;refine Br.split (fun k0=> ?_) (fun k0=> ?_) <;> cbv
     · have k0:(cH E (n2:Int) == 0)=true:=k0;exact absurd (by simpa using k0) hv
     repeat' first
       | exact trivial
       | (refine Ob.mk (ob) ?_; cbv)
       | (refine Pz.mk ?_; cbv) | (refine aW.mk ?_ (by kernel_rfl) ?_; rotate_left; cbv; rotate_right) | refine⟨rfl, ?_⟩ | refine And.intro ?_ ?_ | exact rfl | fail
     refine aL.by (dU E (n2:Int),ids ++ [cH E (n2:Int)]) ?_ ?_ ?_
     · show dV (dU E (n2:Int)) (n2:Int)<dV E (n2:Int);exact h4
     · refine⟨⟨yw,l2.trans lE⟩,ht, ?_⟩
       by_cases ml:cH (dU E (n2:Int)) (n2:Int)=0
       · exact .inl ml
       · exact .inr (by show(ids ++ [cH E (n2:Int)]).length+dV (dU E (n2:Int)) (n2:Int)≤10; rw[List.length_append,List.length_singleton]; exact h3)
     · cbv
       repeat' first | exact trivial | refine⟨rfl, ?_⟩ | fail
end Go.Proofs.YtpklefhdkkegiaaGreat

