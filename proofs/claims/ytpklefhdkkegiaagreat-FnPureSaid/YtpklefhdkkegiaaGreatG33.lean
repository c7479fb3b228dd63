/- Parts of a proof. No conditions. -/

import Derived.Test.YtpklefhdkkegiaaGreatG31
import Derived.Test.YtpklefhdkkegiaaGreatG29
import Derived.Test.YtpklefhdkkegiaaGreatG32
import Derived.Test.YtpklefhdkkegiaaGreatGRetK
set_option linter.unusedSimpArgs false
set_option linter.unusedVariables false
namespace Go.Proofs.YtpklefhdkkegiaaGreat
open Go
set_option maxRecDepth 100000
theorem Qi (h:al) (k:Int):(b0 h k).length≤10:=by
 unfold b0; split
 · rw[ta,List.length_map]; exact H9 _ _
 · exact Nat.zero_le _
structure Qj (h:al) (k:Int) (i j n:Nat) (c:bh) (E:al) (p:ax):Prop where
 o :cE E j n p c
 st:p.st=2
 id:p.id=(b0 h k).getD ((i:Int)).toNat default
 at_:bq E.ae ((b0 h k).getD ((i:Int)).toNat default)=(j:Int)
 next:dI ((b0 h k).take (i+1)) h=fM E p
theorem Qk {h:al} {k:Int} {i:Nat} (hi:i<(b0 h k).length):∃j n c,Qj h k i j n c (dI ((b0 h k).take i) h) ((dI ((b0 h k).take i) h).ae.getD ((j:Int)).toNat default):=by
 obtain⟨n,hk,hn,I⟩:=PT hi;rw[←List.getElem_cons_drop hi] at I;obtain⟨j,c,o,st,mj,vV⟩:=I.at_ hn;have gi:(b0 h k).getD ((i:Int)).toNat default=(b0 h k)[i]:=tc hi
 have pe:(dI ((b0 h k).take i) h).ae.getD ((j:Int)).toNat default=eO (dI ((b0 h k).take i) h) (b0 h k)[i]:=by
  rw[eO,vV,List.getD_eq_getElem?_getD]
 refine⟨j,n,c, ?_⟩;rw[pe];exact⟨o,st,by rw[gi]; exact mj,by rw[gi]; exact vV,Iq hi h⟩
set_option maxHeartbeats 4000000 in
theorem Ql (h:al) (k:Int) (hs:bJ h) (x:al) (hx:x=f_ h k):Spec Tryz.prog 66 [dV h,iA k] (aM (sJ fun _=>x)):=by
 have dy:=Qi h k;refine aN aD Tryz.func66 rfl rfl (fr:=true) (fun _=>by kernel_rfl) fun P hP hA=> ?_;cbv;refine ag.by hP (iE h hs) ?_;cbv;refine ag.by hP (Ps h k hs (b0 h k) rfl) ?_;cbv;refine aW.by (X:=Nat) (fun i=>[(4,pN 0),(5,pN 1),(12,oN 7),(13,nT fun _=>(b0 h k).length),(14,nT fun _=>i)]) (fun i=>[(0, .box [.nil, .lf (.int .i64 fun _=>0), .lf (.int .i64 fun _=>0), .lf (.int .i64 fun _=>0), .lf (.int .i64 fun _=>0), .lf (.int .i64 fun _=>0), .lf (.int .i64 fun _=>0), .lf (.int .i64 fun _=>0), .lf (.int .i64 fun _=>0), .lf (.int .i64 fun _=>0), .lf (.int .i64 fun _=>0), .nil, .nil, .nil, .nil]),(1, .box [.own 2, .lf (.int .i64 fun _=>(dI ((b0 h k).take i) h).rules.cd), .lf (.int .i64 fun _=>(dI ((b0 h k).take i) h).rules.room), .lf (.int .i64 fun _=>(dI ((b0 h k).take i) h).rules.size), .lf (.int .i64 fun _=>(dI ((b0 h k).take i) h).rules.period), .lf (.int .i64 fun _=>(dI ((b0 h k).take i) h).rules.cC), .lf (.int .i64 fun _=>(dI ((b0 h k).take i) h).rules.rest), .lf (.int .i64 fun _=>(dI ((b0 h k).take i) h).rules.tries), .lf (.int .i64 fun _=>(dI ((b0 h k).take i) h).rules.bO), .lf (.int .i64 fun _=>(dI ((b0 h k).take i) h).now), .lf (.int .i64 fun _=>(dI ((b0 h k).take i) h).az), .own 3, .own 4, .own 5, .own 6]),(2,aK .int fun _=>(dI ((b0 h k).take i) h).rules.ai),(3,aK .aB fun _=>(dI ((b0 h k).take i) h).ae),(4,aK .ah fun _=>(dI ((b0 h k).take i) h).cabins),(5,aK .int fun _=>(dI ((b0 h k).take i) h).todo),(6,aK .int fun _=>(dI ((b0 h k).take i) h).aA),(7,aK .int fun _=>b0 h k)]) (fun i=>i≤(b0 h k).length) (fun i _=>(b0 h k).length - i) 0 (Nat.zero_le _) ?_ ?_
 · cbv
   repeat' first | exact trivial | refine⟨rfl, ?_⟩ | fail
 · intro i hi
   by_cases h2:i<(b0 h k).length
   · obtain⟨j,n,c,r⟩:=Qk h2;have oi:0≤(i:Int)∧(i:Int)<((b0 h k).length:Int):=by omega
     cbv;refine Br.dec (fun h3=> ?_) (fun h3=> ?_) <;> cbv
     rotate_left
     · have h3:(b0 h k).length≤i:=by simp at h3; omega
       omega
     repeat' first
       | exact trivial
       | (refine Ob.mk (oi) ?_; cbv)
       | (refine aJ.by hP (IG (dI ((b0 h k).take i) h) r.o.hg.small r.o r.st ((b0 h k).getD ((i:Int)).toNat default) r.id (dI ((b0 h k).take (i+1)) h) r.next) ?_; cbv)
       | (refine Pz.mk ?_; cbv) | (refine bp.mk ?_ (by kernel_rfl) ?_; rotate_left; cbv; rotate_right) | refine⟨rfl, ?_⟩ | refine And.intro ?_ ?_ | exact rfl | fail
     refine Ar.exact (by(try simp only[nc] at *); omega) (by(try simp only[nc] at *); omega) ?_;cbv;refine aO.by (i+1) ?_ ?_ ?_
     · show(b0 h k).length - (i+1)<(b0 h k).length - i;omega
     · exact h2
     · cbv
       repeat' first | exact trivial | refine⟨rfl, ?_⟩ | fail
   · have hi:i=(b0 h k).length:=by omega
     have hx:x=dI ((b0 h k).take i) h:=by rw[hx,hi,List.take_length]; rfl
     cbv;refine Br.dec (fun h3=> ?_) (fun h3=> ?_) <;> cbv
     · have h3:i<(b0 h k).length:=by simpa using h3
       omega
     obtain rfl:x=dI ((b0 h k).take i) h:=hx
     repeat' first | exact trivial | refine⟨rfl, ?_⟩ | fail
set_option maxHeartbeats 4000000 in
theorem Qm (h:al) (k:Int) (hs:bJ h) (x:al) (hx:x=(fB h k).1) (y:List Int) (hy:y=(fB h k).2):Spec Tryz.prog 20 [dV h,iA k] (aM (.ba [(true,jq fun _=>x),(false,[.own .int fun _=>y])])):=by
 have Qn:bJ (f_ h k)∧nn k (f_ h k) []=(x,y)∧(eh (f_ h k) k=0∨([]:List Int).length+gK (f_ h k) k≤10):=by
   refine⟨Iv hs k,by rw[hx,hy]; rfl, ?_⟩
   by_cases hv:eh (f_ h k) k=0
   · exact .inl hv
   · exact .inr (by have:=(rE hv).2.2.2.2.2.2.2.2; simpa using this)
 refine aN aD Tryz.func20 rfl rfl (fr:=true) (fun _=>by kernel_rfl) fun P hP hA=> ?_;cbv;refine ag.by hP (Ql h k hs (f_ h k) rfl) ?_;cbv;refine aW.by (X:=al × List Int) (fun s=>[(1,iA k),(4,pN 0),(6,pN 1),(7,oN 7)]) (fun s=>[(0, .box [.nil, .lf (.int .i64 fun _=>0), .lf (.int .i64 fun _=>0), .lf (.int .i64 fun _=>0), .lf (.int .i64 fun _=>0), .lf (.int .i64 fun _=>0), .lf (.int .i64 fun _=>0), .lf (.int .i64 fun _=>0), .lf (.int .i64 fun _=>0), .lf (.int .i64 fun _=>0), .lf (.int .i64 fun _=>0), .nil, .nil, .nil, .nil]),(1, .box [.own 2, .lf (.int .i64 fun _=>(s.1).rules.cd), .lf (.int .i64 fun _=>(s.1).rules.room), .lf (.int .i64 fun _=>(s.1).rules.size), .lf (.int .i64 fun _=>(s.1).rules.period), .lf (.int .i64 fun _=>(s.1).rules.cC), .lf (.int .i64 fun _=>(s.1).rules.rest), .lf (.int .i64 fun _=>(s.1).rules.tries), .lf (.int .i64 fun _=>(s.1).rules.bO), .lf (.int .i64 fun _=>(s.1).now), .lf (.int .i64 fun _=>(s.1).az), .own 3, .own 4, .own 5, .own 6]),(2,aK .int fun _=>(s.1).rules.ai),(3,aK .aB fun _=>(s.1).ae),(4,aK .ah fun _=>(s.1).cabins),(5,aK .int fun _=>(s.1).todo),(6,aK .int fun _=>(s.1).aA),(7,aK .int fun _=>s.2)]) (fun s=>bJ s.1∧nn k s.1 s.2=(x,y)∧(eh s.1 k=0∨s.2.length+gK s.1 k≤10)) (fun s _=>gK s.1 k) (f_ h k,[]) Qn ?_ ?_
 · cbv
   repeat' first | exact trivial | refine⟨rfl, ?_⟩ | fail
 · intro ⟨E,ids⟩ ⟨hE,ht,hl⟩;have hE:bJ E:=hE;have ht:nn k E ids=(x,y):=ht;have hl:eh E k=0∨ids.length+gK E k≤10:=hl
   by_cases hv:eh E k=0
   · rw[Iy hv] at ht;obtain⟨rfl,rfl⟩:=Prod.mk.inj ht;cbv;refine ag.by hP (IH E k hE E (if_pos hv).symm 0 hv.symm) ?_;cbv;refine Br.split (fun k0=> ?_) (fun k0=> ?_) <;> cbv
     · repeat' first | exact trivial | refine⟨rfl, ?_⟩ | fail
     · have k0:((0:Int) == 0)=false:=k0;cases k0
   · have hl:=hl.resolve_left hv;obtain⟨_,BQ,_,_,_,_,_,hr,Rw⟩:=rE hv;have ob:(ids.length+1)*8≤140737488355328:=by omega
     rw[PV hv] at ht;cbv;refine ag.by hP (IH E k hE (gO E k) rfl (eh E k) rfl) ?_;cbv;refine Br.split (fun k0=> ?_) (fun k0=> ?_) <;> cbv
     · have k0:(eh E k == 0)=true:=k0;exact absurd (by simpa using k0) hv
     repeat' first
       | exact trivial
       | (refine Ob.mk (ob) ?_; cbv)
       | (refine Pz.mk ?_; cbv) | (refine bp.mk ?_ (by kernel_rfl) ?_; rotate_left; cbv; rotate_right) | refine⟨rfl, ?_⟩ | refine And.intro ?_ ?_ | exact rfl | fail
     refine aO.by (gO E k,ids ++ [eh E k]) ?_ ?_ ?_
     · show gK (gO E k) k<gK E k;omega
     · refine⟨BQ.small,ht, ?_⟩
       by_cases gq:eh (gO E k) k=0
       · exact .inl gq
       · exact .inr (by show(ids ++ [eh E k]).length+gK (gO E k) k≤10; rw[List.length_append,List.length_singleton]; omega)
     · cbv
       repeat' first | exact trivial | refine⟨rfl, ?_⟩ | fail
end Go.Proofs.YtpklefhdkkegiaaGreat

