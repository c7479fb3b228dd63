/- Parts of a proof. No conditions. -/

import Derived.Test.YtpklefhdkkegiaaGreatG08
import Derived.Test.YtpklefhdkkegiaaGreatG07
set_option linter.unusedSimpArgs false
set_option linter.unusedVariables false
namespace Go.Proofs.YtpklefhdkkegiaaGreat
open Go
set_option maxRecDepth 100000
def s8 (x:br):al:=⟨x,0,1,[],x.ai.map m5,[],List.replicate x.bO.toNat (-1)⟩
def HF (x:br):al:=if ca x=true then s8 x else default
theorem mapStep {α β:Type} (f:α→β) (a:List α) {i:Nat} (h:i<a.length):(a.take i).map f ++ [f a[i]]=(a.take (i+1)).map f:=by
 rw[List.take_add_one,List.getElem?_eq_getElem h]; simp only[Option.toList_some,List.map_append,List.map_cons,List.map_nil]
theorem OO (i:Nat): -9223372036854775808≤((i:Nat):Int)+1:=by omega
theorem OP {i:Nat} (h:i+1≤3):((i:Nat):Int)+1≤9223372036854775807:=by omega
structure OQ (x:br):Prop where
 len:x.ai.length≤4
 lo:1≤x.bO
 hi:x.bO≤3
 all:∀y∈x.ai,aj y 1 60=true
theorem OR {x:br} (h:ca x=true):OQ x:=by
 simp only[ca,Bool.and_eq_true,List.all_eq_true] at h;obtain⟨h1,h2,_,_,_,_,_,_,h3,_⟩:=h;have h1:=bF h1;have h3:=bF h3;exact⟨by omega,h3.1,h3.2,h2⟩
theorem OS (x:br) (hs:x.ai.length≤aS) (h:al) (hh:h=HF x) (b:Bool) (hb:b=ca x):Spec Tryz.prog 151 [fT x] (aM (.ba [(true,jq fun _=>h),(false,[.bool fun _=>b])])):=by
 refine aN aD Tryz.func151 rfl rfl (fr:=true) (fun _=>by kernel_rfl) fun P hP hA=> ?_;cbv;refine ag.by hP (xC x hs (ca x) rfl) ?_;cbv;refine Br.split (fun h0=> ?_) (fun h0=> ?_) <;> cbv
 · have h0:ca x=false:=by simpa using h0
   obtain rfl:h=default:=hh.trans (if_neg (by rw[h0]; simp));obtain rfl:b=false:=hb.trans h0
   repeat' first | exact trivial | refine⟨rfl, ?_⟩ | fail
 have h0:ca x=true:=by simpa using h0
 obtain rfl:h=s8 x:=hh.trans (if_pos h0);obtain rfl:b=true:=hb.trans h0;have hF:=OR h0;have hl:=hF.len;have gE:=hF.lo;have jy:=hF.hi;refine ag.by hP (Mt x hs) ?_;cbv;refine aW.by (X:=Nat) (fun i=>[(1,pN 0),(2,pN 1),(4,pN 2),(5,nT fun _=>i)]) (fun i=>[(0, .box [.lf (.list .int fun _=>x.ai), .lf (.int .i64 fun _=>x.cd), .lf (.int .i64 fun _=>x.room), .lf (.int .i64 fun _=>x.size), .lf (.int .i64 fun _=>x.period), .lf (.int .i64 fun _=>x.cC), .lf (.int .i64 fun _=>x.rest), .lf (.int .i64 fun _=>x.tries), .lf (.int .i64 fun _=>x.bO)]),(1, .box [.nil, .lf (.int .i64 fun _=>0), .lf (.int .i64 fun _=>0), .lf (.int .i64 fun _=>0), .lf (.int .i64 fun _=>0), .lf (.int .i64 fun _=>0), .lf (.int .i64 fun _=>0), .lf (.int .i64 fun _=>0), .lf (.int .i64 fun _=>0), .lf (.int .i64 fun _=>0), .lf (.int .i64 fun _=>0), .nil, .nil, .nil, .nil]),(2, .box [.own 3, .lf (.int .i64 fun _=>x.cd), .lf (.int .i64 fun _=>x.room), .lf (.int .i64 fun _=>x.size), .lf (.int .i64 fun _=>x.period), .lf (.int .i64 fun _=>x.cC), .lf (.int .i64 fun _=>x.rest), .lf (.int .i64 fun _=>x.tries), .lf (.int .i64 fun _=>x.bO), .lf (.int .i64 fun _=>0), .lf (.int .i64 fun _=>1), .nil, .own 4, .nil, .nil]),(3,aK .int fun _=>x.ai),(4,aK .ah fun _=>(x.ai.take i).map m5)]) (fun i=>i≤x.ai.length) (fun i _=>x.ai.length - i) 0 (Nat.zero_le _) ?_ ?_
 · cbv
   repeat' first | exact trivial | refine⟨rfl, ?_⟩ | fail
 · intro i hi;cbv;refine Br.dec (fun h2=> ?_) (fun h2=> ?_) <;> cbv
   · have h2:(i:Int)<(x.ai.length:Int):=h2;have h2:i<x.ai.length:=by omega
     refine⟨x.ai[i],by simp,get_cast x.ai h2, ?_⟩;cbv;refine ag.by hP (Mq x.ai[i] (m5 x.ai[i]) rfl (aj x.ai[i] 1 60) rfl) ?_;cbv;refine⟨?_, ?_⟩
     · show(((x.ai.take i).map m5).length+1)*88≤140737488355328;rw[List.length_map,List.length_take]; omega
     cbv;refine Ar.exact ?_ ?_ ?_
     · show -9223372036854775808≤(i:Int)+1;omega
     · show(i:Int)+1≤9223372036854775807;omega
     cbv;refine aO.by (i+1) ?_ ?_ ?_
     · show x.ai.length - (i+1)<x.ai.length - i;omega
     · exact h2
     · cbv
       repeat' first | exact trivial | refine⟨rfl, ?_⟩ | fail
       refine⟨?_,trivial⟩;exact mapStep m5 x.ai h2
   have h2:¬(i:Int)<(x.ai.length:Int):=h2;have h2:x.ai.length≤i:=by omega
   have BB:(x.ai.take i).map m5=x.ai.map m5:=by rw[List.take_of_length_le h2]
   refine aW.by (X:=Nat) (fun j=>[(1,pN 0),(2,pN 1),(4,pN 2),(8,nT fun _=>j)]) (fun j=>[(0, .box [.lf (.list .int fun _=>x.ai), .lf (.int .i64 fun _=>x.cd), .lf (.int .i64 fun _=>x.room), .lf (.int .i64 fun _=>x.size), .lf (.int .i64 fun _=>x.period), .lf (.int .i64 fun _=>x.cC), .lf (.int .i64 fun _=>x.rest), .lf (.int .i64 fun _=>x.tries), .lf (.int .i64 fun _=>x.bO)]),(1, .box [.nil, .lf (.int .i64 fun _=>0), .lf (.int .i64 fun _=>0), .lf (.int .i64 fun _=>0), .lf (.int .i64 fun _=>0), .lf (.int .i64 fun _=>0), .lf (.int .i64 fun _=>0), .lf (.int .i64 fun _=>0), .lf (.int .i64 fun _=>0), .lf (.int .i64 fun _=>0), .lf (.int .i64 fun _=>0), .nil, .nil, .nil, .nil]),(2, .box [.own 3, .lf (.int .i64 fun _=>x.cd), .lf (.int .i64 fun _=>x.room), .lf (.int .i64 fun _=>x.size), .lf (.int .i64 fun _=>x.period), .lf (.int .i64 fun _=>x.cC), .lf (.int .i64 fun _=>x.rest), .lf (.int .i64 fun _=>x.tries), .lf (.int .i64 fun _=>x.bO), .lf (.int .i64 fun _=>0), .lf (.int .i64 fun _=>1), .nil, .own 4, .nil, .own 5]),(3,aK .int fun _=>x.ai),(4,aK .ah fun _=>x.ai.map m5),(5,aK .int fun _=>List.replicate j (-1))]) (fun j=>j≤x.bO.toNat) (fun j _=>x.bO.toNat - j) 0 (Nat.zero_le _) ?_ ?_
   · cbv
     repeat' first | exact trivial | refine⟨rfl, ?_⟩ | fail
     refine⟨BB, ?_⟩
     repeat' first | exact trivial | refine⟨rfl, ?_⟩ | fail
   · intro i hi;cbv;refine Br.dec (fun h2=> ?_) (fun h2=> ?_) <;> cbv
     · have h2:(i:Int)<x.bO:=h2;have h4:i+1≤3:=by omega
       have h5:i+1≤x.bO.toNat:=by omega
       refine⟨?_, ?_⟩
       · show((List.replicate i (-1:Int)).length+1)*8≤140737488355328;rw[List.length_replicate]; omega
       cbv;refine Ar.exact (OO i) (OP h4) ?_;cbv;refine aO.by (i+1) ?_ ?_ ?_
       · show x.bO.toNat - (i+1)<x.bO.toNat - i;omega
       · exact h5
       · cbv
         repeat' first | exact trivial | refine⟨rfl, ?_⟩ | fail
         refine⟨?_,trivial⟩;exact(List.replicate_succ' (n:=i) (a:=(-1:Int))).symm
     have h2:¬(i:Int)<x.bO:=h2;have hi:i≤x.bO.toNat:=hi;obtain rfl:i=x.bO.toNat:=by omega
     repeat' first | exact trivial | refine⟨rfl, ?_⟩ | fail
end Go.Proofs.YtpklefhdkkegiaaGreat

