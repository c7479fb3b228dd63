/- Parts of a proof. No conditions. -/

import Derived.Test.YtpklefhdkkegiaaGreatG08
import Derived.Test.YtpklefhdkkegiaaGreatG07
set_option linter.unusedSimpArgs false
set_option linter.unusedVariables false
namespace Go.Proofs.YtpklefhdkkegiaaGreat
open Go
set_option maxRecDepth 100000
def lW (x:bn):ai:=⟨x,0,1,[],x.seats.map fH,[],List.replicate x.bm.toNat (-1)⟩
def pI (x:bn):ai:=if ca x=true then lW x else default
theorem mapStep {α β:Type} (f:α→β) (a:List α) {i:Nat} (h:i<a.length):(a.take i).map f ++ [f a[i]]=(a.take (i+1)).map f:=by
 rw[List.take_add_one,List.getElem?_eq_getElem h]; simp only[Option.toList_some,List.map_append,List.map_cons,List.map_nil]
theorem Li (i:Nat): -9223372036854775808≤((i:Nat):Int)+1:=by omega
theorem Lj {i:Nat} (h:i+1≤3):((i:Nat):Int)+1≤9223372036854775807:=by omega
structure S5 (x:bn):Prop where
 len:x.seats.length≤4
 lo:1≤x.bm
 hi:x.bm≤3
 all:∀y∈x.seats,ak y 1 60=true
theorem yx {x:bn} (h:ca x=true):S5 x:=by
 simp only[ca,Bool.and_eq_true,List.all_eq_true] at h;obtain⟨h1,h2,_,_,_,_,_,_,h3,_⟩:=h;have h1:=bD h1;have h3:=bD h3;exact⟨by omega,h3.1,h3.2,h2⟩
theorem S6 (x:bn) (hs:x.seats.length≤aN) (h:ai) (hh:h=pI x) (b:Bool) (hb:b=ca x):Spec Tryz.prog 151 [fG x] (aG (.aS [(true,fb fun _=>h),(false,[.bool fun _=>b])])):=by
 refine aF au Tryz.func151 rfl rfl (fr:=true) (fun _=>by kernel_rfl) fun P hP hA=> ?_;cbv;refine af.by hP (xQ x hs (ca x) rfl) ?_;cbv;refine Br.split (fun h0=> ?_) (fun h0=> ?_) <;> cbv
 · have h0:ca x=false:=by simpa using h0
   obtain rfl:h=default:=hh.trans (if_neg (by rw[h0]; simp));obtain rfl:b=false:=hb.trans h0
   repeat' first | exact trivial | refine⟨rfl, ?_⟩ | fail
 have h0:ca x=true:=by simpa using h0
 obtain rfl:h=lW x:=hh.trans (if_pos h0);obtain rfl:b=true:=hb.trans h0;have hF:=yx h0;have hl:=hF.len;have iM:=hF.lo;have lq:=hF.hi;refine af.by hP (D5 x hs) ?_;cbv;refine aR.by (X:=Nat) (fun i=>[(1,pN 0),(2,pN 1),(4,pN 2),(5,nT fun _=>i)]) (fun i=>[(0, .box [.lf (.list .int fun _=>x.seats), .lf (.int .i64 fun _=>x.bX), .lf (.int .i64 fun _=>x.room), .lf (.int .i64 fun _=>x.size), .lf (.int .i64 fun _=>x.period), .lf (.int .i64 fun _=>x.bE), .lf (.int .i64 fun _=>x.rest), .lf (.int .i64 fun _=>x.tries), .lf (.int .i64 fun _=>x.bm)]),(1, .box [.nil, .lf (.int .i64 fun _=>0), .lf (.int .i64 fun _=>0), .lf (.int .i64 fun _=>0), .lf (.int .i64 fun _=>0), .lf (.int .i64 fun _=>0), .lf (.int .i64 fun _=>0), .lf (.int .i64 fun _=>0), .lf (.int .i64 fun _=>0), .lf (.int .i64 fun _=>0), .lf (.int .i64 fun _=>0), .nil, .nil, .nil, .nil]),(2, .box [.own 3, .lf (.int .i64 fun _=>x.bX), .lf (.int .i64 fun _=>x.room), .lf (.int .i64 fun _=>x.size), .lf (.int .i64 fun _=>x.period), .lf (.int .i64 fun _=>x.bE), .lf (.int .i64 fun _=>x.rest), .lf (.int .i64 fun _=>x.tries), .lf (.int .i64 fun _=>x.bm), .lf (.int .i64 fun _=>0), .lf (.int .i64 fun _=>1), .nil, .own 4, .nil, .nil]),(3,aH .int fun _=>x.seats),(4,aH .ag fun _=>(x.seats.take i).map fH)]) (fun i=>i≤x.seats.length) (fun i _=>x.seats.length - i) 0 (Nat.zero_le _) ?_ ?_
 · cbv
   repeat' first | exact trivial | refine⟨rfl, ?_⟩ | fail
 · intro i hi;cbv;refine Br.dec (fun h2=> ?_) (fun h2=> ?_) <;> cbv
   · have h2:(i:Int)<(x.seats.length:Int):=h2;have h2:i<x.seats.length:=by omega
     refine⟨x.seats[i],by simp,get_cast x.seats h2, ?_⟩;cbv;refine af.by hP (Qt x.seats[i] (fH x.seats[i]) rfl (ak x.seats[i] 1 60) rfl) ?_;cbv;refine⟨?_, ?_⟩
     · show(((x.seats.take i).map fH).length+1)*88≤140737488355328;rw[List.length_map,List.length_take]; omega
     cbv;refine Ar.exact ?_ ?_ ?_
     · show -9223372036854775808≤(i:Int)+1;omega
     · show(i:Int)+1≤9223372036854775807;omega
     cbv;refine aL.by (i+1) ?_ ?_ ?_
     · show x.seats.length - (i+1)<x.seats.length - i;omega
     · exact h2
     · cbv
       repeat' first | exact trivial | refine⟨rfl, ?_⟩ | fail
       refine⟨?_,trivial⟩;exact mapStep fH x.seats h2
   have h2:¬(i:Int)<(x.seats.length:Int):=h2;have h2:x.seats.length≤i:=by omega
   have vJ:(x.seats.take i).map fH=x.seats.map fH:=by rw[List.take_of_length_le h2]
   refine aR.by (X:=Nat) (fun j=>[(1,pN 0),(2,pN 1),(4,pN 2),(8,nT fun _=>j)]) (fun j=>[(0, .box [.lf (.list .int fun _=>x.seats), .lf (.int .i64 fun _=>x.bX), .lf (.int .i64 fun _=>x.room), .lf (.int .i64 fun _=>x.size), .lf (.int .i64 fun _=>x.period), .lf (.int .i64 fun _=>x.bE), .lf (.int .i64 fun _=>x.rest), .lf (.int .i64 fun _=>x.tries), .lf (.int .i64 fun _=>x.bm)]),(1, .box [.nil, .lf (.int .i64 fun _=>0), .lf (.int .i64 fun _=>0), .lf (.int .i64 fun _=>0), .lf (.int .i64 fun _=>0), .lf (.int .i64 fun _=>0), .lf (.int .i64 fun _=>0), .lf (.int .i64 fun _=>0), .lf (.int .i64 fun _=>0), .lf (.int .i64 fun _=>0), .lf (.int .i64 fun _=>0), .nil, .nil, .nil, .nil]),(2, .box [.own 3, .lf (.int .i64 fun _=>x.bX), .lf (.int .i64 fun _=>x.room), .lf (.int .i64 fun _=>x.size), .lf (.int .i64 fun _=>x.period), .lf (.int .i64 fun _=>x.bE), .lf (.int .i64 fun _=>x.rest), .lf (.int .i64 fun _=>x.tries), .lf (.int .i64 fun _=>x.bm), .lf (.int .i64 fun _=>0), .lf (.int .i64 fun _=>1), .nil, .own 4, .nil, .own 5]),(3,aH .int fun _=>x.seats),(4,aH .ag fun _=>x.seats.map fH),(5,aH .int fun _=>List.replicate j (-1))]) (fun j=>j≤x.bm.toNat) (fun j _=>x.bm.toNat - j) 0 (Nat.zero_le _) ?_ ?_
   · cbv
     repeat' first | exact trivial | refine⟨rfl, ?_⟩ | fail
     refine⟨vJ, ?_⟩
     repeat' first | exact trivial | refine⟨rfl, ?_⟩ | fail
   · intro i hi;cbv;refine Br.dec (fun h2=> ?_) (fun h2=> ?_) <;> cbv
     · have h2:(i:Int)<x.bm:=h2;have h4:i+1≤3:=by omega
       have h5:i+1≤x.bm.toNat:=by omega
       refine⟨?_, ?_⟩
       · show((List.replicate i (-1:Int)).length+1)*8≤140737488355328;rw[List.length_replicate]; omega
       cbv;refine Ar.exact (Li i) (Lj h4) ?_;cbv;refine aL.by (i+1) ?_ ?_ ?_
       · show x.bm.toNat - (i+1)<x.bm.toNat - i;omega
       · exact h5
       · cbv
         repeat' first | exact trivial | refine⟨rfl, ?_⟩ | fail
         refine⟨?_,trivial⟩;exact(List.replicate_succ' (n:=i) (a:=(-1:Int))).symm
     have h2:¬(i:Int)<x.bm:=h2;have hi:i≤x.bm.toNat:=hi;obtain rfl:i=x.bm.toNat:=by omega
     repeat' first | exact trivial | refine⟨rfl, ?_⟩ | fail
theorem S7 (x:bn) (hs:x.seats.length≤aN) (h:ai) (hh:h=pI x) (b:Bool) (hb:b=ca x):Spec Tryz.prog 13 [fG x] (aG (.aS [(true,fb fun _=>h),(false,[.bool fun _=>b])])):=by
 refine aF au Tryz.func13 rfl rfl (fr:=true) (fun _=>by kernel_rfl) fun P hP hA=> ?_;cbv;refine af.by hP (Ax x hs (ca x) rfl) ?_;cbv;refine Br.split (fun h0=> ?_) (fun h0=> ?_) <;> cbv
 · have h0:ca x=false:=by simpa using h0
   obtain rfl:h=default:=hh.trans (if_neg (by rw[h0]; simp));obtain rfl:b=false:=hb.trans h0
   repeat' first | exact trivial | refine⟨rfl, ?_⟩ | fail
 have h0:ca x=true:=by simpa using h0
 obtain rfl:h=lW x:=hh.trans (if_pos h0);obtain rfl:b=true:=hb.trans h0;have hF:=yx h0;have hl:=hF.len;have iM:=hF.lo;have lq:=hF.hi;refine af.by hP (Jy x hs) ?_;cbv;refine aR.by (X:=Nat) (fun i=>[(1,pN 0),(2,pN 1),(4,pN 2),(18,lT .int fun _=>x.seats),(19,nT fun _=>x.seats.length),(20,nT fun _=>i)]) (fun i=>[(0, .box [.lf (.list .int fun _=>x.seats), .lf (.int .i64 fun _=>x.bX), .lf (.int .i64 fun _=>x.room), .lf (.int .i64 fun _=>x.size), .lf (.int .i64 fun _=>x.period), .lf (.int .i64 fun _=>x.bE), .lf (.int .i64 fun _=>x.rest), .lf (.int .i64 fun _=>x.tries), .lf (.int .i64 fun _=>x.bm)]),(1, .box [.nil, .lf (.int .i64 fun _=>0), .lf (.int .i64 fun _=>0), .lf (.int .i64 fun _=>0), .lf (.int .i64 fun _=>0), .lf (.int .i64 fun _=>0), .lf (.int .i64 fun _=>0), .lf (.int .i64 fun _=>0), .lf (.int .i64 fun _=>0), .lf (.int .i64 fun _=>0), .lf (.int .i64 fun _=>0), .nil, .nil, .nil, .nil]),(2, .box [.own 3, .lf (.int .i64 fun _=>x.bX), .lf (.int .i64 fun _=>x.room), .lf (.int .i64 fun _=>x.size), .lf (.int .i64 fun _=>x.period), .lf (.int .i64 fun _=>x.bE), .lf (.int .i64 fun _=>x.rest), .lf (.int .i64 fun _=>x.tries), .lf (.int .i64 fun _=>x.bm), .lf (.int .i64 fun _=>0), .lf (.int .i64 fun _=>1), .nil, .own 4, .nil, .nil]),(3,aH .int fun _=>x.seats),(4,aH .ag fun _=>(x.seats.take i).map fH)]) (fun i=>i≤x.seats.length) (fun i _=>x.seats.length - i) 0 (Nat.zero_le _) ?_ ?_
 · cbv
   repeat' first | exact trivial | refine⟨rfl, ?_⟩ | fail
 · intro i hi;cbv;refine Br.dec (fun h2=> ?_) (fun h2=> ?_) <;> cbv
   · have h2:(i:Int)<(x.seats.length:Int):=h2;have h2:i<x.seats.length:=by omega
     refine⟨x.seats[i],by simp,get_cast x.seats h2, ?_⟩;cbv;refine af.by hP (Qu x.seats[i] (fH x.seats[i]) rfl (ak x.seats[i] 1 60) rfl) ?_;cbv;refine⟨?_, ?_⟩
     · show(((x.seats.take i).map fH).length+1)*88≤140737488355328;rw[List.length_map,List.length_take]; omega
     cbv;refine Ar.exact ?_ ?_ ?_
     · show -9223372036854775808≤(i:Int)+1;omega
     · show(i:Int)+1≤9223372036854775807;omega
     cbv;refine aL.by (i+1) ?_ ?_ ?_
     · show x.seats.length - (i+1)<x.seats.length - i;omega
     · exact h2
     · cbv
       repeat' first | exact trivial | refine⟨rfl, ?_⟩ | fail
       refine⟨?_,trivial⟩;exact mapStep fH x.seats h2
   have h2:¬(i:Int)<(x.seats.length:Int):=h2;have h2:x.seats.length≤i:=by omega
   have vJ:(x.seats.take i).map fH=x.seats.map fH:=by rw[List.take_of_length_le h2]
   refine aR.by (X:=Nat) (fun j=>[(1,pN 0),(2,pN 1),(4,pN 2),(9,nT fun _=>j)]) (fun j=>[(0, .box [.lf (.list .int fun _=>x.seats), .lf (.int .i64 fun _=>x.bX), .lf (.int .i64 fun _=>x.room), .lf (.int .i64 fun _=>x.size), .lf (.int .i64 fun _=>x.period), .lf (.int .i64 fun _=>x.bE), .lf (.int .i64 fun _=>x.rest), .lf (.int .i64 fun _=>x.tries), .lf (.int .i64 fun _=>x.bm)]),(1, .box [.nil, .lf (.int .i64 fun _=>0), .lf (.int .i64 fun _=>0), .lf (.int .i64 fun _=>0), .lf (.int .i64 fun _=>0), .lf (.int .i64 fun _=>0), .lf (.int .i64 fun _=>0), .lf (.int .i64 fun _=>0), .lf (.int .i64 fun _=>0), .lf (.int .i64 fun _=>0), .lf (.int .i64 fun _=>0), .nil, .nil, .nil, .nil]),(2, .box [.own 3, .lf (.int .i64 fun _=>x.bX), .lf (.int .i64 fun _=>x.room), .lf (.int .i64 fun _=>x.size), .lf (.int .i64 fun _=>x.period), .lf (.int .i64 fun _=>x.bE), .lf (.int .i64 fun _=>x.rest), .lf (.int .i64 fun _=>x.tries), .lf (.int .i64 fun _=>x.bm), .lf (.int .i64 fun _=>0), .lf (.int .i64 fun _=>1), .nil, .own 4, .nil, .own 5]),(3,aH .int fun _=>x.seats),(4,aH .ag fun _=>x.seats.map fH),(5,aH .int fun _=>List.replicate j (-1))]) (fun j=>j≤x.bm.toNat) (fun j _=>x.bm.toNat - j) 0 (Nat.zero_le _) ?_ ?_
   · cbv
     repeat' first | exact trivial | refine⟨rfl, ?_⟩ | fail
     refine⟨vJ, ?_⟩
     repeat' first | exact trivial | refine⟨rfl, ?_⟩ | fail
   · intro i hi;cbv;refine Br.dec (fun h2=> ?_) (fun h2=> ?_) <;> cbv
     · have h2:(i:Int)<x.bm:=h2;have h4:i+1≤3:=by omega
       have h5:i+1≤x.bm.toNat:=by omega
       refine⟨?_, ?_⟩
       · show((List.replicate i (-1:Int)).length+1)*8≤140737488355328;rw[List.length_replicate]; omega
       cbv;refine Ar.exact (Li i) (Lj h4) ?_;cbv;refine aL.by (i+1) ?_ ?_ ?_
       · show x.bm.toNat - (i+1)<x.bm.toNat - i;omega
       · exact h5
       · cbv
         repeat' first | exact trivial | refine⟨rfl, ?_⟩ | fail
         refine⟨?_,trivial⟩;exact(List.replicate_succ' (n:=i) (a:=(-1:Int))).symm
     have h2:¬(i:Int)<x.bm:=h2;have hi:i≤x.bm.toNat:=hi;obtain rfl:i=x.bm.toNat:=by omega
     repeat' first | exact trivial | refine⟨rfl, ?_⟩ | fail
theorem S8 (x:bn):ph (pI x).cabins∧QV (pI x)≤100:=by
 unfold pI
 split
 · rename_i h;have hF:=yx h;have hl:=hF.len;have hc:=hF.hi;refine⟨⟨?_, ?_⟩, ?_⟩
   · show(x.seats.map fH).length≤1048576;rw[List.length_map]; omega
   · intro c hc;have hc:c∈x.seats.map fH:=hc;obtain⟨n,_,rfl⟩:=List.mem_map.1 hc;unfold fH
     split
     · refine⟨Nat.zero_le _,(by decide:9≤1048576),fun y hy=> ?_⟩;have hy:y∈List.replicate 9 ([]:List aC):=hy;rw[List.mem_replicate] at hy;rw[hy.2]; exact Nat.zero_le _
     · exact⟨Nat.zero_le _,Nat.zero_le _,fun y hy=>by cases hy⟩
   · show x.seats.length+0+aV Eg (x.seats.map fH)+0+(List.replicate x.bm.toNat (-1:Int)).length≤100;rw[List.length_replicate]
     have h1:=AA Eg 5 4 (x.seats.map fH) (fun c hc=>by
       obtain⟨n,_,rfl⟩:=List.mem_map.1 hc;unfold fH
       split
       · exact(by decide:5≤5)
       · exact(by decide:5≤5)) (by rw[List.length_map]; exact hl)
     omega
 · refine⟨⟨Nat.zero_le _,fun y hy=>by cases hy⟩, ?_⟩;exact(by decide:0≤100)
end Go.Proofs.YtpklefhdkkegiaaGreat

