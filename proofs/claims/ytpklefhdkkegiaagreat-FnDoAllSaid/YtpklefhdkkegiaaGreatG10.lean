/- Parts of a proof. No conditions. -/

import Derived.Test.YtpklefhdkkegiaaGreatG08
import Derived.Test.YtpklefhdkkegiaaGreatG09
set_option linter.unusedSimpArgs false
set_option linter.unusedVariables false
namespace Go.Proofs.YtpklefhdkkegiaaGreat
open Go
set_option maxRecDepth 100000
set_option maxHeartbeats 4000000 in
theorem J1 (xs : List aC) (hn:xs.length≤aN):bJ Tryz.prog 273 [oN 0,iT fun _=>0,nT fun _=>xs.length, .c (.fn 187 [])] [(0,aH .aI fun _=>xs)]
   (dx (.aS []) [(0, .own .aI fun _=>dC bu xs)]):=by
 refine fp au Tryz.func273 rfl rfl (fr:=true) (fun _=>by kernel_rfl) rfl rfl fun P hP hA hB=> ?_;have hs:xs.length≤1048576:=hn;cbv;refine Ar.exact (by(try simp only[nc] at *); omega) (by(try simp only[nc] at *); omega) ?_;cbv;refine aR.by (X:=Nat) (fun i=>[(0,oN 0),(1,iT fun _=>0),(2,nT fun _=>xs.length),(3, .c (.fn 187 [])),(8,nT fun _=>i)]) (fun i=>[(0,aH .aI fun _=>dC bu (xs.take i)++xs.drop i)]) (fun i=>1≤i∧(i≤xs.length∨i=1)) (fun i _=>xs.length - i) 1 ⟨Nat.le_refl _, .inr rfl⟩ ?_ ?_
 · cbv
   repeat' first | exact trivial | refine⟨rfl, ?_⟩ | fail
   exact⟨(GZ bu xs).symm,trivial⟩
 · intro i ⟨hi, pA⟩;cbv;refine Br.dec (fun h2=> ?_) (fun h2=> ?_) <;> cbv
   rotate_left
   · refine⟨?_,trivial⟩;have h2:xs.length≤i:=by simp at h2; omega
     show dC bu (xs.take i)++xs.drop i=dC bu xs;rw[List.take_of_length_le h2,List.drop_of_length_le h2,List.append_nil]
   have h2:i<xs.length:=by simpa using h2
   generalize hp:dC bu (xs.take i)=p;have hl:p.length=i:=by rw[←hp,mb,List.length_take]; omega
   have Ep:ri bu p:=by rw[←hp]; exact zr jQ _
   refine aR.by (X:=Nat) (fun j=>[(0,oN 0),(1,iT fun _=>0),(2,nT fun _=>xs.length),(3, .c (.fn 187 [])),(8,nT fun _=>i),(9,nT fun _=>j)]) (fun j=>[(0,aH .aI fun _=>slt p xs[i] (xs.drop (i+1)) j)]) (fun j=>j≤i∧∀y∈p.drop j,bu xs[i] y=true) (fun j _=>j) i ⟨Nat.le_refl _,by rw[List.drop_of_length_le (by omega)]; intro y hy; cases hy⟩ ?_ ?_
   · cbv
     repeat' first | exact trivial | refine⟨rfl, ?_⟩ | fail
     refine⟨?_,trivial⟩;show p++xs.drop i=slt p xs[i] (xs.drop (i+1)) i;rw[show slt p xs[i] (xs.drop (i+1)) i=p++xs[i]::xs.drop (i+1) by rw[slt,List.take_of_length_le (by omega),List.drop_of_length_le (by omega)]; rfl,List.drop_eq_getElem_cons h2]
   · intro j ⟨hj, hq⟩;have hlen:(slt p xs[i] (xs.drop (i+1)) j).length=xs.length:=by rw[GV (by omega),List.length_drop]; omega
     have gj:(slt p xs[i] (xs.drop (i+1)) j).getD ((j:Int)).toNat default=xs[i]:=by rw[Int.toNat_natCast,List.getD_eq_getElem?_getD,GW (by omega)]; rfl
     have stop :(0<j→∀y,p[j - 1]? = some y→bu xs[i] y=false)→slt p xs[i] (xs.drop (i+1)) j=dC bu (xs.take (i+1))++xs.drop (i+1):=fun mc=>by
       rw[G0 xs h2,hp];have e:p.take j++p.drop j=p:=List.take_append_drop _ _;rw[←e,Cq xs[i] ?_ (fun b hb=>hq b (List.mem_of_mem_head? hb)),e,slt,List.append_assoc]
       · rfl
       · intro b hb;rcases Nat.eq_zero_or_pos j with h0 | h0
         · subst h0; simp at hb
         · have iq:j - 1<p.length:=by omega
           have e1:p.take j=p.take (j - 1) ++ [p[j - 1]]:=by
             have:=List.take_add_one (l:=p) (i:=j - 1);rw[Nat.sub_add_cancel h0,List.getElem?_eq_getElem iq] at this;exact this
           rw[e1] at hb;refine GR jQ ?_ (mc h0 _ (List.getElem?_eq_getElem iq)) b hb;rw[←e1];exact List.Pairwise.sublist (List.take_sublist _ _) Ep
     cbv;refine Br.dec (fun h3=> ?_) (fun h3=> ?_) <;> cbv
     · have h3 : 0<j:=by simpa using h3
       obtain⟨y,hy⟩:∃y,p[j - 1]? = some y:=⟨_,List.getElem?_eq_getElem (by omega)⟩
       have gp:(slt p xs[i] (xs.drop (i+1)) j).getD ((j:Int) - 1).toNat default=y:=by
         rw[show((j:Int) - 1).toNat=j - 1 by omega,List.getD_eq_getElem?_getD,GX (by omega) h3,hy]; rfl
       have oj:0≤(j:Int)∧(j:Int)<((slt p xs[i] (xs.drop (i+1)) j).length:Int):=by rw[hlen]; omega
       have op:0≤(j:Int) - 1∧(j:Int) - 1<((slt p xs[i] (xs.drop (i+1)) j).length:Int):=by rw[hlen]; omega
       repeat' first
         | (refine Ob.mk (by first | exact oj | exact op) ?_; cbv)
         | refine And.intro ?_ ?_
         | (refine Ar.exact (by(try simp only[nc] at *); omega) (by(try simp only[nc] at *); omega) ?_; cbv)
         | (refine af.by hP (Ec ((slt p xs[i] (xs.drop (i+1)) j).getD ((j:Int)).toNat default) ((slt p xs[i] (xs.drop (i+1)) j).getD ((j:Int) - 1).toNat default)) ?_; cbv)
         | fail
       all_goals refine Br.dec (fun h4=> ?_) (fun h4=> ?_) <;> cbv
       all_goals rw[gj,gp,G3] at h4
       all_goals first
         | (have h5:bu xs[i] y=true:=h4
            have uD:∀z∈p.drop (j - 1),bu xs[i] z=true:=fun z hz=>by
              have e:p.drop (j - 1)=y::p.drop j:=by
               have iq:j - 1<p.length:=by omega
               rw[List.drop_eq_getElem_cons iq,Nat.sub_add_cancel h3];rw[List.getElem?_eq_getElem iq] at hy;cases hy; rfl
              rw[e] at hz;rcases List.mem_cons.1 hz with rfl | hz
              · exact h5
              · exact hq z hz
            have iq:((j:Int) - 1).toNat=j - 1:=by omega
            clear h4
            repeat' first
              | (refine Ob.mk (by first | exact oj | exact op | (simp only[List.length_set,hlen,nc] at *; omega)) ?_; cbv)
              | refine And.intro ?_ ?_
              | (refine Ar.exact (by(try simp only[nc] at *); omega) (by(try simp only[nc] at *); omega) ?_; cbv)
              | (refine Sv.mk (fun _=>(slt p xs[i] (xs.drop (i+1)) j).set j y) (by
                show(slt p xs[i] (xs.drop (i+1)) j).set ((j:Int)).toNat ((slt p xs[i] (xs.drop (i+1)) j).getD ((j:Int) - 1).toNat default)=_;rw[gp,Int.toNat_natCast]) ?_; cbv)
              | (refine Sv.mk (fun _=>(slt p xs[i] (xs.drop (i+1)) j).set (j - 1) xs[i]) (by
                show(slt p xs[i] (xs.drop (i+1)) j).set ((j:Int) - 1).toNat ((slt p xs[i] (xs.drop (i+1)) j).getD ((j:Int)).toNat default)=_;rw[gj,iq]) ?_; cbv)
              | (refine Sv.mk (fun _=>slt p xs[i] (xs.drop (i+1)) (j - 1)) (by
                show((slt p xs[i] (xs.drop (i+1)) j).set j y).set ((j:Int) - 1).toNat ((slt p xs[i] (xs.drop (i+1)) j).getD ((j:Int)).toNat default)=_;rw[gj,iq]; exact Ct (by omega) h3 hy) ?_; cbv)
              | (refine Sv.mk (fun _=>slt p xs[i] (xs.drop (i+1)) (j - 1)) (by
                show((slt p xs[i] (xs.drop (i+1)) j).set (j - 1) xs[i]).set ((j:Int)).toNat ((slt p xs[i] (xs.drop (i+1)) j).getD ((j:Int) - 1).toNat default)=_;rw[gp,Int.toNat_natCast]; exact GY (by omega) h3 hy) ?_; cbv)
              | (refine aL.by (j - 1) (show j - 1<j by omega) ⟨by omega,uD⟩ ?_; cbv)
              | exact trivial
              | refine⟨rfl, ?_⟩
              | refine⟨by simp only[nc] at *; omega, ?_⟩
              | fail)
         | (have h5:bu xs[i] y=false:=by simpa using h4
            have st:=stop fun _ z hz=>by rw[hy] at hz; cases hz; exact h5
            clear h4
            repeat' first
              | (refine Ar.exact (by(try simp only[nc] at *); omega) (by(try simp only[nc] at *); omega) ?_; cbv)
              | (refine aL.by (i+1) (show xs.length - (i+1)<xs.length - i by omega) ⟨by omega, .inl h2⟩ ?_; cbv)
              | exact trivial
              | refine⟨rfl, ?_⟩
              | refine⟨st, ?_⟩
              | fail)
     · have h3:¬0<j:=by simpa using h3
       refine Ar.exact (by(try simp only[nc] at *); omega) (by(try simp only[nc] at *); omega) ?_;cbv;refine aL.by (i+1) ?_ ?_ ?_
       · show xs.length - (i+1)<xs.length - i;omega
       · exact⟨by omega, .inl h2⟩
       · cbv
         repeat' first | exact trivial | refine⟨rfl, ?_⟩ | fail
         refine⟨?_,trivial⟩;exact stop fun h=>absurd h h3
theorem Q3 (xs:List aC) (bI:xs.length≤10):bJ Tryz.prog 246 [oN 0,nT fun _=>xs.length, .c (.fn 187 [])] [(0,aH .aI fun _=>xs)]
   (dx (.aS []) [(0, .own .aI fun _=>dC bu xs)]):=by
 refine fp au Tryz.func246 rfl rfl (fr:=true) (fun _=>by kernel_rfl) rfl rfl fun P hP hA hB=> ?_;cbv;refine aR.by (X:=Unit) (fun _=>[(0,oN 0),(1,nT fun _=>xs.length),(2, .c (.fn 187 [])),(6,iT fun _=>20),(7,iT fun _=>0),(8,iT fun _=>20)]) (fun _=>[(0,aH .aI fun _=>xs)]) (fun _=>True) (fun _ _=>0) () trivial ?_ ?_
 · cbv
   repeat' first | exact trivial | refine⟨rfl, ?_⟩ | fail
 · intro _ _;cbv;refine Br.dec (fun h2=> ?_) (fun h2=> ?_) <;> cbv
   · exfalso;simp only[nc] at *;omega
   refine aD.by hP (J1 xs (Nat.le_trans bI (by decide))) ?_;cbv;refine aR.by (X:=Unit) (fun _=>[(0,oN 0),(1,nT fun _=>xs.length),(2, .c (.fn 187 [])),(6,iT fun _=>20)]) (fun _=>[(0,aH .aI fun _=>dC bu xs)]) (fun _=>True) (fun _ _=>0) () trivial ?_ ?_
   · cbv
     repeat' first | exact trivial | refine⟨rfl, ?_⟩ | fail
   · intro _ _;cbv;refine Br.dec (fun h3=> ?_) (fun h3=> ?_) <;> cbv
     · exfalso;simp only[nc] at *;omega
     repeat' first | exact trivial | refine⟨rfl, ?_⟩ | fail
theorem Q4 (xs:List aC) (bI:xs.length≤10):bJ Tryz.prog 188 [oN 0, .c (.fn 187 [])] [(0,aH .aI fun _=>xs)]
  (dx (.aS []) [(0, .own .aI fun _=>dC bu xs)]):=by
 refine fp au Tryz.func188 rfl rfl (fr:=true) (fun _=>by kernel_rfl) rfl rfl fun P hP hA hB=> ?_;cbv;refine aD.by hP (Q3 xs bI) ?_;cbv
 repeat' first | exact trivial | refine⟨rfl, ?_⟩ | fail
theorem Q5 (n:Int) (h0:0≤n) (bI:n≤10):Spec Tryz.prog 282 [.c (.lf (.int .u64 fun _=>n))] (gW Int (fun _=>True) fun x=>iR fun _=>x):=by
 refine aF au Tryz.func282 rfl rfl (fr:=true) (fun _=>by kernel_rfl) fun P hP hA=> ?_;have w8:IntKind.u8.wrap n=n:=qX (wC.2 ⟨h0,by omega⟩);cbv;refine Br.dec (fun h1=> ?_) (fun h1=> ?_) <;> cbv
 · exfalso;omega
 refine Br.dec (fun h2=> ?_) (fun h2=> ?_) <;> cbv
 · exfalso;omega
 refine Br.dec (fun h3=> ?_) (fun h3=> ?_) <;> cbv
 · exfalso;omega
 refine⟨⟨?_, ?_⟩, ?_⟩
 · show 0≤IntKind.u8.wrap n;rw[w8]; exact h0
 · show IntKind.u8.wrap n<_;rw[w8];exact Int.lt_of_lt_of_le (b:=256) (by omega) (by decide)
 cbv;refine Ar.exact ?_ ?_ ?_
 · dsimp only
   generalize List.getD _ _ _=q;have:=q.toNat_lt;simp only[nc];omega
 · dsimp only
   generalize List.getD _ _ _=q;have:=q.toNat_lt;simp only[nc];omega
 cbv;exact⟨_,trivial,kz.mk rfl trivial⟩
theorem Q6 (n:Int) (h0:0≤n) (bI:n≤10):Spec Tryz.prog 245 [.c (.lf (.int .u64 fun _=>n))] (gW Int (fun _=>True) fun x=>iR fun _=>x):=by
 refine aF au Tryz.func245 rfl rfl (fr:=true) (fun _=>by kernel_rfl) fun P hP hA=> ?_;cbv;refine af.ex hP (Q5 n h0 bI) fun x hx=> ?_;cbv;refine⟨x,trivial, ?_⟩;cbv
 repeat' first | exact trivial | refine⟨rfl, ?_⟩ | fail
theorem Q7 (xs:List aC) (bI:xs.length≤10) (l:Int):bJ Tryz.prog 244 [oN 0,iT fun _=>0,nT fun _=>xs.length,iT fun _=>l, .c (.fn 187 [])] [(0,aH .aI fun _=>xs)]
   (dx (.aS []) [(0, .own .aI fun _=>dC bu xs)]):=by
 refine fp au Tryz.func244 rfl rfl (fr:=true) (fun _=>by kernel_rfl) rfl rfl fun P hP hA hB=> ?_;cbv;refine aR.by (X:=Unit) (fun _=>[(0,oN 0),(1,iT fun _=>0),(2,nT fun _=>xs.length),(3,iT fun _=>l),(4, .c (.fn 187 []))]) (fun _=>[(0,aH .aI fun _=>xs)]) (fun _=>True) (fun _ _=>0) () trivial ?_ ?_
 · cbv
   repeat' first | exact trivial | refine⟨rfl, ?_⟩ | fail
 · intro _ _;cbv;refine Ar.exact (by(try simp only[nc] at *); omega) (by(try simp only[nc] at *); omega) ?_;cbv;refine Br.dec (fun h2=> ?_) (fun h2=> ?_) <;> cbv
   rotate_left
   · exfalso;simp only[nc] at *;omega
   refine aD.by hP (J1 xs (Nat.le_trans bI (by decide))) ?_;cbv
   repeat' first | exact trivial | refine⟨rfl, ?_⟩ | fail
theorem Q8 (xs:List aC) (bI:xs.length≤10):bJ Tryz.prog 186 [oN 0, .c (.fn 187 [])] [(0,aH .aI fun _=>xs)]
  (dx (.aS []) [(0, .own .aI fun _=>dC bu xs)]):=by
 refine fp au Tryz.func186 rfl rfl (fr:=true) (fun _=>by kernel_rfl) rfl rfl fun P hP hA hB=> ?_;have J2:IntKind.u64.wrap (xs.length:Int)=(xs.length:Int):=qX (Gk.2 ⟨by omega,by omega⟩);have g0:0≤IntKind.u64.wrap (xs.length:Int):=by rw[J2]; omega
 have g1:IntKind.u64.wrap (xs.length:Int)≤10:=by rw[J2]; omega
 cbv;refine af.ex hP (Q6 (IntKind.u64.wrap (xs.length:Int)) g0 g1) fun l hl=> ?_;cbv;refine aD.by hP (Q7 xs bI l) ?_;cbv
 repeat' first | exact trivial | refine⟨rfl, ?_⟩ | fail
set_option maxHeartbeats 4000000 in
theorem Q9 (xs : List Entry) (hn:xs.length≤aN):bJ Tryz.prog 270 [oN 0,iT fun _=>0,nT fun _=>xs.length, .c (.fn 185 [])] [(0,aH .aJ fun _=>xs)]
   (dx (.aS []) [(0, .own .aJ fun _=>dC bd xs)]):=by
 refine fp au Tryz.func270 rfl rfl (fr:=true) (fun _=>by kernel_rfl) rfl rfl fun P hP hA hB=> ?_;have hs:xs.length≤1048576:=hn;cbv;refine Ar.exact (by(try simp only[nc] at *); omega) (by(try simp only[nc] at *); omega) ?_;cbv;refine aR.by (X:=Nat) (fun i=>[(0,oN 0),(1,iT fun _=>0),(2,nT fun _=>xs.length),(3, .c (.fn 185 [])),(8,nT fun _=>i)]) (fun i=>[(0,aH .aJ fun _=>dC bd (xs.take i)++xs.drop i)]) (fun i=>1≤i∧(i≤xs.length∨i=1)) (fun i _=>xs.length - i) 1 ⟨Nat.le_refl _, .inr rfl⟩ ?_ ?_
 · cbv
   repeat' first | exact trivial | refine⟨rfl, ?_⟩ | fail
   exact⟨(GZ bd xs).symm,trivial⟩
 · intro i ⟨hi, pA⟩;cbv;refine Br.dec (fun h2=> ?_) (fun h2=> ?_) <;> cbv
   rotate_left
   · refine⟨?_,trivial⟩;have h2:xs.length≤i:=by simp at h2; omega
     show dC bd (xs.take i)++xs.drop i=dC bd xs;rw[List.take_of_length_le h2,List.drop_of_length_le h2,List.append_nil]
   have h2:i<xs.length:=by simpa using h2
   generalize hp:dC bd (xs.take i)=p;have hl:p.length=i:=by rw[←hp,mb,List.length_take]; omega
   have Ep:ri bd p:=by rw[←hp]; exact zr oJ _
   refine aR.by (X:=Nat) (fun j=>[(0,oN 0),(1,iT fun _=>0),(2,nT fun _=>xs.length),(3, .c (.fn 185 [])),(8,nT fun _=>i),(9,nT fun _=>j)]) (fun j=>[(0,aH .aJ fun _=>slt p xs[i] (xs.drop (i+1)) j)]) (fun j=>j≤i∧∀y∈p.drop j,bd xs[i] y=true) (fun j _=>j) i ⟨Nat.le_refl _,by rw[List.drop_of_length_le (by omega)]; intro y hy; cases hy⟩ ?_ ?_
   · cbv
     repeat' first | exact trivial | refine⟨rfl, ?_⟩ | fail
     refine⟨?_,trivial⟩;show p++xs.drop i=slt p xs[i] (xs.drop (i+1)) i;rw[show slt p xs[i] (xs.drop (i+1)) i=p++xs[i]::xs.drop (i+1) by rw[slt,List.take_of_length_le (by omega),List.drop_of_length_le (by omega)]; rfl,List.drop_eq_getElem_cons h2]
   · intro j ⟨hj, hq⟩;have hlen:(slt p xs[i] (xs.drop (i+1)) j).length=xs.length:=by rw[GV (by omega),List.length_drop]; omega
     have gj:(slt p xs[i] (xs.drop (i+1)) j).getD ((j:Int)).toNat default=xs[i]:=by rw[Int.toNat_natCast,List.getD_eq_getElem?_getD,GW (by omega)]; rfl
     have stop :(0<j→∀y,p[j - 1]? = some y→bd xs[i] y=false)→slt p xs[i] (xs.drop (i+1)) j=dC bd (xs.take (i+1))++xs.drop (i+1):=fun mc=>by
       rw[G0 xs h2,hp];have e:p.take j++p.drop j=p:=List.take_append_drop _ _;rw[←e,Cq xs[i] ?_ (fun b hb=>hq b (List.mem_of_mem_head? hb)),e,slt,List.append_assoc]
       · rfl
       · intro b hb;rcases Nat.eq_zero_or_pos j with h0 | h0
         · subst h0; simp at hb
         · have iq:j - 1<p.length:=by omega
           have e1:p.take j=p.take (j - 1) ++ [p[j - 1]]:=by
             have:=List.take_add_one (l:=p) (i:=j - 1);rw[Nat.sub_add_cancel h0,List.getElem?_eq_getElem iq] at this;exact this
           rw[e1] at hb;refine GR oJ ?_ (mc h0 _ (List.getElem?_eq_getElem iq)) b hb;rw[←e1];exact List.Pairwise.sublist (List.take_sublist _ _) Ep
     cbv;refine Br.dec (fun h3=> ?_) (fun h3=> ?_) <;> cbv
     · have h3 : 0<j:=by simpa using h3
       obtain⟨y,hy⟩:∃y,p[j - 1]? = some y:=⟨_,List.getElem?_eq_getElem (by omega)⟩
       have gp:(slt p xs[i] (xs.drop (i+1)) j).getD ((j:Int) - 1).toNat default=y:=by
         rw[show((j:Int) - 1).toNat=j - 1 by omega,List.getD_eq_getElem?_getD,GX (by omega) h3,hy]; rfl
       have oj:0≤(j:Int)∧(j:Int)<((slt p xs[i] (xs.drop (i+1)) j).length:Int):=by rw[hlen]; omega
       have op:0≤(j:Int) - 1∧(j:Int) - 1<((slt p xs[i] (xs.drop (i+1)) j).length:Int):=by rw[hlen]; omega
       repeat' first
         | (refine Ob.mk (by first | exact oj | exact op) ?_; cbv)
         | refine And.intro ?_ ?_
         | (refine Ar.exact (by(try simp only[nc] at *); omega) (by(try simp only[nc] at *); omega) ?_; cbv)
         | (refine af.by hP (JK ((slt p xs[i] (xs.drop (i+1)) j).getD ((j:Int)).toNat default) ((slt p xs[i] (xs.drop (i+1)) j).getD ((j:Int) - 1).toNat default)) ?_; cbv)
         | fail
       all_goals refine Br.dec (fun h4=> ?_) (fun h4=> ?_) <;> cbv
       all_goals rw[gj,gp,G3] at h4
       all_goals first
         | (have h5:bd xs[i] y=true:=h4
            have uD:∀z∈p.drop (j - 1),bd xs[i] z=true:=fun z hz=>by
              have e:p.drop (j - 1)=y::p.drop j:=by
               have iq:j - 1<p.length:=by omega
               rw[List.drop_eq_getElem_cons iq,Nat.sub_add_cancel h3];rw[List.getElem?_eq_getElem iq] at hy;cases hy; rfl
              rw[e] at hz;rcases List.mem_cons.1 hz with rfl | hz
              · exact h5
              · exact hq z hz
            have iq:((j:Int) - 1).toNat=j - 1:=by omega
            clear h4
            repeat' first
              | (refine Ob.mk (by first | exact oj | exact op | (simp only[List.length_set,hlen,nc] at *; omega)) ?_; cbv)
              | refine And.intro ?_ ?_
              | (refine Ar.exact (by(try simp only[nc] at *); omega) (by(try simp only[nc] at *); omega) ?_; cbv)
              | (refine Sv.mk (fun _=>(slt p xs[i] (xs.drop (i+1)) j).set j y) (by
                show(slt p xs[i] (xs.drop (i+1)) j).set ((j:Int)).toNat ((slt p xs[i] (xs.drop (i+1)) j).getD ((j:Int) - 1).toNat default)=_;rw[gp,Int.toNat_natCast]) ?_; cbv)
              | (refine Sv.mk (fun _=>(slt p xs[i] (xs.drop (i+1)) j).set (j - 1) xs[i]) (by
                show(slt p xs[i] (xs.drop (i+1)) j).set ((j:Int) - 1).toNat ((slt p xs[i] (xs.drop (i+1)) j).getD ((j:Int)).toNat default)=_;rw[gj,iq]) ?_; cbv)
              | (refine Sv.mk (fun _=>slt p xs[i] (xs.drop (i+1)) (j - 1)) (by
                show((slt p xs[i] (xs.drop (i+1)) j).set j y).set ((j:Int) - 1).toNat ((slt p xs[i] (xs.drop (i+1)) j).getD ((j:Int)).toNat default)=_;rw[gj,iq]; exact Ct (by omega) h3 hy) ?_; cbv)
              | (refine Sv.mk (fun _=>slt p xs[i] (xs.drop (i+1)) (j - 1)) (by
                show((slt p xs[i] (xs.drop (i+1)) j).set (j - 1) xs[i]).set ((j:Int)).toNat ((slt p xs[i] (xs.drop (i+1)) j).getD ((j:Int) - 1).toNat default)=_;rw[gp,Int.toNat_natCast]; exact GY (by omega) h3 hy) ?_; cbv)
              | (refine aL.by (j - 1) (show j - 1<j by omega) ⟨by omega,uD⟩ ?_; cbv)
              | exact trivial
              | refine⟨rfl, ?_⟩
              | refine⟨by simp only[nc] at *; omega, ?_⟩
              | fail)
         | (have h5:bd xs[i] y=false:=by simpa using h4
            have st:=stop fun _ z hz=>by rw[hy] at hz; cases hz; exact h5
            clear h4
            repeat' first
              | (refine Ar.exact (by(try simp only[nc] at *); omega) (by(try simp only[nc] at *); omega) ?_; cbv)
              | (refine aL.by (i+1) (show xs.length - (i+1)<xs.length - i by omega) ⟨by omega, .inl h2⟩ ?_; cbv)
              | exact trivial
              | refine⟨rfl, ?_⟩
              | refine⟨st, ?_⟩
              | fail)
     · have h3:¬0<j:=by simpa using h3
       refine Ar.exact (by(try simp only[nc] at *); omega) (by(try simp only[nc] at *); omega) ?_;cbv;refine aL.by (i+1) ?_ ?_ ?_
       · show xs.length - (i+1)<xs.length - i;omega
       · exact⟨by omega, .inl h2⟩
       · cbv
         repeat' first | exact trivial | refine⟨rfl, ?_⟩ | fail
         refine⟨?_,trivial⟩;exact stop fun h=>absurd h h3
theorem Q_ {α:Type} {xs:List α} (h:xs.length≤10):xs.length≤aN:=Nat.le_trans h (by decide)
theorem Ra (xs:List Entry) (bI:xs.length≤10):bJ Tryz.prog 242 [oN 0,nT fun _=>xs.length, .c (.fn 185 [])] [(0,aH .aJ fun _=>xs)]
   (dx (.aS []) [(0, .own .aJ fun _=>dC bd xs)]):=by
 refine fp au Tryz.func242 rfl rfl (fr:=true) (fun _=>by kernel_rfl) rfl rfl fun P hP hA hB=> ?_;cbv;refine aR.by (X:=Unit) (fun _=>[(0,oN 0),(1,nT fun _=>xs.length),(2, .c (.fn 185 [])),(6,iT fun _=>20),(7,iT fun _=>0),(8,iT fun _=>20)]) (fun _=>[(0,aH .aJ fun _=>xs)]) (fun _=>True) (fun _ _=>0) () trivial ?_ ?_
 · cbv
   repeat' first | exact trivial | refine⟨rfl, ?_⟩ | fail
 · intro _ _;cbv;refine Br.dec (fun h2=> ?_) (fun h2=> ?_) <;> cbv
   · exfalso;simp only[nc] at *;omega
   refine aD.by hP (Q9 xs (Q_ bI)) ?_;cbv;refine aR.by (X:=Unit) (fun _=>[(0,oN 0),(1,nT fun _=>xs.length),(2, .c (.fn 185 [])),(6,iT fun _=>20)]) (fun _=>[(0,aH .aJ fun _=>dC bd xs)]) (fun _=>True) (fun _ _=>0) () trivial ?_ ?_
   · cbv
     repeat' first | exact trivial | refine⟨rfl, ?_⟩ | fail
   · intro _ _;cbv;refine Br.dec (fun h3=> ?_) (fun h3=> ?_) <;> cbv
     · exfalso;simp only[nc] at *;omega
     repeat' first | exact trivial | refine⟨rfl, ?_⟩ | fail
theorem Rb (xs:List Entry) (bI:xs.length≤10):bJ Tryz.prog 184 [oN 0, .c (.fn 185 [])] [(0,aH .aJ fun _=>xs)]
  (dx (.aS []) [(0, .own .aJ fun _=>dC bd xs)]):=by
 refine fp au Tryz.func184 rfl rfl (fr:=true) (fun _=>by kernel_rfl) rfl rfl fun P hP hA hB=> ?_;cbv;refine aD.by hP (Ra xs bI) ?_;cbv
 repeat' first | exact trivial | refine⟨rfl, ?_⟩ | fail
def Er (R:bn):List C:=[.lf (.list .int fun _=>R.seats), .lf (.int .i64 fun _=>R.bX), .lf (.int .i64 fun _=>R.room), .lf (.int .i64 fun _=>R.size), .lf (.int .i64 fun _=>R.period), .lf (.int .i64 fun _=>R.bE), .lf (.int .i64 fun _=>R.rest), .lf (.int .i64 fun _=>R.tries), .lf (.int .i64 fun _=>R.bm)]
def fJ (R:bn) (c now:Int) (l:List ax):List Entry:=(l.filter fun p=>fq R p now && p.ag == c).map fun p=>cD R p now
def fK (R:bn) (l:List ax) (c now:Int):List Entry:=dC bd (fJ R c now l)
def ga (c:Int) (l:List ax):List aC:=(l.filter fun p=>p.st == 2 && p.ag == c).map fun p=>⟨p.dH,p.id⟩
def gH (l:List ax) (c:Int):List aC:=dC bu (ga c l)
section
variable {α β : Type} (q : α → Bool) (f : α → β)
theorem xV {l:List α} {i:Nat} (h:i<l.length) (hq:q l[i]=true):((l.take i).filter q).map f ++ [f l[i]]=((l.take (i+1)).filter q).map f:=by
 rw[List.take_add_one,List.getElem?_eq_getElem h,List.filter_append,List.map_append]; simp[hq]
theorem tW {l:List α} {i:Nat} (h:i<l.length) (hq:q l[i]=false):((l.take i).filter q).map f=((l.take (i+1)).filter q).map f:=by
 rw[List.take_add_one,List.getElem?_eq_getElem h,List.filter_append,List.map_append]; simp[hq]
theorem Es {l:List α}:((l.filter q).map f).length≤l.length:=by rw[List.length_map]; exact List.length_filter_le _ _
theorem Rc {l:List α} {i:Nat} (h:i<l.length) (hq:q l[i]=true):((l.drop i).filter q).map f=f l[i]::((l.drop (i+1)).filter q).map f:=by
 rw[List.drop_eq_getElem_cons h,List.filter_cons_of_pos hq]; rfl
theorem Rd {l:List α} {i:Nat} (h:i<l.length) (hq:q l[i]=false):((l.drop i).filter q).map f=((l.drop (i+1)).filter q).map f:=by
 rw[List.drop_eq_getElem_cons h,List.filter_cons_of_neg (by rw[hq]; simp)]
end
theorem Et (R:bn) (c now:Int) (l:List ax):(fJ R c now l).length≤l.length:=Es _ _
theorem Re {l:List Entry}:(kY bd l).length=l.length:=by rw[GO oJ,mb]
theorem Eu (R:bn) (l:List ax) (c now:Int) (hs:R.seats.length≤aN) (hl:l.length≤aN):Spec Tryz.prog 116 [fG R,lA .aE l,iA c,iA now] (aG (lR .aJ fun _=>fK R l c now)):=by
 refine aF au Tryz.func116 rfl rfl (fr:=true) (fun _=>by kernel_rfl) fun P hP hA=> ?_;have ko:l.length≤1048576:=hl;cbv;refine Ar.exact (by(try simp only[nc] at *); omega) (by(try simp only[nc] at *); omega) ?_;cbv;refine aR.by (X:=Nat) (fun m=>[(1,lA .aE l),(2,iA c),(3,iA now),(4,pN 0),(9,oN 1),(10,iT fun _=>(m:Int) - 1)]) (fun m=>[(0, .box (Er R)),(1,aH .aJ fun _=>kY bd (fJ R c now (l.drop m)))]) (fun m=>m≤l.length) (fun m _=>m) l.length (Nat.le_refl _) ?_ ?_
 · cbv
   repeat' first | exact trivial | refine⟨rfl, ?_⟩ | fail
   refine⟨?_,trivial⟩;show[]=kY bd (fJ R c now (l.drop l.length));rw[List.drop_length]; rfl
 · intro m hm;cbv;refine Br.dec (fun h2=> ?_) (fun h2=> ?_) <;> cbv
   rotate_left
   · have h2:m=0:=by simp only[nc] at *; omega
     subst h2;refine⟨?_,trivial⟩;show kY bd (fJ R c now (l.drop 0))=fK R l c now;rw[List.drop_zero,GO oJ]; rfl
   have h2:1≤m:=by simp only[nc] at *; omega
   obtain⟨i,rfl⟩:∃i,m=i+1:=⟨m - 1,by omega⟩;have hi:i<l.length:=hm;have ei:(((i+1:Nat):Int) - 1).toNat=i:=by omega
   have hlen:(kY bd (fJ R c now (l.drop (i+1)))).length≤aN:=by
     rw[Re];exact Nat.le_trans (Et _ _ _ _) (by rw[List.length_drop]; exact Nat.le_trans (Nat.sub_le _ _) hl)
   have J3:0≤((i+1:Nat):Int) - 1:=by omega
   have dY:l[(((i+1:Nat):Int) - 1).toNat]? = some l[i]:=by rw[ei]; exact List.getElem?_eq_getElem hi
   have no:(fq R l[i] now && l[i].ag == c)=false→kY bd (fJ R c now (l.drop (i+1)))=kY bd (fJ R c now (l.drop i)):=fun h=>by
     unfold fJ; rw[Rd _ _ hi h]
   have yes:(fq R l[i] now && l[i].ag == c)=true→bP bd (cD R l[i] now) (kY bd (fJ R c now (l.drop (i+1))))=kY bd (fJ R c now (l.drop i)):=fun h=>by
     unfold fJ; rw[Rc _ _ hi h]; rfl
   have e1:((i+1:Nat):Int) - 1 - 1=(i:Int) - 1:=by omega
   refine⟨l[i],J3,dY, ?_⟩;cbv
   repeat' first
     | (refine af.by hP (JI R l[i] now hs (cD R l[i] now) rfl (fq R l[i] now) rfl) ?_; cbv)
     | (refine And.intro ?_ ?_)
     | fail
   all_goals
     refine Br.split (fun k0=> ?_) (fun k0=> ?_) <;> cbv
     · refine⟨l[i],J3,dY, ?_⟩;cbv;refine Br.split (fun k1=> ?_) (fun k1=> ?_) <;> cbv
       · refine af.by hP (En (kY bd (fJ R c now (l.drop (i+1)))) (cD R l[i] now) hlen) ?_;cbv;refine Ar.exact (by(try simp only[nc] at *); omega) (by(try simp only[nc] at *); omega) ?_;cbv;refine aL.by i ?_ ?_ ?_
         · show i<i+1;omega
         · show i≤l.length;omega
         · cbv
           repeat' first | exact trivial | refine⟨rfl, ?_⟩ | fail
           refine⟨e1, ?_⟩
           repeat' first | exact trivial | refine⟨rfl, ?_⟩ | fail
           refine⟨yes (by rw[k0]; exact k1), ?_⟩
           repeat' first | exact trivial | refine⟨rfl, ?_⟩ | fail
       · refine Ar.exact (by(try simp only[nc] at *); omega) (by(try simp only[nc] at *); omega) ?_;cbv;refine aL.by i ?_ ?_ ?_
         · show i<i+1;omega
         · show i≤l.length;omega
         · cbv
           repeat' first | exact trivial | refine⟨rfl, ?_⟩ | fail
           refine⟨e1, ?_⟩
           repeat' first | exact trivial | refine⟨rfl, ?_⟩ | fail
           refine⟨no (by rw[k0]; exact k1), ?_⟩
           repeat' first | exact trivial | refine⟨rfl, ?_⟩ | fail
     · refine Ar.exact (by(try simp only[nc] at *); omega) (by(try simp only[nc] at *); omega) ?_;cbv;refine aL.by i ?_ ?_ ?_
       · show i<i+1;omega
       · show i≤l.length;omega
       · cbv
         repeat' first | exact trivial | refine⟨rfl, ?_⟩ | fail
         refine⟨e1, ?_⟩
         repeat' first | exact trivial | refine⟨rfl, ?_⟩ | fail
         refine⟨no (by rw[k0]; rfl), ?_⟩
         repeat' first | exact trivial | refine⟨rfl, ?_⟩ | fail
theorem J4 (R:bn) (l:List ax) (c now:Int) (hs:R.seats.length≤aN) (hl:l.length≤aN) (bI:(fJ R c now l).length≤10):Spec Tryz.prog 124 [fG R,lA .aE l,iA c,iA now] (aG (lR .aJ fun _=>fK R l c now)):=by
 refine aF au Tryz.func124 rfl rfl (fr:=true) (fun _=>by kernel_rfl) fun P hP hA=> ?_;have ko:l.length≤1048576:=hl;cbv;refine aR.by (X:=Nat) (fun i=>[(2,iA c),(3,iA now),(4,pN 0),(9,oN 1),(14,lA .aE l),(15,nT fun _=>l.length),(16,nT fun _=>i)]) (fun i=>[(0, .box (Er R)),(1,aH .aJ fun _=>fJ R c now (l.take i))]) (fun i=>i≤l.length) (fun i _=>l.length - i) 0 (Nat.zero_le _) ?_ ?_
 · cbv
   repeat' first | exact trivial | refine⟨rfl, ?_⟩ | fail
 · intro i hi;cbv;refine Br.dec (fun h2=> ?_) (fun h2=> ?_) <;> cbv
   rotate_left
   · have h2:l.length≤i:=by simp at h2; omega
     have e:fJ R c now (l.take i)=fJ R c now l:=by rw[List.take_of_length_le h2]
     refine aD.by hP (Rb (fJ R c now (l.take i)) (by rw[e]; exact bI)) ?_;cbv;refine⟨?_,trivial⟩;show dC bd (fJ R c now (l.take i))=fK R l c now;rw[e]; rfl
   have h2:i<l.length:=by simpa using h2
   have ob:(List.length (fJ R c now (l.take i))+1)*32≤140737488355328:=by
     have:=Et R c now (l.take i);rw[List.length_take] at this;omega
   refine⟨l[i],by simp,get_cast l h2, ?_⟩;cbv;refine af.by hP (Eb R l[i] now hs (cD R l[i] now) rfl (fq R l[i] now) rfl) ?_;cbv;refine Br.split (fun k0=> ?_) (fun k0=> ?_) <;> cbv
   · refine Br.split (fun k1=> ?_) (fun k1=> ?_) <;> cbv
     · refine⟨ob, ?_⟩;cbv;refine Ar.exact (by(try simp only[nc] at *); omega) (by(try simp only[nc] at *); omega) ?_;cbv;refine aL.by (i+1) ?_ ?_ ?_
       · show l.length - (i+1)<l.length - i;omega
       · exact h2
       · cbv
         repeat' first | exact trivial | refine⟨rfl, ?_⟩ | fail
         refine⟨xV _ (fun p=>cD R p now) h2 (by rw[k0]; exact k1), ?_⟩
         repeat' first | exact trivial | refine⟨rfl, ?_⟩ | fail
     · refine Ar.exact (by(try simp only[nc] at *); omega) (by(try simp only[nc] at *); omega) ?_;cbv;refine aL.by (i+1) ?_ ?_ ?_
       · show l.length - (i+1)<l.length - i;omega
       · exact h2
       · cbv
         repeat' first | exact trivial | refine⟨rfl, ?_⟩ | fail
         refine⟨tW _ (fun p=>cD R p now) h2 (by rw[k0]; exact k1), ?_⟩
         repeat' first | exact trivial | refine⟨rfl, ?_⟩ | fail
   · refine Ar.exact (by(try simp only[nc] at *); omega) (by(try simp only[nc] at *); omega) ?_;cbv;refine aL.by (i+1) ?_ ?_ ?_
     · show l.length - (i+1)<l.length - i;omega
     · exact h2
     · cbv
       repeat' first | exact trivial | refine⟨rfl, ?_⟩ | fail
       refine⟨tW _ (fun p=>cD R p now) h2 (by rw[k0]; rfl), ?_⟩
       repeat' first | exact trivial | refine⟨rfl, ?_⟩ | fail
theorem J5 (c:Int) (l:List ax):(ga c l).length≤l.length:=Es _ _
theorem Rf {l:List aC}:(ji bu l).length=l.length:=by rw[zt jQ wV,mb]
theorem Rg (l:List ax) (c:Int) (hl:l.length≤aN) (bI:(ga c l).length≤10):Spec Tryz.prog 127 [lA .aE l,iA c] (aG (lR .aI fun _=>gH l c)):=by
 refine aF au Tryz.func127 rfl rfl (fr:=true) (fun _=>by kernel_rfl) fun P hP hA=> ?_;have ko:l.length≤1048576:=hl;cbv;refine aR.by (X:=Nat) (fun i=>[(1,iA c),(5,oN 0),(8,lA .aE l),(9,nT fun _=>l.length),(10,nT fun _=>i)]) (fun i=>[(0,aH .aI fun _=>ga c (l.take i))]) (fun i=>i≤l.length) (fun i _=>l.length - i) 0 (Nat.zero_le _) ?_ ?_
 · cbv
   repeat' first | exact trivial | refine⟨rfl, ?_⟩ | fail
 · intro i hi;cbv;refine Br.dec (fun h2=> ?_) (fun h2=> ?_) <;> cbv
   rotate_left
   · have h2:l.length≤i:=by simp at h2; omega
     have e:ga c (l.take i)=ga c l:=by rw[List.take_of_length_le h2]
     refine aD.by hP (Q4 (ga c (l.take i)) (by rw[e]; exact bI)) ?_;cbv;refine⟨?_,trivial⟩;show dC bu (ga c (l.take i))=gH l c;rw[e]; rfl
   have h2:i<l.length:=by simpa using h2
   have ob:(List.length (ga c (l.take i))+1)*16≤140737488355328:=by
     have:=J5 c (l.take i);rw[List.length_take] at this;omega
   refine⟨l[i],by simp,get_cast l h2, ?_⟩;cbv;refine Br.split (fun k0=> ?_) (fun k0=> ?_) <;> cbv
   · refine Br.split (fun k1=> ?_) (fun k1=> ?_) <;> cbv
     · refine⟨ob, ?_⟩;cbv;refine Ar.exact (by(try simp only[nc] at *); omega) (by(try simp only[nc] at *); omega) ?_;cbv;refine aL.by (i+1) ?_ ?_ ?_
       · show l.length - (i+1)<l.length - i;omega
       · exact h2
       · cbv
         repeat' first | exact trivial | refine⟨rfl, ?_⟩ | fail
         refine⟨xV _ (fun p:ax=>(⟨p.dH,p.id⟩:aC)) h2 (by rw[k0]; exact k1), ?_⟩
         repeat' first | exact trivial | refine⟨rfl, ?_⟩ | fail
     · refine Ar.exact (by(try simp only[nc] at *); omega) (by(try simp only[nc] at *); omega) ?_;cbv;refine aL.by (i+1) ?_ ?_ ?_
       · show l.length - (i+1)<l.length - i;omega
       · exact h2
       · cbv
         repeat' first | exact trivial | refine⟨rfl, ?_⟩ | fail
         refine⟨tW _ (fun p:ax=>(⟨p.dH,p.id⟩:aC)) h2 (by rw[k0]; exact k1), ?_⟩
         repeat' first | exact trivial | refine⟨rfl, ?_⟩ | fail
   · refine Ar.exact (by(try simp only[nc] at *); omega) (by(try simp only[nc] at *); omega) ?_;cbv;refine aL.by (i+1) ?_ ?_ ?_
     · show l.length - (i+1)<l.length - i;omega
     · exact h2
     · cbv
       repeat' first | exact trivial | refine⟨rfl, ?_⟩ | fail
       refine⟨tW _ (fun p:ax=>(⟨p.dH,p.id⟩:aC)) h2 (by rw[k0]; rfl), ?_⟩
       repeat' first | exact trivial | refine⟨rfl, ?_⟩ | fail
theorem J6 (l:List ax) (c:Int) (hl:l.length≤aN):Spec Tryz.prog 119 [lA .aE l,iA c] (aG (lR .aI fun _=>gH l c)):=by
 refine aF au Tryz.func119 rfl rfl (fr:=true) (fun _=>by kernel_rfl) fun P hP hA=> ?_;have ko:l.length≤1048576:=hl;cbv;refine aR.by (X:=Nat) (fun i=>[(0,lA .aE l),(1,iA c),(5,oN 0),(6,nT fun _=>i)]) (fun i=>[(0,aH .aI fun _=>ji bu (ga c (l.take i)))]) (fun i=>i≤l.length) (fun i _=>l.length - i) 0 (Nat.zero_le _) ?_ ?_
 · cbv
   repeat' first | exact trivial | refine⟨rfl, ?_⟩ | fail
 · intro i hi;cbv;refine Br.dec (fun h2=> ?_) (fun h2=> ?_) <;> cbv
   rotate_left
   · have h2:l.length≤i:=by simp at h2; omega
     refine⟨?_,trivial⟩;show ji bu (ga c (l.take i))=gH l c;rw[List.take_of_length_le h2,zt jQ wV]; rfl
   have h2:i<l.length:=by simpa using h2
   have hlen:(ji bu (ga c (l.take i))).length≤aN:=by
     rw[Rf];exact Nat.le_trans (J5 _ _) (by rw[List.length_take]; exact Nat.le_trans (Nat.min_le_right _ _) hl)
   have no:(l[i].st == 2 && l[i].ag == c)=false→ji bu (ga c (l.take i))=ji bu (ga c (l.take (i+1))):=fun h=>by
     unfold ga; rw[tW _ (fun p:ax=>(⟨p.dH,p.id⟩:aC)) h2 h]
   have yes:(l[i].st == 2 && l[i].ag == c)=true→bP bu ⟨l[i].dH,l[i].id⟩ (ji bu (ga c (l.take i)))=ji bu (ga c (l.take (i+1))):=fun h=>by
     have e:=xV (fun p:ax=>p.st == 2 && p.ag == c) (fun p:ax=>(⟨p.dH,p.id⟩:aC)) h2 h;show _=ji bu (((l.take (i+1)).filter _).map _);rw[←e,Cs]; rfl
   refine⟨l[i],by simp,get_cast l h2, ?_⟩;cbv;refine Br.split (fun k0=> ?_) (fun k0=> ?_) <;> cbv
   · refine ⟨l[i],by simp,get_cast l h2, ?_⟩;cbv;refine Br.split (fun k1=> ?_) (fun k1=> ?_) <;> cbv
     · repeat' first
         | (refine af.by hP (Eo (ji bu (ga c (l.take i))) ⟨l[i].dH,l[i].id⟩ hlen) ?_; cbv)
         | (refine Ix.mk l[i] (by simp) (get_cast l h2) ?_; cbv)
         | (refine And.intro ?_ ?_)
         | fail
       all_goals
         refine Ar.exact (by(try simp only[nc] at *); omega) (by(try simp only[nc] at *); omega) ?_;cbv;refine aL.by (i+1) ?_ ?_ ?_
         · show l.length - (i+1)<l.length - i;omega
         · exact h2
         · cbv
           repeat' first | exact trivial | refine⟨rfl, ?_⟩ | fail
           refine⟨yes (by rw[k0]; exact k1), ?_⟩
           repeat' first | exact trivial | refine⟨rfl, ?_⟩ | fail
     · refine Ar.exact (by(try simp only[nc] at *); omega) (by(try simp only[nc] at *); omega) ?_;cbv;refine aL.by (i+1) ?_ ?_ ?_
       · show l.length - (i+1)<l.length - i;omega
       · exact h2
       · cbv
         repeat' first | exact trivial | refine⟨rfl, ?_⟩ | fail
         refine⟨no (by rw[k0]; exact k1), ?_⟩
         repeat' first | exact trivial | refine⟨rfl, ?_⟩ | fail
   · refine Ar.exact (by(try simp only[nc] at *); omega) (by(try simp only[nc] at *); omega) ?_;cbv;refine aL.by (i+1) ?_ ?_ ?_
     · show l.length - (i+1)<l.length - i;omega
     · exact h2
     · cbv
       repeat' first | exact trivial | refine⟨rfl, ?_⟩ | fail
       refine⟨no (by rw[k0]; rfl), ?_⟩
       repeat' first | exact trivial | refine⟨rfl, ?_⟩ | fail
end Go.Proofs.YtpklefhdkkegiaaGreat

