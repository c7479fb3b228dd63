/- Parts of a proof. No conditions. -/

import Derived.Test.YtpklefhdkkegiaaGreatG08
import Derived.Test.YtpklefhdkkegiaaGreatG09
set_option linter.unusedSimpArgs false
set_option linter.unusedVariables false
namespace Go.Proofs.YtpklefhdkkegiaaGreat
open Go
set_option maxRecDepth 100000
set_option maxHeartbeats 4000000 in
theorem Gl (xs : List ay) (hn:xs.length≤aS):bY Tryz.prog 273 [oN 0,iT fun _=>0,nT fun _=>xs.length, .c (.fn 187 [])] [(0,aK .aI fun _=>xs)]
   (eV (.ba []) [(0, .own .aI fun _=>cW bf xs)]):=by
 refine iB aD Tryz.func273 rfl rfl (fr:=true) (fun _=>by kernel_rfl) rfl rfl fun P hP hA hB=> ?_;have hs:xs.length≤1048576:=hn;cbv;refine Ar.exact (by(try simp only[nc] at *); omega) (by(try simp only[nc] at *); omega) ?_;cbv;refine aW.by (X:=Nat) (fun i=>[(0,oN 0),(1,iT fun _=>0),(2,nT fun _=>xs.length),(3, .c (.fn 187 [])),(8,nT fun _=>i)]) (fun i=>[(0,aK .aI fun _=>cW bf (xs.take i)++xs.drop i)]) (fun i=>1≤i∧(i≤xs.length∨i=1)) (fun i _=>xs.length - i) 1 ⟨Nat.le_refl _, .inr rfl⟩ ?_ ?_
 · cbv
   repeat' first | exact trivial | refine⟨rfl, ?_⟩ | fail
   exact⟨(Dj bf xs).symm,trivial⟩
 · intro i ⟨hi, m_⟩;cbv;refine Br.dec (fun h2=> ?_) (fun h2=> ?_) <;> cbv
   rotate_left
   · refine⟨?_,trivial⟩;have h2:xs.length≤i:=by simp at h2; omega
     show cW bf (xs.take i)++xs.drop i=cW bf xs;rw[List.take_of_length_le h2,List.drop_of_length_le h2,List.append_nil]
   have h2:i<xs.length:=by simpa using h2
   generalize hp:cW bf (xs.take i)=p;have hl:p.length=i:=by rw[←hp,kh,List.length_take]; omega
   have Bk:o9 bf p:=by rw[←hp]; exact wB jl _
   refine aW.by (X:=Nat) (fun j=>[(0,oN 0),(1,iT fun _=>0),(2,nT fun _=>xs.length),(3, .c (.fn 187 [])),(8,nT fun _=>i),(9,nT fun _=>j)]) (fun j=>[(0,aK .aI fun _=>slt p xs[i] (xs.drop (i+1)) j)]) (fun j=>j≤i∧∀y∈p.drop j,bf xs[i] y=true) (fun j _=>j) i ⟨Nat.le_refl _,by rw[List.drop_of_length_le (by omega)]; intro y hy; cases hy⟩ ?_ ?_
   · cbv
     repeat' first | exact trivial | refine⟨rfl, ?_⟩ | fail
     refine⟨?_,trivial⟩;show p++xs.drop i=slt p xs[i] (xs.drop (i+1)) i;rw[show slt p xs[i] (xs.drop (i+1)) i=p++xs[i]::xs.drop (i+1) by rw[slt,List.take_of_length_le (by omega),List.drop_of_length_le (by omega)]; rfl,List.drop_eq_getElem_cons h2]
   · intro j ⟨hj, hq⟩;have hlen:(slt p xs[i] (xs.drop (i+1)) j).length=xs.length:=by rw[Df (by omega),List.length_drop]; omega
     have gj:(slt p xs[i] (xs.drop (i+1)) j).getD ((j:Int)).toNat default=xs[i]:=by rw[Int.toNat_natCast,List.getD_eq_getElem?_getD,Dg (by omega)]; rfl
     have stop :(0<j→∀y,p[j - 1]? = some y→bf xs[i] y=false)→slt p xs[i] (xs.drop (i+1)) j=cW bf (xs.take (i+1))++xs.drop (i+1):=fun kP=>by
       rw[Dk xs h2,hp];have e:p.take j++p.drop j=p:=List.take_append_drop _ _;rw[←e,za xs[i] ?_ (fun b hb=>hq b (List.mem_of_mem_head? hb)),e,slt,List.append_assoc]
       · rfl
       · intro b hb;rcases Nat.eq_zero_or_pos j with h0 | h0
         · subst h0; simp at hb
         · have hO:j - 1<p.length:=by omega
           have e1:p.take j=p.take (j - 1) ++ [p[j - 1]]:=by
             have:=List.take_add_one (l:=p) (i:=j - 1);rw[Nat.sub_add_cancel h0,List.getElem?_eq_getElem hO] at this;exact this
           rw[e1] at hb;refine Dc jl ?_ (kP h0 _ (List.getElem?_eq_getElem hO)) b hb;rw[←e1];exact List.Pairwise.sublist (List.take_sublist _ _) Bk
     cbv;refine Br.dec (fun h3=> ?_) (fun h3=> ?_) <;> cbv
     · have h3 : 0<j:=by simpa using h3
       obtain⟨y,hy⟩:∃y,p[j - 1]? = some y:=⟨_,List.getElem?_eq_getElem (by omega)⟩
       have gp:(slt p xs[i] (xs.drop (i+1)) j).getD ((j:Int) - 1).toNat default=y:=by
         rw[show((j:Int) - 1).toNat=j - 1 by omega,List.getD_eq_getElem?_getD,Dh (by omega) h3,hy]; rfl
       have oj:0≤(j:Int)∧(j:Int)<((slt p xs[i] (xs.drop (i+1)) j).length:Int):=by rw[hlen]; omega
       have op:0≤(j:Int) - 1∧(j:Int) - 1<((slt p xs[i] (xs.drop (i+1)) j).length:Int):=by rw[hlen]; omega
       repeat' first
         | (refine Ob.mk (by first | exact oj | exact op) ?_; cbv)
         | refine And.intro ?_ ?_
         | (refine Ar.exact (by(try simp only[nc] at *); omega) (by(try simp only[nc] at *); omega) ?_; cbv)
         | (refine ag.by hP (A9 ((slt p xs[i] (xs.drop (i+1)) j).getD ((j:Int)).toNat default) ((slt p xs[i] (xs.drop (i+1)) j).getD ((j:Int) - 1).toNat default)) ?_; cbv)
         | fail
       all_goals refine Br.dec (fun h4=> ?_) (fun h4=> ?_) <;> cbv
       all_goals rw[gj,gp,Dl] at h4
       all_goals first
         | (have h5:bf xs[i] y=true:=h4
            have rL:∀z∈p.drop (j - 1),bf xs[i] z=true:=fun z hz=>by
              have e:p.drop (j - 1)=y::p.drop j:=by
               have hO:j - 1<p.length:=by omega
               rw[List.drop_eq_getElem_cons hO,Nat.sub_add_cancel h3];rw[List.getElem?_eq_getElem hO] at hy;cases hy; rfl
              rw[e] at hz;rcases List.mem_cons.1 hz with rfl | hz
              · exact h5
              · exact hq z hz
            have hO:((j:Int) - 1).toNat=j - 1:=by omega
            clear h4
            repeat' first
              | (refine Ob.mk (by first | exact oj | exact op | (simp only[List.length_set,hlen,nc] at *; omega)) ?_; cbv)
              | refine And.intro ?_ ?_
              | (refine Ar.exact (by(try simp only[nc] at *); omega) (by(try simp only[nc] at *); omega) ?_; cbv)
              | (refine Sv.mk (fun _=>(slt p xs[i] (xs.drop (i+1)) j).set j y) (by
                show(slt p xs[i] (xs.drop (i+1)) j).set ((j:Int)).toNat ((slt p xs[i] (xs.drop (i+1)) j).getD ((j:Int) - 1).toNat default)=_;rw[gp,Int.toNat_natCast]) ?_; cbv)
              | (refine Sv.mk (fun _=>(slt p xs[i] (xs.drop (i+1)) j).set (j - 1) xs[i]) (by
                show(slt p xs[i] (xs.drop (i+1)) j).set ((j:Int) - 1).toNat ((slt p xs[i] (xs.drop (i+1)) j).getD ((j:Int)).toNat default)=_;rw[gj,hO]) ?_; cbv)
              | (refine Sv.mk (fun _=>slt p xs[i] (xs.drop (i+1)) (j - 1)) (by
                show((slt p xs[i] (xs.drop (i+1)) j).set j y).set ((j:Int) - 1).toNat ((slt p xs[i] (xs.drop (i+1)) j).getD ((j:Int)).toNat default)=_;rw[gj,hO]; exact zd (by omega) h3 hy) ?_; cbv)
              | (refine Sv.mk (fun _=>slt p xs[i] (xs.drop (i+1)) (j - 1)) (by
                show((slt p xs[i] (xs.drop (i+1)) j).set (j - 1) xs[i]).set ((j:Int)).toNat ((slt p xs[i] (xs.drop (i+1)) j).getD ((j:Int) - 1).toNat default)=_;rw[gp,Int.toNat_natCast]; exact Di (by omega) h3 hy) ?_; cbv)
              | (refine aO.by (j - 1) (show j - 1<j by omega) ⟨by omega,rL⟩ ?_; cbv)
              | exact trivial
              | refine⟨rfl, ?_⟩
              | refine⟨by simp only[nc] at *; omega, ?_⟩
              | fail)
         | (have h5:bf xs[i] y=false:=by simpa using h4
            have st:=stop fun _ z hz=>by rw[hy] at hz; cases hz; exact h5
            clear h4
            repeat' first
              | (refine Ar.exact (by(try simp only[nc] at *); omega) (by(try simp only[nc] at *); omega) ?_; cbv)
              | (refine aO.by (i+1) (show xs.length - (i+1)<xs.length - i by omega) ⟨by omega, .inl h2⟩ ?_; cbv)
              | exact trivial
              | refine⟨rfl, ?_⟩
              | refine⟨st, ?_⟩
              | fail)
     · have h3:¬0<j:=by simpa using h3
       refine Ar.exact (by(try simp only[nc] at *); omega) (by(try simp only[nc] at *); omega) ?_;cbv;refine aO.by (i+1) ?_ ?_ ?_
       · show xs.length - (i+1)<xs.length - i;omega
       · exact⟨by omega, .inl h2⟩
       · cbv
         repeat' first | exact trivial | refine⟨rfl, ?_⟩ | fail
         refine⟨?_,trivial⟩;exact stop fun h=>absurd h h3
theorem MZ (xs:List ay) (bn:xs.length≤10):bY Tryz.prog 246 [oN 0,nT fun _=>xs.length, .c (.fn 187 [])] [(0,aK .aI fun _=>xs)]
   (eV (.ba []) [(0, .own .aI fun _=>cW bf xs)]):=by
 refine iB aD Tryz.func246 rfl rfl (fr:=true) (fun _=>by kernel_rfl) rfl rfl fun P hP hA hB=> ?_;cbv;refine aW.by (X:=Unit) (fun _=>[(0,oN 0),(1,nT fun _=>xs.length),(2, .c (.fn 187 [])),(6,iT fun _=>20),(7,iT fun _=>0),(8,iT fun _=>20)]) (fun _=>[(0,aK .aI fun _=>xs)]) (fun _=>True) (fun _ _=>0) () trivial ?_ ?_
 · cbv
   repeat' first | exact trivial | refine⟨rfl, ?_⟩ | fail
 · intro _ _;cbv;refine Br.dec (fun h2=> ?_) (fun h2=> ?_) <;> cbv
   · exfalso;simp only[nc] at *;omega
   refine aJ.by hP (Gl xs (Nat.le_trans bn (by decide))) ?_;cbv;refine aW.by (X:=Unit) (fun _=>[(0,oN 0),(1,nT fun _=>xs.length),(2, .c (.fn 187 [])),(6,iT fun _=>20)]) (fun _=>[(0,aK .aI fun _=>cW bf xs)]) (fun _=>True) (fun _ _=>0) () trivial ?_ ?_
   · cbv
     repeat' first | exact trivial | refine⟨rfl, ?_⟩ | fail
   · intro _ _;cbv;refine Br.dec (fun h3=> ?_) (fun h3=> ?_) <;> cbv
     · exfalso;simp only[nc] at *;omega
     repeat' first | exact trivial | refine⟨rfl, ?_⟩ | fail
theorem M0 (xs:List ay) (bn:xs.length≤10):bY Tryz.prog 188 [oN 0, .c (.fn 187 [])] [(0,aK .aI fun _=>xs)]
  (eV (.ba []) [(0, .own .aI fun _=>cW bf xs)]):=by
 refine iB aD Tryz.func188 rfl rfl (fr:=true) (fun _=>by kernel_rfl) rfl rfl fun P hP hA hB=> ?_;cbv;refine aJ.by hP (MZ xs bn) ?_;cbv
 repeat' first | exact trivial | refine⟨rfl, ?_⟩ | fail
theorem M1 (n:Int) (h0:0≤n) (bn:n≤10):Spec Tryz.prog 282 [.c (.lf (.int .u64 fun _=>n))] (gH Int (fun _=>True) fun x=>iR fun _=>x):=by
 refine aN aD Tryz.func282 rfl rfl (fr:=true) (fun _=>by kernel_rfl) fun P hP hA=> ?_;have w8:IntKind.u8.wrap n=n:=oR (tH.2 ⟨h0,by omega⟩);cbv;refine Br.dec (fun h1=> ?_) (fun h1=> ?_) <;> cbv
 · exfalso;omega
 refine Br.dec (fun h2=> ?_) (fun h2=> ?_) <;> cbv
 · exfalso;omega
 refine Br.dec (fun h3=> ?_) (fun h3=> ?_) <;> cbv
 · exfalso;omega
 refine⟨⟨?_, ?_⟩, ?_⟩
 · show 0≤IntKind.u8.wrap n;rw[w8]; exact h0
 · show IntKind.u8.wrap n<_;rw[w8];exact Int.lt_of_lt_of_le (b:=256) (by omega) (by decide)
 cbv;refine Ar.exact ?_ ?_ ?_
 · dsimp only
   generalize List.getD _ _ _=q;have:=q.toNat_lt;simp only[nc];omega
 · dsimp only
   generalize List.getD _ _ _=q;have:=q.toNat_lt;simp only[nc];omega
 cbv;exact⟨_,trivial,iU.mk rfl trivial⟩
theorem M3 (n:Int) (h0:0≤n) (bn:n≤10):Spec Tryz.prog 245 [.c (.lf (.int .u64 fun _=>n))] (gH Int (fun _=>True) fun x=>iR fun _=>x):=by
 refine aN aD Tryz.func245 rfl rfl (fr:=true) (fun _=>by kernel_rfl) fun P hP hA=> ?_;cbv;refine ag.ex hP (M1 n h0 bn) fun x hx=> ?_;cbv;refine⟨x,trivial, ?_⟩;cbv
 repeat' first | exact trivial | refine⟨rfl, ?_⟩ | fail
theorem M4 (xs:List ay) (bn:xs.length≤10) (l:Int):bY Tryz.prog 244 [oN 0,iT fun _=>0,nT fun _=>xs.length,iT fun _=>l, .c (.fn 187 [])] [(0,aK .aI fun _=>xs)]
   (eV (.ba []) [(0, .own .aI fun _=>cW bf xs)]):=by
 refine iB aD Tryz.func244 rfl rfl (fr:=true) (fun _=>by kernel_rfl) rfl rfl fun P hP hA hB=> ?_;cbv;refine aW.by (X:=Unit) (fun _=>[(0,oN 0),(1,iT fun _=>0),(2,nT fun _=>xs.length),(3,iT fun _=>l),(4, .c (.fn 187 []))]) (fun _=>[(0,aK .aI fun _=>xs)]) (fun _=>True) (fun _ _=>0) () trivial ?_ ?_
 · cbv
   repeat' first | exact trivial | refine⟨rfl, ?_⟩ | fail
 · intro _ _;cbv;refine Ar.exact (by(try simp only[nc] at *); omega) (by(try simp only[nc] at *); omega) ?_;cbv;refine Br.dec (fun h2=> ?_) (fun h2=> ?_) <;> cbv
   rotate_left
   · exfalso;simp only[nc] at *;omega
   refine aJ.by hP (Gl xs (Nat.le_trans bn (by decide))) ?_;cbv
   repeat' first | exact trivial | refine⟨rfl, ?_⟩ | fail
theorem M5 (xs:List ay) (bn:xs.length≤10):bY Tryz.prog 186 [oN 0, .c (.fn 187 [])] [(0,aK .aI fun _=>xs)]
  (eV (.ba []) [(0, .own .aI fun _=>cW bf xs)]):=by
 refine iB aD Tryz.func186 rfl rfl (fr:=true) (fun _=>by kernel_rfl) rfl rfl fun P hP hA hB=> ?_;have Gm:IntKind.u64.wrap (xs.length:Int)=(xs.length:Int):=oR (CI.2 ⟨by omega,by omega⟩);have g0:0≤IntKind.u64.wrap (xs.length:Int):=by rw[Gm]; omega
 have g1:IntKind.u64.wrap (xs.length:Int)≤10:=by rw[Gm]; omega
 cbv;refine ag.ex hP (M3 (IntKind.u64.wrap (xs.length:Int)) g0 g1) fun l hl=> ?_;cbv;refine aJ.by hP (M4 xs bn l) ?_;cbv
 repeat' first | exact trivial | refine⟨rfl, ?_⟩ | fail
set_option maxHeartbeats 4000000 in
theorem M6 (xs : List Entry) (hn:xs.length≤aS):bY Tryz.prog 270 [oN 0,iT fun _=>0,nT fun _=>xs.length, .c (.fn 185 [])] [(0,aK .aH fun _=>xs)]
   (eV (.ba []) [(0, .own .aH fun _=>cW bd xs)]):=by
 refine iB aD Tryz.func270 rfl rfl (fr:=true) (fun _=>by kernel_rfl) rfl rfl fun P hP hA hB=> ?_;have hs:xs.length≤1048576:=hn;cbv;refine Ar.exact (by(try simp only[nc] at *); omega) (by(try simp only[nc] at *); omega) ?_;cbv;refine aW.by (X:=Nat) (fun i=>[(0,oN 0),(1,iT fun _=>0),(2,nT fun _=>xs.length),(3, .c (.fn 185 [])),(8,nT fun _=>i)]) (fun i=>[(0,aK .aH fun _=>cW bd (xs.take i)++xs.drop i)]) (fun i=>1≤i∧(i≤xs.length∨i=1)) (fun i _=>xs.length - i) 1 ⟨Nat.le_refl _, .inr rfl⟩ ?_ ?_
 · cbv
   repeat' first | exact trivial | refine⟨rfl, ?_⟩ | fail
   exact⟨(Dj bd xs).symm,trivial⟩
 · intro i ⟨hi, m_⟩;cbv;refine Br.dec (fun h2=> ?_) (fun h2=> ?_) <;> cbv
   rotate_left
   · refine⟨?_,trivial⟩;have h2:xs.length≤i:=by simp at h2; omega
     show cW bd (xs.take i)++xs.drop i=cW bd xs;rw[List.take_of_length_le h2,List.drop_of_length_le h2,List.append_nil]
   have h2:i<xs.length:=by simpa using h2
   generalize hp:cW bd (xs.take i)=p;have hl:p.length=i:=by rw[←hp,kh,List.length_take]; omega
   have Bk:o9 bd p:=by rw[←hp]; exact wB nI _
   refine aW.by (X:=Nat) (fun j=>[(0,oN 0),(1,iT fun _=>0),(2,nT fun _=>xs.length),(3, .c (.fn 185 [])),(8,nT fun _=>i),(9,nT fun _=>j)]) (fun j=>[(0,aK .aH fun _=>slt p xs[i] (xs.drop (i+1)) j)]) (fun j=>j≤i∧∀y∈p.drop j,bd xs[i] y=true) (fun j _=>j) i ⟨Nat.le_refl _,by rw[List.drop_of_length_le (by omega)]; intro y hy; cases hy⟩ ?_ ?_
   · cbv
     repeat' first | exact trivial | refine⟨rfl, ?_⟩ | fail
     refine⟨?_,trivial⟩;show p++xs.drop i=slt p xs[i] (xs.drop (i+1)) i;rw[show slt p xs[i] (xs.drop (i+1)) i=p++xs[i]::xs.drop (i+1) by rw[slt,List.take_of_length_le (by omega),List.drop_of_length_le (by omega)]; rfl,List.drop_eq_getElem_cons h2]
   · intro j ⟨hj, hq⟩;have hlen:(slt p xs[i] (xs.drop (i+1)) j).length=xs.length:=by rw[Df (by omega),List.length_drop]; omega
     have gj:(slt p xs[i] (xs.drop (i+1)) j).getD ((j:Int)).toNat default=xs[i]:=by rw[Int.toNat_natCast,List.getD_eq_getElem?_getD,Dg (by omega)]; rfl
     have stop :(0<j→∀y,p[j - 1]? = some y→bd xs[i] y=false)→slt p xs[i] (xs.drop (i+1)) j=cW bd (xs.take (i+1))++xs.drop (i+1):=fun kP=>by
       rw[Dk xs h2,hp];have e:p.take j++p.drop j=p:=List.take_append_drop _ _;rw[←e,za xs[i] ?_ (fun b hb=>hq b (List.mem_of_mem_head? hb)),e,slt,List.append_assoc]
       · rfl
       · intro b hb;rcases Nat.eq_zero_or_pos j with h0 | h0
         · subst h0; simp at hb
         · have hO:j - 1<p.length:=by omega
           have e1:p.take j=p.take (j - 1) ++ [p[j - 1]]:=by
             have:=List.take_add_one (l:=p) (i:=j - 1);rw[Nat.sub_add_cancel h0,List.getElem?_eq_getElem hO] at this;exact this
           rw[e1] at hb;refine Dc nI ?_ (kP h0 _ (List.getElem?_eq_getElem hO)) b hb;rw[←e1];exact List.Pairwise.sublist (List.take_sublist _ _) Bk
     cbv;refine Br.dec (fun h3=> ?_) (fun h3=> ?_) <;> cbv
     · have h3 : 0<j:=by simpa using h3
       obtain⟨y,hy⟩:∃y,p[j - 1]? = some y:=⟨_,List.getElem?_eq_getElem (by omega)⟩
       have gp:(slt p xs[i] (xs.drop (i+1)) j).getD ((j:Int) - 1).toNat default=y:=by
         rw[show((j:Int) - 1).toNat=j - 1 by omega,List.getD_eq_getElem?_getD,Dh (by omega) h3,hy]; rfl
       have oj:0≤(j:Int)∧(j:Int)<((slt p xs[i] (xs.drop (i+1)) j).length:Int):=by rw[hlen]; omega
       have op:0≤(j:Int) - 1∧(j:Int) - 1<((slt p xs[i] (xs.drop (i+1)) j).length:Int):=by rw[hlen]; omega
       repeat' first
         | (refine Ob.mk (by first | exact oj | exact op) ?_; cbv)
         | refine And.intro ?_ ?_
         | (refine Ar.exact (by(try simp only[nc] at *); omega) (by(try simp only[nc] at *); omega) ?_; cbv)
         | (refine ag.by hP (F4 ((slt p xs[i] (xs.drop (i+1)) j).getD ((j:Int)).toNat default) ((slt p xs[i] (xs.drop (i+1)) j).getD ((j:Int) - 1).toNat default)) ?_; cbv)
         | fail
       all_goals refine Br.dec (fun h4=> ?_) (fun h4=> ?_) <;> cbv
       all_goals rw[gj,gp,Dl] at h4
       all_goals first
         | (have h5:bd xs[i] y=true:=h4
            have rL:∀z∈p.drop (j - 1),bd xs[i] z=true:=fun z hz=>by
              have e:p.drop (j - 1)=y::p.drop j:=by
               have hO:j - 1<p.length:=by omega
               rw[List.drop_eq_getElem_cons hO,Nat.sub_add_cancel h3];rw[List.getElem?_eq_getElem hO] at hy;cases hy; rfl
              rw[e] at hz;rcases List.mem_cons.1 hz with rfl | hz
              · exact h5
              · exact hq z hz
            have hO:((j:Int) - 1).toNat=j - 1:=by omega
            clear h4
            repeat' first
              | (refine Ob.mk (by first | exact oj | exact op | (simp only[List.length_set,hlen,nc] at *; omega)) ?_; cbv)
              | refine And.intro ?_ ?_
              | (refine Ar.exact (by(try simp only[nc] at *); omega) (by(try simp only[nc] at *); omega) ?_; cbv)
              | (refine Sv.mk (fun _=>(slt p xs[i] (xs.drop (i+1)) j).set j y) (by
                show(slt p xs[i] (xs.drop (i+1)) j).set ((j:Int)).toNat ((slt p xs[i] (xs.drop (i+1)) j).getD ((j:Int) - 1).toNat default)=_;rw[gp,Int.toNat_natCast]) ?_; cbv)
              | (refine Sv.mk (fun _=>(slt p xs[i] (xs.drop (i+1)) j).set (j - 1) xs[i]) (by
                show(slt p xs[i] (xs.drop (i+1)) j).set ((j:Int) - 1).toNat ((slt p xs[i] (xs.drop (i+1)) j).getD ((j:Int)).toNat default)=_;rw[gj,hO]) ?_; cbv)
              | (refine Sv.mk (fun _=>slt p xs[i] (xs.drop (i+1)) (j - 1)) (by
                show((slt p xs[i] (xs.drop (i+1)) j).set j y).set ((j:Int) - 1).toNat ((slt p xs[i] (xs.drop (i+1)) j).getD ((j:Int)).toNat default)=_;rw[gj,hO]; exact zd (by omega) h3 hy) ?_; cbv)
              | (refine Sv.mk (fun _=>slt p xs[i] (xs.drop (i+1)) (j - 1)) (by
                show((slt p xs[i] (xs.drop (i+1)) j).set (j - 1) xs[i]).set ((j:Int)).toNat ((slt p xs[i] (xs.drop (i+1)) j).getD ((j:Int) - 1).toNat default)=_;rw[gp,Int.toNat_natCast]; exact Di (by omega) h3 hy) ?_; cbv)
              | (refine aO.by (j - 1) (show j - 1<j by omega) ⟨by omega,rL⟩ ?_; cbv)
              | exact trivial
              | refine⟨rfl, ?_⟩
              | refine⟨by simp only[nc] at *; omega, ?_⟩
              | fail)
         | (have h5:bd xs[i] y=false:=by simpa using h4
            have st:=stop fun _ z hz=>by rw[hy] at hz; cases hz; exact h5
            clear h4
            repeat' first
              | (refine Ar.exact (by(try simp only[nc] at *); omega) (by(try simp only[nc] at *); omega) ?_; cbv)
              | (refine aO.by (i+1) (show xs.length - (i+1)<xs.length - i by omega) ⟨by omega, .inl h2⟩ ?_; cbv)
              | exact trivial
              | refine⟨rfl, ?_⟩
              | refine⟨st, ?_⟩
              | fail)
     · have h3:¬0<j:=by simpa using h3
       refine Ar.exact (by(try simp only[nc] at *); omega) (by(try simp only[nc] at *); omega) ?_;cbv;refine aO.by (i+1) ?_ ?_ ?_
       · show xs.length - (i+1)<xs.length - i;omega
       · exact⟨by omega, .inl h2⟩
       · cbv
         repeat' first | exact trivial | refine⟨rfl, ?_⟩ | fail
         refine⟨?_,trivial⟩;exact stop fun h=>absurd h h3
theorem M7 {α:Type} {xs:List α} (h:xs.length≤10):xs.length≤aS:=Nat.le_trans h (by decide)
theorem M8 (xs:List Entry) (bn:xs.length≤10):bY Tryz.prog 242 [oN 0,nT fun _=>xs.length, .c (.fn 185 [])] [(0,aK .aH fun _=>xs)]
   (eV (.ba []) [(0, .own .aH fun _=>cW bd xs)]):=by
 refine iB aD Tryz.func242 rfl rfl (fr:=true) (fun _=>by kernel_rfl) rfl rfl fun P hP hA hB=> ?_;cbv;refine aW.by (X:=Unit) (fun _=>[(0,oN 0),(1,nT fun _=>xs.length),(2, .c (.fn 185 [])),(6,iT fun _=>20),(7,iT fun _=>0),(8,iT fun _=>20)]) (fun _=>[(0,aK .aH fun _=>xs)]) (fun _=>True) (fun _ _=>0) () trivial ?_ ?_
 · cbv
   repeat' first | exact trivial | refine⟨rfl, ?_⟩ | fail
 · intro _ _;cbv;refine Br.dec (fun h2=> ?_) (fun h2=> ?_) <;> cbv
   · exfalso;simp only[nc] at *;omega
   refine aJ.by hP (M6 xs (M7 bn)) ?_;cbv;refine aW.by (X:=Unit) (fun _=>[(0,oN 0),(1,nT fun _=>xs.length),(2, .c (.fn 185 [])),(6,iT fun _=>20)]) (fun _=>[(0,aK .aH fun _=>cW bd xs)]) (fun _=>True) (fun _ _=>0) () trivial ?_ ?_
   · cbv
     repeat' first | exact trivial | refine⟨rfl, ?_⟩ | fail
   · intro _ _;cbv;refine Br.dec (fun h3=> ?_) (fun h3=> ?_) <;> cbv
     · exfalso;simp only[nc] at *;omega
     repeat' first | exact trivial | refine⟨rfl, ?_⟩ | fail
theorem M9 (xs:List Entry) (bn:xs.length≤10):bY Tryz.prog 184 [oN 0, .c (.fn 185 [])] [(0,aK .aH fun _=>xs)]
  (eV (.ba []) [(0, .own .aH fun _=>cW bd xs)]):=by
 refine iB aD Tryz.func184 rfl rfl (fr:=true) (fun _=>by kernel_rfl) rfl rfl fun P hP hA hB=> ?_;cbv;refine aJ.by hP (M8 xs bn) ?_;cbv
 repeat' first | exact trivial | refine⟨rfl, ?_⟩ | fail
def Bl (R:br):List C:=[.lf (.list .int fun _=>R.ai), .lf (.int .i64 fun _=>R.cd), .lf (.int .i64 fun _=>R.room), .lf (.int .i64 fun _=>R.size), .lf (.int .i64 fun _=>R.period), .lf (.int .i64 fun _=>R.cC), .lf (.int .i64 fun _=>R.rest), .lf (.int .i64 fun _=>R.tries), .lf (.int .i64 fun _=>R.bO)]
def eF (R:br) (c now:Int) (l:List ax):List Entry:=(l.filter fun p=>eo R p now && p.ah == c).map fun p=>dj R p now
def eN (R:br) (l:List ax) (c now:Int):List Entry:=cW bd (eF R c now l)
def eX (c:Int) (l:List ax):List ay:=(l.filter fun p=>p.st == 2 && p.ah == c).map fun p=>⟨p.dP,p.id⟩
def fJ (l:List ax) (c:Int):List ay:=cW bf (eX c l)
section
variable {α β : Type} (q : α → Bool) (f : α → β)
theorem xJ {l:List α} {i:Nat} (h:i<l.length) (hq:q l[i]=true):((l.take i).filter q).map f ++ [f l[i]]=((l.take (i+1)).filter q).map f:=by
 rw[List.take_add_one,List.getElem?_eq_getElem h,List.filter_append,List.map_append]; simp[hq]
theorem sN {l:List α} {i:Nat} (h:i<l.length) (hq:q l[i]=false):((l.take i).filter q).map f=((l.take (i+1)).filter q).map f:=by
 rw[List.take_add_one,List.getElem?_eq_getElem h,List.filter_append,List.map_append]; simp[hq]
theorem Bm {l:List α}:((l.filter q).map f).length≤l.length:=by rw[List.length_map]; exact List.length_filter_le _ _
theorem M_ {l:List α} {i:Nat} (h:i<l.length) (hq:q l[i]=true):((l.drop i).filter q).map f=f l[i]::((l.drop (i+1)).filter q).map f:=by
 rw[List.drop_eq_getElem_cons h,List.filter_cons_of_pos hq]; rfl
theorem Na {l:List α} {i:Nat} (h:i<l.length) (hq:q l[i]=false):((l.drop i).filter q).map f=((l.drop (i+1)).filter q).map f:=by
 rw[List.drop_eq_getElem_cons h,List.filter_cons_of_neg (by rw[hq]; simp)]
end
theorem Bn (R:br) (c now:Int) (l:List ax):(eF R c now l).length≤l.length:=Bm _ _
theorem Nb {l:List Entry}:(jk bd l).length=l.length:=by rw[C_ nI,kh]
theorem Gn (R:br) (l:List ax) (c now:Int) (hs:R.ai.length≤aS) (hl:l.length≤aS):Spec Tryz.prog 116 [fT R,lA .aB l,iA c,iA now] (aM (lR .aH fun _=>eN R l c now)):=by
 refine aN aD Tryz.func116 rfl rfl (fr:=true) (fun _=>by kernel_rfl) fun P hP hA=> ?_;have iP:l.length≤1048576:=hl;cbv;refine Ar.exact (by(try simp only[nc] at *); omega) (by(try simp only[nc] at *); omega) ?_;cbv;refine aW.by (X:=Nat) (fun m=>[(1,lA .aB l),(2,iA c),(3,iA now),(4,pN 0),(9,oN 1),(10,iT fun _=>(m:Int) - 1)]) (fun m=>[(0, .box (Bl R)),(1,aK .aH fun _=>jk bd (eF R c now (l.drop m)))]) (fun m=>m≤l.length) (fun m _=>m) l.length (Nat.le_refl _) ?_ ?_
 · cbv
   repeat' first | exact trivial | refine⟨rfl, ?_⟩ | fail
   refine⟨?_,trivial⟩;show[]=jk bd (eF R c now (l.drop l.length));rw[List.drop_length]; rfl
 · intro m hm;cbv;refine Br.dec (fun h2=> ?_) (fun h2=> ?_) <;> cbv
   rotate_left
   · have h2:m=0:=by simp only[nc] at *; omega
     subst h2;refine⟨?_,trivial⟩;show jk bd (eF R c now (l.drop 0))=eN R l c now;rw[List.drop_zero,C_ nI]; rfl
   have h2:1≤m:=by simp only[nc] at *; omega
   obtain⟨i,rfl⟩:∃i,m=i+1:=⟨m - 1,by omega⟩;have hi:i<l.length:=hm;have ei:(((i+1:Nat):Int) - 1).toNat=i:=by omega
   have hlen:(jk bd (eF R c now (l.drop (i+1)))).length≤aS:=by
     rw[Nb];exact Nat.le_trans (Bn _ _ _ _) (by rw[List.length_drop]; exact Nat.le_trans (Nat.sub_le _ _) hl)
   have Gp:0≤((i+1:Nat):Int) - 1:=by omega
   have eD:l[(((i+1:Nat):Int) - 1).toNat]? = some l[i]:=by rw[ei]; exact List.getElem?_eq_getElem hi
   have no:(eo R l[i] now && l[i].ah == c)=false→jk bd (eF R c now (l.drop (i+1)))=jk bd (eF R c now (l.drop i)):=fun h=>by
     unfold eF; rw[Na _ _ hi h]
   have yes:(eo R l[i] now && l[i].ah == c)=true→bE bd (dj R l[i] now) (jk bd (eF R c now (l.drop (i+1))))=jk bd (eF R c now (l.drop i)):=fun h=>by
     unfold eF; rw[M_ _ _ hi h]; rfl
   have e1:((i+1:Nat):Int) - 1 - 1=(i:Int) - 1:=by omega
   refine⟨l[i],Gp,eD, ?_⟩;cbv
   repeat' first
     | (refine ag.by hP (MG R l[i] now hs (dj R l[i] now) rfl (eo R l[i] now) rfl) ?_; cbv)
     | (refine And.intro ?_ ?_)
     | fail
   all_goals
     refine Br.split (fun k0=> ?_) (fun k0=> ?_) <;> cbv
     · refine⟨l[i],Gp,eD, ?_⟩;cbv;refine Br.split (fun k1=> ?_) (fun k1=> ?_) <;> cbv
       · refine ag.by hP (Gk (jk bd (eF R c now (l.drop (i+1)))) (dj R l[i] now) hlen) ?_;cbv;refine Ar.exact (by(try simp only[nc] at *); omega) (by(try simp only[nc] at *); omega) ?_;cbv;refine aO.by i ?_ ?_ ?_
         · show i<i+1;omega
         · show i≤l.length;omega
         · cbv
           repeat' first | exact trivial | refine⟨rfl, ?_⟩ | fail
           refine⟨e1, ?_⟩
           repeat' first | exact trivial | refine⟨rfl, ?_⟩ | fail
           refine⟨yes (by rw[k0]; exact k1), ?_⟩
           repeat' first | exact trivial | refine⟨rfl, ?_⟩ | fail
       · refine Ar.exact (by(try simp only[nc] at *); omega) (by(try simp only[nc] at *); omega) ?_;cbv;refine aO.by i ?_ ?_ ?_
         · show i<i+1;omega
         · show i≤l.length;omega
         · cbv
           repeat' first | exact trivial | refine⟨rfl, ?_⟩ | fail
           refine⟨e1, ?_⟩
           repeat' first | exact trivial | refine⟨rfl, ?_⟩ | fail
           refine⟨no (by rw[k0]; exact k1), ?_⟩
           repeat' first | exact trivial | refine⟨rfl, ?_⟩ | fail
     · refine Ar.exact (by(try simp only[nc] at *); omega) (by(try simp only[nc] at *); omega) ?_;cbv;refine aO.by i ?_ ?_ ?_
       · show i<i+1;omega
       · show i≤l.length;omega
       · cbv
         repeat' first | exact trivial | refine⟨rfl, ?_⟩ | fail
         refine⟨e1, ?_⟩
         repeat' first | exact trivial | refine⟨rfl, ?_⟩ | fail
         refine⟨no (by rw[k0]; rfl), ?_⟩
         repeat' first | exact trivial | refine⟨rfl, ?_⟩ | fail
theorem Gq (R:br) (l:List ax) (c now:Int) (hs:R.ai.length≤aS) (hl:l.length≤aS) (bn:(eF R c now l).length≤10):Spec Tryz.prog 124 [fT R,lA .aB l,iA c,iA now] (aM (lR .aH fun _=>eN R l c now)):=by
 refine aN aD Tryz.func124 rfl rfl (fr:=true) (fun _=>by kernel_rfl) fun P hP hA=> ?_;have iP:l.length≤1048576:=hl;cbv;refine aW.by (X:=Nat) (fun i=>[(2,iA c),(3,iA now),(4,pN 0),(9,oN 1),(14,lA .aB l),(15,nT fun _=>l.length),(16,nT fun _=>i)]) (fun i=>[(0, .box (Bl R)),(1,aK .aH fun _=>eF R c now (l.take i))]) (fun i=>i≤l.length) (fun i _=>l.length - i) 0 (Nat.zero_le _) ?_ ?_
 · cbv
   repeat' first | exact trivial | refine⟨rfl, ?_⟩ | fail
 · intro i hi;cbv;refine Br.dec (fun h2=> ?_) (fun h2=> ?_) <;> cbv
   rotate_left
   · have h2:l.length≤i:=by simp at h2; omega
     have e:eF R c now (l.take i)=eF R c now l:=by rw[List.take_of_length_le h2]
     refine aJ.by hP (M9 (eF R c now (l.take i)) (by rw[e]; exact bn)) ?_;cbv;refine⟨?_,trivial⟩;show cW bd (eF R c now (l.take i))=eN R l c now;rw[e]; rfl
   have h2:i<l.length:=by simpa using h2
   have ob:(List.length (eF R c now (l.take i))+1)*32≤140737488355328:=by
     have:=Bn R c now (l.take i);rw[List.length_take] at this;omega
   refine⟨l[i],by simp,get_cast l h2, ?_⟩;cbv;refine ag.by hP (A8 R l[i] now hs (dj R l[i] now) rfl (eo R l[i] now) rfl) ?_;cbv;refine Br.split (fun k0=> ?_) (fun k0=> ?_) <;> cbv
   · refine Br.split (fun k1=> ?_) (fun k1=> ?_) <;> cbv
     · refine⟨ob, ?_⟩;cbv;refine Ar.exact (by(try simp only[nc] at *); omega) (by(try simp only[nc] at *); omega) ?_;cbv;refine aO.by (i+1) ?_ ?_ ?_
       · show l.length - (i+1)<l.length - i;omega
       · exact h2
       · cbv
         repeat' first | exact trivial | refine⟨rfl, ?_⟩ | fail
         refine⟨xJ _ (fun p=>dj R p now) h2 (by rw[k0]; exact k1), ?_⟩
         repeat' first | exact trivial | refine⟨rfl, ?_⟩ | fail
     · refine Ar.exact (by(try simp only[nc] at *); omega) (by(try simp only[nc] at *); omega) ?_;cbv;refine aO.by (i+1) ?_ ?_ ?_
       · show l.length - (i+1)<l.length - i;omega
       · exact h2
       · cbv
         repeat' first | exact trivial | refine⟨rfl, ?_⟩ | fail
         refine⟨sN _ (fun p=>dj R p now) h2 (by rw[k0]; exact k1), ?_⟩
         repeat' first | exact trivial | refine⟨rfl, ?_⟩ | fail
   · refine Ar.exact (by(try simp only[nc] at *); omega) (by(try simp only[nc] at *); omega) ?_;cbv;refine aO.by (i+1) ?_ ?_ ?_
     · show l.length - (i+1)<l.length - i;omega
     · exact h2
     · cbv
       repeat' first | exact trivial | refine⟨rfl, ?_⟩ | fail
       refine⟨sN _ (fun p=>dj R p now) h2 (by rw[k0]; rfl), ?_⟩
       repeat' first | exact trivial | refine⟨rfl, ?_⟩ | fail
theorem Gr (c:Int) (l:List ax):(eX c l).length≤l.length:=Bm _ _
theorem Nc {l:List ay}:(gU bf l).length=l.length:=by rw[wC jl tZ,kh]
theorem Nd (l:List ax) (c:Int) (hl:l.length≤aS) (bn:(eX c l).length≤10):Spec Tryz.prog 127 [lA .aB l,iA c] (aM (lR .aI fun _=>fJ l c)):=by
 refine aN aD Tryz.func127 rfl rfl (fr:=true) (fun _=>by kernel_rfl) fun P hP hA=> ?_;have iP:l.length≤1048576:=hl;cbv;refine aW.by (X:=Nat) (fun i=>[(1,iA c),(5,oN 0),(8,lA .aB l),(9,nT fun _=>l.length),(10,nT fun _=>i)]) (fun i=>[(0,aK .aI fun _=>eX c (l.take i))]) (fun i=>i≤l.length) (fun i _=>l.length - i) 0 (Nat.zero_le _) ?_ ?_
 · cbv
   repeat' first | exact trivial | refine⟨rfl, ?_⟩ | fail
 · intro i hi;cbv;refine Br.dec (fun h2=> ?_) (fun h2=> ?_) <;> cbv
   rotate_left
   · have h2:l.length≤i:=by simp at h2; omega
     have e:eX c (l.take i)=eX c l:=by rw[List.take_of_length_le h2]
     refine aJ.by hP (M0 (eX c (l.take i)) (by rw[e]; exact bn)) ?_;cbv;refine⟨?_,trivial⟩;show cW bf (eX c (l.take i))=fJ l c;rw[e]; rfl
   have h2:i<l.length:=by simpa using h2
   have ob:(List.length (eX c (l.take i))+1)*16≤140737488355328:=by
     have:=Gr c (l.take i);rw[List.length_take] at this;omega
   refine⟨l[i],by simp,get_cast l h2, ?_⟩;cbv;refine Br.split (fun k0=> ?_) (fun k0=> ?_) <;> cbv
   · refine Br.split (fun k1=> ?_) (fun k1=> ?_) <;> cbv
     · refine⟨ob, ?_⟩;cbv;refine Ar.exact (by(try simp only[nc] at *); omega) (by(try simp only[nc] at *); omega) ?_;cbv;refine aO.by (i+1) ?_ ?_ ?_
       · show l.length - (i+1)<l.length - i;omega
       · exact h2
       · cbv
         repeat' first | exact trivial | refine⟨rfl, ?_⟩ | fail
         refine⟨xJ _ (fun p:ax=>(⟨p.dP,p.id⟩:ay)) h2 (by rw[k0]; exact k1), ?_⟩
         repeat' first | exact trivial | refine⟨rfl, ?_⟩ | fail
     · refine Ar.exact (by(try simp only[nc] at *); omega) (by(try simp only[nc] at *); omega) ?_;cbv;refine aO.by (i+1) ?_ ?_ ?_
       · show l.length - (i+1)<l.length - i;omega
       · exact h2
       · cbv
         repeat' first | exact trivial | refine⟨rfl, ?_⟩ | fail
         refine⟨sN _ (fun p:ax=>(⟨p.dP,p.id⟩:ay)) h2 (by rw[k0]; exact k1), ?_⟩
         repeat' first | exact trivial | refine⟨rfl, ?_⟩ | fail
   · refine Ar.exact (by(try simp only[nc] at *); omega) (by(try simp only[nc] at *); omega) ?_;cbv;refine aO.by (i+1) ?_ ?_ ?_
     · show l.length - (i+1)<l.length - i;omega
     · exact h2
     · cbv
       repeat' first | exact trivial | refine⟨rfl, ?_⟩ | fail
       refine⟨sN _ (fun p:ax=>(⟨p.dP,p.id⟩:ay)) h2 (by rw[k0]; rfl), ?_⟩
       repeat' first | exact trivial | refine⟨rfl, ?_⟩ | fail
theorem Gs (l:List ax) (c:Int) (hl:l.length≤aS):Spec Tryz.prog 119 [lA .aB l,iA c] (aM (lR .aI fun _=>fJ l c)):=by
 refine aN aD Tryz.func119 rfl rfl (fr:=true) (fun _=>by kernel_rfl) fun P hP hA=> ?_;have iP:l.length≤1048576:=hl;cbv;refine aW.by (X:=Nat) (fun i=>[(0,lA .aB l),(1,iA c),(5,oN 0),(6,nT fun _=>i)]) (fun i=>[(0,aK .aI fun _=>gU bf (eX c (l.take i)))]) (fun i=>i≤l.length) (fun i _=>l.length - i) 0 (Nat.zero_le _) ?_ ?_
 · cbv
   repeat' first | exact trivial | refine⟨rfl, ?_⟩ | fail
 · intro i hi;cbv;refine Br.dec (fun h2=> ?_) (fun h2=> ?_) <;> cbv
   rotate_left
   · have h2:l.length≤i:=by simp at h2; omega
     refine⟨?_,trivial⟩;show gU bf (eX c (l.take i))=fJ l c;rw[List.take_of_length_le h2,wC jl tZ]; rfl
   have h2:i<l.length:=by simpa using h2
   have hlen:(gU bf (eX c (l.take i))).length≤aS:=by
     rw[Nc];exact Nat.le_trans (Gr _ _) (by rw[List.length_take]; exact Nat.le_trans (Nat.min_le_right _ _) hl)
   have no:(l[i].st == 2 && l[i].ah == c)=false→gU bf (eX c (l.take i))=gU bf (eX c (l.take (i+1))):=fun h=>by
     unfold eX; rw[sN _ (fun p:ax=>(⟨p.dP,p.id⟩:ay)) h2 h]
   have yes:(l[i].st == 2 && l[i].ah == c)=true→bE bf ⟨l[i].dP,l[i].id⟩ (gU bf (eX c (l.take i)))=gU bf (eX c (l.take (i+1))):=fun h=>by
     have e:=xJ (fun p:ax=>p.st == 2 && p.ah == c) (fun p:ax=>(⟨p.dP,p.id⟩:ay)) h2 h;show _=gU bf (((l.take (i+1)).filter _).map _);rw[←e,zc]; rfl
   refine⟨l[i],by simp,get_cast l h2, ?_⟩;cbv;refine Br.split (fun k0=> ?_) (fun k0=> ?_) <;> cbv
   · refine ⟨l[i],by simp,get_cast l h2, ?_⟩;cbv;refine Br.split (fun k1=> ?_) (fun k1=> ?_) <;> cbv
     · repeat' first
         | (refine ag.by hP (Bj (gU bf (eX c (l.take i))) ⟨l[i].dP,l[i].id⟩ hlen) ?_; cbv)
         | (refine Ix.mk l[i] (by simp) (get_cast l h2) ?_; cbv)
         | (refine And.intro ?_ ?_)
         | fail
       all_goals
         refine Ar.exact (by(try simp only[nc] at *); omega) (by(try simp only[nc] at *); omega) ?_;cbv;refine aO.by (i+1) ?_ ?_ ?_
         · show l.length - (i+1)<l.length - i;omega
         · exact h2
         · cbv
           repeat' first | exact trivial | refine⟨rfl, ?_⟩ | fail
           refine⟨yes (by rw[k0]; exact k1), ?_⟩
           repeat' first | exact trivial | refine⟨rfl, ?_⟩ | fail
     · refine Ar.exact (by(try simp only[nc] at *); omega) (by(try simp only[nc] at *); omega) ?_;cbv;refine aO.by (i+1) ?_ ?_ ?_
       · show l.length - (i+1)<l.length - i;omega
       · exact h2
       · cbv
         repeat' first | exact trivial | refine⟨rfl, ?_⟩ | fail
         refine⟨no (by rw[k0]; exact k1), ?_⟩
         repeat' first | exact trivial | refine⟨rfl, ?_⟩ | fail
   · refine Ar.exact (by(try simp only[nc] at *); omega) (by(try simp only[nc] at *); omega) ?_;cbv;refine aO.by (i+1) ?_ ?_ ?_
     · show l.length - (i+1)<l.length - i;omega
     · exact h2
     · cbv
       repeat' first | exact trivial | refine⟨rfl, ?_⟩ | fail
       refine⟨no (by rw[k0]; rfl), ?_⟩
       repeat' first | exact trivial | refine⟨rfl, ?_⟩ | fail
end Go.Proofs.YtpklefhdkkegiaaGreat

