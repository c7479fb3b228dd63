/- Parts of a proof. No conditions. -/

import Derived.Test.YtpklefhdkkegiaaGreatG09
import Derived.Test.YtpklefhdkkegiaaGreatG10
set_option linter.unusedSimpArgs false
set_option linter.unusedVariables false
namespace Go.Proofs.YtpklefhdkkegiaaGreat
open Go
set_option maxRecDepth 100000
def bf (w:List (List aC)):List aC:=w.flatten
structure lQ (w:List (List aC)):Prop where
 len:w.length=9
 dj:(bf w).length≤10
 ok:∀p∈bf w,fc p=true
 ne:(bf w).Pairwise fun a b=>a.pid≠b.pid
 at_:∀(k:Nat) l,w[k]? = some l→∀p∈l,p.tm.tmod 9=(k:Int)
 fT:∀l∈w,l.Pairwise fun a b=>bu a b=true
instance (w:List (List aC)):Decidable (∀(k:Nat) l,w[k]? = some l→∀p∈l,p.tm.tmod 9=(k:Int)):=
 decidable_of_iff (∀k:Fin w.length,∀p∈w[k],p.tm.tmod 9=(k.1:Int)) ⟨fun h k l hl p hp=>by
  have hk:=bC hl;have:=h ⟨k,hk⟩ p;rw[List.getElem?_eq_getElem hk] at hl;cases hl;exact this hp,fun h k p hp=>h k.1 w[k] (List.getElem?_eq_getElem k.2) p hp⟩
instance (w:List (List aC)):Decidable (lQ w):=
 decidable_of_iff (w.length=9∧(bf w).length≤10∧(∀p∈bf w,fc p=true)∧((bf w).Pairwise fun a b=>a.pid≠b.pid)∧(∀(k:Nat) l,w[k]? = some l→∀p∈l,p.tm.tmod 9=(k:Int))∧∀l∈w,l.Pairwise fun a b=>bu a b=true)
  ⟨fun⟨a,b,c,d,e,f⟩=>⟨a,b,c,d,e,f⟩,fun⟨a,b,c,d,e,f⟩=>⟨a,b,c,d,e,f⟩⟩
def bw (w:List (List aC)):Bool:=decide (lQ w)
def bB (w:List (List aC)):List aC:=if bw w=true then dC bu (bf w) else[]
theorem vL {w:List (List aC)} {i:Nat} (h:i<w.length):(w.take (i+1)).flatten=(w.take i).flatten++w[i]:=by
 rw[List.take_add_one,List.getElem?_eq_getElem h,List.flatten_append]; simp
theorem Ev {w:List (List aC)} (i:Nat):(w.take i).flatten.length≤w.flatten.length:=by
 have h:(w.take i++w.drop i).flatten=w.flatten:=by rw[List.take_append_drop]
 rw[List.flatten_append] at h;have:=congrArg List.length h;rw[List.length_append] at this;omega
theorem Rh {w:List (List aC)} (n:Nat) (h:∀x∈w,x.length≤n):w.flatten.length≤w.length*n:=by
 induction w with
 | nil=>simp
 | cons a w ih=>
   have h1:=h a List.mem_cons_self;have h2:=ih fun x hx=>h x (List.mem_cons_of_mem _ hx);simp only[List.flatten_cons,List.length_append,List.length_cons,Nat.add_mul];omega
def dE (w:List (List aC)):Prop:=w.length≤aN∧(bf w).length≤1099511627776
theorem dE.of {w:List (List aC)} (h:w.length≤aN) (h1:∀x∈w,x.length≤aN):dE w:=by
 refine⟨h,Nat.le_trans (Rh _ h1) ?_⟩;exact Nat.mul_le_mul h (Nat.le_refl aN)
theorem J7 (w:List (List aC)) (hw:dE w):Spec Tryz.prog 180 [jE w] (aG (lR .aI fun _=>bf w)):=by
 refine aF au Tryz.func180 rfl rfl (fr:=true) (fun _=>by kernel_rfl) fun P hP hA=> ?_;have hl:w.length≤1048576:=hw.1;have hp:w.flatten.length≤1099511627776:=hw.2;cbv;refine aR.by (X:=Nat) (fun i=>[(1,pN 0),(3,oN 1),(4,nT fun _=>i)]) (fun i=>[(0, .box [.lf (.list .cE fun _=>w)]),(1,aH .aI fun _=>(w.take i).flatten)]) (fun i=>i≤w.length) (fun i _=>w.length - i) 0 (Nat.zero_le _) ?_ ?_
 · cbv
   repeat' first | exact trivial | refine⟨rfl, ?_⟩ | fail
 · intro i hi;cbv;refine Br.dec (fun h2=> ?_) (fun h2=> ?_) <;> cbv
   · have h2:i<w.length:=by simpa using h2
     refine⟨w[i],by simp,get_cast w h2, ?_⟩;cbv;refine⟨?_, ?_⟩
     · show(List.length (w.take i).flatten+List.length w[i])*16≤140737488355328;have h3:=Ev (w:=w) (i+1);rw[vL h2,List.length_append] at h3;omega
     cbv;refine Ar.exact (by(try simp only[nc] at *); omega) (by(try simp only[nc] at *); omega) ?_;cbv;refine aL.by (i+1) ?_ ?_ ?_
     · show w.length - (i+1)<w.length - i;omega
     · exact h2
     · cbv
       repeat' first | exact trivial | refine⟨rfl, ?_⟩ | fail
       refine⟨(vL h2).symm,trivial⟩
   · have h2:w.length≤i:=by simp at h2; omega
     refine⟨?_,trivial⟩;show(w.take i).flatten=bf w;rw[List.take_of_length_le h2]; rfl
theorem J8 {w:List (List aC)} (h:¬lQ w):bw w=false:=by simp[bw,h]
structure xW (l:List aC) (i:Nat):Prop where
 ok:∀p∈l.take i,fc p=true
 ne:(l.take i).Pairwise fun a b=>a.pid≠b.pid
theorem xW.snoc {l:List aC} {i:Nat} (hi:i<l.length) (h:xW l i) (ok:fc l[i]=true) (ne:∀(j:Nat) x,j<i→l[j]? = some x→(x.pid == l[i].pid)=false):xW l (i+1):=by
 have e:l.take (i+1)=l.take i ++ [l[i]]:=by rw[List.take_add_one,List.getElem?_eq_getElem hi]; rfl
 constructor
 · intro p hp;rw[e,List.mem_append] at hp;rcases hp with hp | hp
   · exact h.ok p hp
   · cases List.mem_singleton.1 hp; exact ok
 · rw[e,List.pairwise_append];refine⟨h.ne,List.pairwise_singleton _ _,fun a ha b hb=> ?_⟩;cases List.mem_singleton.1 hb;obtain⟨j,hj⟩:=List.mem_iff_getElem?.1 ha;rw[List.getElem?_take] at hj
   split at hj
   · have:=ne j a (by assumption) hj;simpa using this
   · cases hj
theorem Ri {l:List aC} (h:l.Pairwise fun a b=>a.pid≠b.pid) {i:Nat} (hi:i<l.length) {j:Nat} {x:aC} (hj:j<i) (hx:l[j]? = some x):(x.pid == l[i].pid)=false:=by
 have:=(List.pairwise_iff_getElem.1 h) j i (by omega) hi hj;rw[List.getElem?_eq_getElem (by omega)] at hx;cases hx;simpa using this
structure xX (w:List (List aC)) (i:Nat):Prop where
 at_:∀(k:Nat) l,k<i→w[k]? = some l→∀p∈l,p.tm.tmod 9=(k:Int)
 fT:∀(k:Nat) l,k<i→w[k]? = some l→l.Pairwise fun a b=>bu a b=true
structure sx (l:List aC) (k j:Nat):Prop where
 at_:∀p∈l.take j,p.tm.tmod 9=(k:Int)
 fT:(l.take j).Pairwise fun a b=>bu a b=true
theorem sx.zero (l:List aC) (k:Nat):sx l k 0:=⟨fun p hp=>by simp at hp,by simp⟩
theorem sx.snoc {l:List aC} {k j:Nat} (hj:j<l.length) (h:sx l k j) (ok:l[j].tm.tmod 9=(k:Int)) (lt:0<j→bu (l[j - 1]'(by omega)) l[j]=true):sx l k (j+1):=by
 have e:l.take (j+1)=l.take j ++ [l[j]]:=by rw[List.take_add_one,List.getElem?_eq_getElem hj]; rfl
 constructor
 · intro p hp;rw[e,List.mem_append] at hp;rcases hp with hp | hp
   · exact h.at_ p hp
   · cases List.mem_singleton.1 hp; exact ok
 · rw [e,List.pairwise_append];refine⟨h.fT,List.pairwise_singleton _ _,fun a ha b hb=> ?_⟩;cases List.mem_singleton.1 hb;obtain⟨m,hm⟩:=List.mem_iff_getElem?.1 ha;rw[List.getElem?_take] at hm
   split at hm
   · rename_i Ew;have hl:=lt (by omega);rcases Nat.lt_or_ge m (j - 1) with h1 | h1
     · have h2:=(List.pairwise_iff_getElem.1 h.fT) m (j - 1) (by rw[List.length_take]; omega) (by rw[List.length_take]; omega) h1;simp only[List.getElem_take] at h2;rw[List.getElem?_eq_getElem (by omega)] at hm;cases hm;exact jQ.tr _ _ _ h2 hl
     · obtain rfl:m=j - 1:=by omega
       rw[List.getElem?_eq_getElem (by omega)] at hm;cases hm; exact hl
   · cases hm
theorem xX.snoc {w:List (List aC)} {i:Nat} (hi:i<w.length) (h:xX w i) (hr:sx w[i] i w[i].length):xX w (i+1):=by
 have e:w[i].take w[i].length=w[i]:=List.take_length
 constructor
 · intro k l hk hl;rcases Nat.lt_or_ge k i with h1 | h1
   · exact h.at_ k l h1 hl
   · obtain rfl:k=i:=by omega
     rw[List.getElem?_eq_getElem hi] at hl;cases hl;have:=hr.at_
     rwa [e] at this
 · intro k l hk hl;rcases Nat.lt_or_ge k i with h1 | h1
   · exact h.fT k l h1 hl
   · obtain rfl:k=i:=by omega
     rw[List.getElem?_eq_getElem hi] at hl;cases hl;have:=hr.fT
     rwa [e] at this
theorem Rj {w:List (List aC)} (h9:w.length=9) (dj:(bf w).length≤10) (hp:xW (bf w) (bf w).length) (hs:xX w w.length):bw w=true:=by
 have h1:=hp.ok;have h2:=hp.ne;rw[List.take_length] at h1 h2
 have:lQ w:=⟨h9,dj,h1,h2,fun k l hl=>hs.at_ k l (bC hl) hl,fun l hl=>by
  obtain⟨k,hk⟩:=List.mem_iff_getElem?.1 hl;exact hs.fT k l (bC hk) hk⟩
 simp[bw,this]
theorem lQ.row {w:List (List aC)} (h:lQ w) {k:Nat} (hk:k<w.length) {j:Nat} (hj:j<w[k].length):w[k][j].tm.tmod 9=(k:Int)∧(0<j→bu (w[k][j - 1]'(by omega)) w[k][j]=true):=by
 refine⟨h.at_ k w[k] (List.getElem?_eq_getElem hk) _ (List.getElem_mem hj),fun h0=> ?_⟩;exact(List.pairwise_iff_getElem.1 (h.fT w[k] (List.getElem_mem hk))) (j - 1) j (by omega) hj (by omega)
set_option maxHeartbeats 1000000 in
theorem tX (w : List (List aC)) (hw:dE w) (b:Bool) (hb:b=bw w):Spec Tryz.prog 177 [jE w] (aG (bR fun _=>b)):=by
 refine aF au Tryz.func177 rfl rfl (fr:=true) (fun _=>by kernel_rfl) fun P hP hA=> ?_;have hl:w.length≤1048576:=hw.1;have p8:(bf w).length≤1099511627776:=hw.2;obtain⟨⟨⟨ha,fF⟩,_⟩,_⟩:=hA;have fF:∀x∈w,x.length≤9223372036854775807:=fF;have no:¬lQ w→b=false:=fun h=>hb.trans (J8 h);cbv
 repeat (refine Pz.mk ?_; cbv)
 refine af.by hP (J7 w hw) ?_;cbv
 repeat (refine Pz.mk ?_; cbv)
 refine Br.split (fun h9=> ?_) (fun h9=> ?_) <;> (cbv; repeat (refine Pz.mk ?_; cbv))
 · refine⟨?_,trivial⟩;exact(no (fun h=>by have:=h.len; simp[this] at h9)).symm
 have h9:((w.length:Int) != 9)=false:=h9;have h9:w.length=9:=by simp at h9; omega
 refine Br.dec (fun bI=> ?_) (fun bI=> ?_) <;> (cbv; repeat (refine Pz.mk ?_; cbv))
 · have bI:((bf w).length:Int)>10:=bI;refine⟨?_,trivial⟩;exact(no (fun h=>by have:=h.dj; omega)).symm
 have bI:¬((bf w).length:Int)>10:=bI;have bI:(bf w).length≤10:=by omega
 refine aR.by (X:=Nat) (fun i=>[(1,pN 0),(3,oN 1),(4,nT fun _=>i)]) (fun i=>[(0, .box [.lf (.list .cE fun _=>w)]),(1,aH .aI fun _=>bf w)]) (fun i=>i≤(bf w).length∧xW (bf w) i) (fun i _=>(bf w).length - i) 0 ⟨Nat.zero_le _,⟨fun p hp=>by simp at hp,by simp⟩⟩ ?_ ?_
 · cbv
   repeat (refine Pz.mk ?_; cbv)
   repeat' first | exact trivial | refine⟨rfl, ?_⟩ | fail
 · intro i ⟨hi, hp⟩;cbv
   repeat (refine Pz.mk ?_; cbv)
   refine Br.dec (fun h2=> ?_) (fun h2=> ?_) <;> (cbv; repeat (refine Pz.mk ?_; cbv))
   · have h2 : i<(bf w).length:=by simpa using h2
     have gi:(bf w).getD ((i:Int)).toNat default=(bf w)[i]:=by rw[Int.toNat_natCast,List.getD_eq_getElem?_getD,List.getElem?_eq_getElem h2]; rfl
     have oi:0≤(i:Int)∧(i:Int)<((bf w).length:Int):=by omega
     refine⟨oi, ?_⟩;cbv
     repeat (refine Pz.mk ?_; cbv)
     refine af.by hP (dn ((bf w).getD ((i:Int)).toNat default).tm 1 1000008) ?_;cbv
     repeat (refine Pz.mk ?_; cbv)
     refine Br.split (fun k0=> ?_) (fun k0=> ?_) <;> (cbv; repeat (refine Pz.mk ?_; cbv))
     · refine⟨?_,trivial⟩;have k0:(!ak ((bf w).getD ((i:Int)).toNat default).tm 1 1000008)=true:=k0;rw[gi] at k0;exact(no (fun h=>by have:=h.ok _ (List.getElem_mem h2); simp_all [fc])).symm
     refine⟨oi, ?_⟩;cbv
     repeat (refine Pz.mk ?_; cbv)
     refine af.by hP (dn ((bf w).getD ((i:Int)).toNat default).pid 1 999) ?_;cbv
     repeat (refine Pz.mk ?_; cbv)
     refine Br.split (fun k1=> ?_) (fun k1=> ?_) <;> (cbv; repeat (refine Pz.mk ?_; cbv))
     · refine⟨?_,trivial⟩;have k1:(!ak ((bf w).getD ((i:Int)).toNat default).pid 1 999)=true:=k1;rw[gi] at k1;exact(no (fun h=>by have:=h.ok _ (List.getElem_mem h2); simp_all [fc])).symm
     have ok:fc (bf w)[i]=true:=by
       have k0:(!ak ((bf w).getD ((i:Int)).toNat default).tm 1 1000008)=false:=k0;have k1:(!ak ((bf w).getD ((i:Int)).toNat default).pid 1 999)=false:=k1;rw[gi] at k0 k1;simp_all [fc]
     clear k0 k1;refine aR.by (X:=Nat) (fun j=>[(1,pN 0),(3,oN 1),(4,nT fun _=>i),(5,nT fun _=>j)]) (fun j=>[(0, .box [.lf (.list .cE fun _=>w)]),(1,aH .aI fun _=>bf w)]) (fun j=>j≤i∧∀(m:Nat) x,m<j→(bf w)[m]? = some x→(x.pid == (bf w)[i].pid)=false) (fun j _=>i - j) 0 ⟨Nat.zero_le _,fun m x hm=>by omega⟩ ?_ ?_
     · cbv
       repeat (refine Pz.mk ?_; cbv)
       repeat' first | exact trivial | refine⟨rfl, ?_⟩ | fail
     · intro j ⟨hj,hn⟩;cbv
       repeat (refine Pz.mk ?_; cbv)
       refine Br.dec (fun h3=> ?_) (fun h3=> ?_) <;> (cbv; repeat (refine Pz.mk ?_; cbv))
       · have h3:j<i:=by simpa using h3
         have gJ:j<(bf w).length:=by omega
         have gj:(bf w).getD ((j:Int)).toNat default=(bf w)[j]:=by rw[Int.toNat_natCast,List.getD_eq_getElem?_getD,List.getElem?_eq_getElem gJ]; rfl
         have oj:0≤(j:Int)∧(j:Int)<((bf w).length:Int):=by omega
         repeat' first
           | (refine Ob.mk (by first | exact oi | exact oj) ?_; cbv; repeat (refine Pz.mk ?_; cbv))
           | refine And.intro ?_ ?_
           | fail
         all_goals
           refine Br.split (fun k2=> ?_) (fun k2=> ?_) <;> (cbv; repeat (refine Pz.mk ?_; cbv))
           · refine⟨?_,trivial⟩;have k2:(((bf w).getD ((j:Int)).toNat default).pid == ((bf w).getD ((i:Int)).toNat default).pid)=true:=k2;rw[gi,gj] at k2;exact(no (fun h=>by have:=Ri h.ne h2 h3 (List.getElem?_eq_getElem gJ); rw[this] at k2; cases k2)).symm
           have k2:(((bf w).getD ((j:Int)).toNat default).pid == ((bf w).getD ((i:Int)).toNat default).pid)=false:=k2;rw[gi,gj] at k2;refine Ar.exact (by(try simp only[nc] at *); omega) (by(try simp only[nc] at *); omega) ?_;cbv
           repeat (refine Pz.mk ?_; cbv)
           refine aL.by (j+1) ?_ ?_ ?_
           · show i - (j+1)<i - j;omega
           · exact⟨h3,gN gJ hn k2⟩
           · cbv
             repeat (refine Pz.mk ?_; cbv)
             repeat' first | exact trivial | refine⟨rfl, ?_⟩ | fail
       · have h3:i≤j:=by simp at h3; omega
         refine Ar.exact (by(try simp only[nc] at *); omega) (by(try simp only[nc] at *); omega) ?_;cbv
         repeat (refine Pz.mk ?_; cbv)
         refine aL.by (i+1) ?_ ?_ ?_
         · show(bf w).length - (i+1)<(bf w).length - i;omega
         · exact⟨h2,hp.snoc h2 ok fun m x hm=>hn m x (by omega)⟩
         · cbv
           repeat (refine Pz.mk ?_; cbv)
           repeat' first | exact trivial | refine⟨rfl, ?_⟩ | fail
   · have h2 : (bf w).length≤i:=by simp at h2; omega
     have pA:i≤(bf w).length:=hi;obtain rfl:i=(bf w).length:=by omega
     clear h2;refine aR.by (X:=Nat) (fun i=>[(1,pN 0),(6,nT fun _=>i)]) (fun i=>[(0, .box [.lf (.list .cE fun _=>w)])]) (fun i=>i≤w.length∧xX w i) (fun i _=>w.length - i) 0 ⟨Nat.zero_le _,⟨fun k l hk=>by omega,fun k l hk=>by omega⟩⟩ ?_ ?_
     · cbv
       repeat (refine Pz.mk ?_; cbv)
       repeat' first | exact trivial | refine⟨rfl, ?_⟩ | fail
     · intro i ⟨hi,hs⟩;cbv
       repeat (refine Pz.mk ?_; cbv)
       refine Br.dec (fun h2=> ?_) (fun h2=> ?_) <;> (cbv; repeat (refine Pz.mk ?_; cbv))
       rotate_left
       · have h2:w.length≤i:=by simp at h2; omega
         have pA:i≤w.length:=hi;obtain rfl:i=w.length:=by omega
         refine⟨?_,trivial⟩;exact(hb.trans (Rj h9 bI hp hs)).symm
       have h2:i<w.length:=by simpa using h2
       have WA:(w[i]).length≤9223372036854775807:=fF _ (List.getElem_mem h2);refine aR.by (X:=Nat) (fun j=>[(1,pN 0),(6,nT fun _=>i),(7,nT fun _=>j)]) (fun j=>[(0, .box [.lf (.list .cE fun _=>w)])]) (fun j=>j≤w[i].length∧sx w[i] i j) (fun j _=>w[i].length - j) 0 ⟨Nat.zero_le _,sx.zero _ _⟩ ?_ ?_
       · cbv
         repeat (refine Pz.mk ?_; cbv)
         repeat' first | exact trivial | refine⟨rfl, ?_⟩ | fail
       · intro j ⟨hj,hr⟩;cbv
         repeat (refine Pz.mk ?_; cbv)
         refine⟨w[i],by simp,get_cast w h2, ?_⟩;cbv
         repeat (refine Pz.mk ?_; cbv)
         refine Br.dec (fun h3=> ?_) (fun h3=> ?_) <;> (cbv; repeat (refine Pz.mk ?_; cbv))
         rotate_left
         · have h3:w[i].length≤j:=by simp at h3; omega
           have cQ:j≤w[i].length:=hj;obtain rfl:j=w[i].length:=by omega
           refine Ar.exact (by(try simp only[nc] at *); omega) (by(try simp only[nc] at *); omega) ?_;cbv
           repeat (refine Pz.mk ?_; cbv)
           refine aL.by (i+1) ?_ ?_ ?_
           · show w.length - (i+1)<w.length - i;omega
           · exact⟨h2,hs.snoc h2 hr⟩
           · cbv
             repeat (refine Pz.mk ?_; cbv)
             repeat' first | exact trivial | refine⟨rfl, ?_⟩ | fail
         have h3:j<w[i].length:=by simpa using h3
         refine⟨w[i],by simp,get_cast w h2, ?_⟩;cbv
         repeat (refine Pz.mk ?_; cbv)
         refine⟨w[i][j],by simp,get_cast w[i] h3, ?_⟩;cbv
         repeat (refine Pz.mk ?_; cbv)
         refine⟨by decide, ?_⟩;cbv
         repeat (refine Pz.mk ?_; cbv)
         refine Br.split (fun k0=> ?_) (fun k0=> ?_) <;> (cbv; repeat (refine Pz.mk ?_; cbv))
         · refine⟨?_,trivial⟩;have k0:(w[i][j].tm.tmod 9 != (i:Int))=true:=k0;exact(no (fun h=>by have:=(h.row h2 h3).1; rw[this] at k0; simp at k0)).symm
         have k0:(w[i][j].tm.tmod 9 != (i:Int))=false:=k0;have k0:w[i][j].tm.tmod 9=(i:Int):=by simpa using k0
         refine Br.dec (fun k1=> ?_) (fun k1=> ?_) <;> (cbv; repeat (refine Pz.mk ?_; cbv))
         · have k1:0<j:=by simpa using k1
           have h4:j - 1<w[i].length:=by omega
           have oj:0≤(j:Int) - 1:=by omega
           have gj:w[i][((j:Int) - 1).toNat]? = some w[i][j - 1]:=by rw[show((j:Int) - 1).toNat=j - 1 by omega]; exact List.getElem?_eq_getElem h4
           repeat' first
             | (refine Ix.mk w[i] (by simp) (get_cast w h2) ?_; cbv; repeat (refine Pz.mk ?_; cbv))
             | (refine Ix.mk w[i][j] (by simp) (get_cast w[i] h3) ?_; cbv; repeat (refine Pz.mk ?_; cbv))
             | (refine Ix.mk w[i][j - 1] oj gj ?_; cbv; repeat (refine Pz.mk ?_; cbv))
             | (refine Ar.exact (by(try simp only[nc] at *); omega) (by(try simp only[nc] at *); omega) ?_; cbv; repeat (refine Pz.mk ?_; cbv))
             | refine And.intro ?_ ?_
             | fail
           all_goals
             refine af.by hP (JM w[i][j - 1] w[i][j]) ?_;cbv
             repeat (refine Pz.mk ?_; cbv)
             refine Br.split (fun k2=> ?_) (fun k2=> ?_) <;> (cbv; repeat (refine Pz.mk ?_; cbv))
             · refine⟨?_,trivial⟩;exact(no (fun h=>by have:=(h.row h2 h3).2 k1; rw[this] at k2; simp at k2)).symm
             have k2:bu w[i][j - 1] w[i][j]=true:=by simpa using k2
             refine Ar.exact (by(try simp only[nc] at *); omega) (by(try simp only[nc] at *); omega) ?_;cbv
             repeat (refine Pz.mk ?_; cbv)
             refine aL.by (j+1) ?_ ?_ ?_
             · show w[i].length - (j+1)<w[i].length - j;omega
             · exact⟨h3,hr.snoc h3 k0 fun _=>k2⟩
             · cbv
               repeat (refine Pz.mk ?_; cbv)
               repeat' first | exact trivial | refine⟨rfl, ?_⟩ | fail
         · have k1:¬0<j:=by simpa using k1
           refine Ar.exact (by(try simp only[nc] at *); omega) (by(try simp only[nc] at *); omega) ?_;cbv
           repeat (refine Pz.mk ?_; cbv)
           refine aL.by (j+1) ?_ ?_ ?_
           · show w[i].length - (j+1)<w[i].length - j;omega
           · exact⟨h3,hr.snoc h3 k0 fun h=>absurd h k1⟩
           · cbv
             repeat (refine Pz.mk ?_; cbv)
             repeat' first | exact trivial | refine⟨rfl, ?_⟩ | fail
def e_ (P:List aC):List (Int × Int):=P.foldl (fun m p=>jN m p.pid (fa m p.pid+1)) []
theorem vM (P:List aC) (p:aC):e_ (P ++ [p])=jN (e_ P) p.pid (fa (e_ P) p.pid+1):=by simp[e_]
theorem J9:∀{m:List (Int × Int)} {k:Int},jd m k=none↔∀q∈m,q.1≠k
 | [],k=>by simp[jd]
 | p ::m,k=>by
   have ih:=J9 (m:=m) (k:=k);simp only[jd]
   split
   · rename_i h;simp[h]
   · rename_i h;simp only[Option.map_eq_none_iff,ih,List.forall_mem_cons];exact⟨fun h1=>⟨fun h2=>h h2.symm,h1⟩,fun h1=>h1.2⟩
theorem J_:∀{m:List (Int × Int)} {k v j:Int},(∃q∈jN m k v,q.1=j)↔j=k∨∃q∈m,q.1=j
 | [],k,v,j=>by simp[jN,eq_comm]
 | p :: m,k,v,j=>by
   have ih:=J_ (m:=m) (k:=k) (v:=v) (j:=j);simp only[jN]
   split
   · rename_i h;subst h;simp only[List.mem_cons,exists_eq_or_imp]
     constructor
     · rintro(h | h)
       · exact .inl h.symm
       · exact .inr (.inr h)
     · rintro(h | h | h)
       · exact .inl h.symm
       · exact .inl h
       · exact .inr h
   · simp only[List.mem_cons,exists_eq_or_imp,ih]
     constructor
     · rintro(h | h | h)
       · exact .inr (.inl h)
       · exact .inl h
       · exact .inr (.inr h)
     · rintro(h | h | h)
       · exact .inr (.inl h)
       · exact .inl h
       · exact .inr (.inr h)
theorem Ex:∀{m:List (Int × Int)} {k v j:Int},fa (jN m k v) j=if j=k then v else fa m j
 | [],k,v,j=>by simp[jN,fa]
 | p ::m,k,v,j=>by
   have ih:=Ex (m:=m) (k:=k) (v:=v) (j:=j);simp only[jN]
   split
   · rename_i h;subst h;simp only[fa]
     split <;> rfl
   · rename_i h;simp only[fa,ih]
     split
     · rename_i h1;rw[if_neg (by rw[h1]; exact fun h2=>h h2.symm)]
     · rfl
structure Rk (P:List aC):Prop where
 mem:∀j,(∃q∈e_ P,q.1=j)↔∃p∈P,p.pid=j
 len:(e_ P).length≤P.length
 eq:(e_ P).length=P.length↔P.Pairwise fun a b=>a.pid≠b.pid
 lo:∀j,0≤fa (e_ P) j
 hi:∀j,fa (e_ P) j≤P.length
theorem AI (P:List aC):Rk P:=by
 obtain⟨n,hn⟩:∃n,P.length=n:=⟨_,rfl⟩
 induction n generalizing P with
 | zero=>
   have:P = []:=List.length_eq_zero_iff.1 hn;subst this;exact⟨by simp[e_],by simp[e_],by simp[e_],by simp[e_,fa],by simp[e_,fa]⟩
 | succ n ih=>
   rcases List.eq_nil_or_concat P with rfl | ⟨P,p,rfl⟩
   · cases hn
   rw[List.concat_eq_append] at *;have h:=ih P (by simpa using hn)
   have cA:∀j,(∃q∈e_ (P ++ [p]),q.1=j)↔∃q∈P ++ [p],q.pid=j:=fun j=>by
     rw[vM,J_,h.mem]
     constructor
     · rintro(rfl | ⟨q,hq,rfl⟩)
       · exact⟨p,by simp,rfl⟩
       · exact⟨q,by simp[hq],rfl⟩
     · rintro⟨q,hq,rfl⟩
       rcases List.mem_append.1 hq with hq | hq
       · exact .inr ⟨q,hq,rfl⟩
       · cases List.mem_singleton.1 hq; exact .inl rfl
   have tY:∀j,0≤fa (e_ (P ++ [p])) j:=fun j=>by
     rw[vM,Ex]
     split
     · have:=h.lo p.pid; omega
     · exact h.lo j
   have mH:∀j,fa (e_ (P ++ [p])) j≤(P ++ [p]).length:=fun j=>by
     rw[vM,Ex,List.length_append,List.length_singleton]
     split
     · have:=h.hi p.pid; omega
     · have:=h.hi j; omega
   have Ka:((P ++ [p]).Pairwise fun a b=>a.pid≠b.pid)↔(P.Pairwise fun a b=>a.pid≠b.pid)∧∀a∈P,a.pid≠p.pid:=by
     rw[List.pairwise_append];exact⟨fun h=>⟨h.1,fun a ha=>h.2.2 a ha p (by simp)⟩,fun h=>⟨h.1,List.pairwise_singleton _ _,fun a ha b hb=>by cases List.mem_singleton.1 hb; exact h.2 a ha⟩⟩
   have hle:=h.len;cases hi:jd (e_ P) p.pid with
   | none=>
     have hl:(e_ (P ++ [p])).length=(e_ P).length+1:=by rw[vM,(wx hi).1]; simp
     have pZ:∀a∈P,a.pid≠p.pid:=fun a ha he=>by
       obtain⟨q,hq,h1⟩:=(h.mem p.pid).2 ⟨a,ha,he⟩;exact J9.1 hi q hq h1
     refine⟨cA,by rw[hl,List.length_append,List.length_singleton]; omega, ?_,tY,mH⟩;rw[hl,List.length_append,List.length_singleton,Ka,←h.eq];exact⟨fun h1=>⟨by omega,pZ⟩,fun h1=>by omega⟩
   | some j=>
     have hl:(e_ (P ++ [p])).length=(e_ P).length:=by rw[vM,(wy hi).2]; simp
     refine⟨cA,by rw[hl,List.length_append,List.length_singleton]; omega, ?_,tY,mH⟩;rw[hl,List.length_append,List.length_singleton,Ka]
     constructor
     · intro h1; omega
     · intro⟨_,h1⟩;exfalso;have h2:=(wy (v:=0) hi).1;obtain⟨a,ha,h3⟩:=(h.mem p.pid).1 ⟨_,List.mem_of_getElem? h2,rfl⟩;exact h1 a ha h3
theorem Kb {x y:aC}:((if bu x y=true then(-1:Int) else if bu y x=true then 1 else 0)>0)↔bu y x=true:=by
 cases h1:bu x y <;> cases h2:bu y x <;> simp
 have:=jQ.as _ _ h1;rw[h2] at this; cases this
def eC (w:List (List aC)) (k i:Nat):List aC:=(w.take k).flatten++(w.getD k []).take i
theorem Kc (w:List (List aC)) (k:Nat):eC w k 0=(w.take k).flatten:=by simp[eC]
theorem Rl {w:List (List aC)} {k i:Nat} (hk:k<w.length) (hi:i<w[k].length):eC w k (i+1)=eC w k i ++ [w[k][i]]:=by
 have e:w.getD k []=w[k]:=by rw[List.getD_eq_getElem?_getD,List.getElem?_eq_getElem hk]; rfl
 rw[eC,eC,e,List.take_add_one,List.getElem?_eq_getElem hi,List.append_assoc]; rfl
theorem Rm {w:List (List aC)} {k i:Nat} (hk:k<w.length) (hi:w[k].length≤i):eC w k i=(w.take (k+1)).flatten:=by
 have e:w.getD k []=w[k]:=by rw[List.getD_eq_getElem?_getD,List.getElem?_eq_getElem hk]; rfl
 rw[eC,e,List.take_of_length_le hi,vL hk]
theorem Rn {w:List (List aC)} {k i:Nat} (hk:k<w.length):(eC w k i).length≤(bf w).length:=by
 have e:w.getD k []=w[k]:=by rw[List.getD_eq_getElem?_getD,List.getElem?_eq_getElem hk]; rfl
 have h:=Ev (w:=w) (k+1);rw[vL hk,List.length_append] at h;rw[eC,e,List.length_append,List.length_take];show _≤w.flatten.length;omega
structure pB (l:List aC) (k j:Nat):Prop where
 ok:∀p∈l.take j,fc p=true
 at_:∀p∈l.take j,p.tm.tmod 9=(k:Int)
 fT:(l.take j).Pairwise fun a b=>bu b a=false
theorem pB.zero (l:List aC) (k:Nat):pB l k 0:=⟨fun p hp=>by simp at hp,fun p hp=>by simp at hp,by simp⟩
theorem pB.snoc {l:List aC} {k j:Nat} (hj:j<l.length) (h:pB l k j) (ok:fc l[j]=true) (Ro:l[j].tm.tmod 9=(k:Int)) (lt:0<j→bu l[j] (l[j - 1]'(by omega))=false):pB l k (j+1):=by
 have e:l.take (j+1)=l.take j ++ [l[j]]:=by rw[List.take_add_one,List.getElem?_eq_getElem hj]; rfl
 refine⟨?_, ?_, ?_⟩
 · intro p hp;rw[e,List.mem_append] at hp;rcases hp with hp | hp
   · exact h.ok p hp
   · cases List.mem_singleton.1 hp; exact ok
 · intro p hp;rw[e,List.mem_append] at hp;rcases hp with hp | hp
   · exact h.at_ p hp
   · cases List.mem_singleton.1 hp; exact Ro
 · rw [e,List.pairwise_append];refine⟨h.fT,List.pairwise_singleton _ _,fun a ha b hb=> ?_⟩;cases List.mem_singleton.1 hb;obtain⟨m,hm⟩:=List.mem_iff_getElem?.1 ha;rw[List.getElem?_take] at hm
   split at hm
   · rename_i Ew;have hl:=lt (by omega);rcases Nat.lt_or_ge m (j - 1) with h1 | h1
     · have h2:=(List.pairwise_iff_getElem.1 h.fT) m (j - 1) (by rw[List.length_take]; omega) (by rw[List.length_take]; omega) h1;simp only[List.getElem_take] at h2;rw[List.getElem?_eq_getElem (by omega)] at hm;cases hm;exact jQ.ng _ _ _ hl h2
     · obtain rfl:m=j - 1:=by omega
       rw[List.getElem?_eq_getElem (by omega)] at hm;cases hm; exact hl
   · cases hm
def xY (w:List (List aC)) (k:Nat):Prop:=∀(m:Nat) l,m<k→w[m]? = some l→pB l m l.length
theorem xY.snoc {w:List (List aC)} {k:Nat} (hk:k<w.length) (h:xY w k) (hr:pB w[k] k w[k].length):xY w (k+1):=by
 intro m l hm hl;rcases Nat.lt_or_ge m k with h1 | h1
 · exact h m l h1 hl
 · obtain rfl:m=k:=by omega
   rw[List.getElem?_eq_getElem hk] at hl;cases hl;exact hr
theorem lQ.dV {w:List (List aC)} (h:lQ w) {k:Nat} (hk:k<w.length) {j:Nat} (hj:j<w[k].length):fc w[k][j]=true∧w[k][j].tm.tmod 9=(k:Int)∧(0<j→bu w[k][j] (w[k][j - 1]'(by omega))=false):=by
 obtain⟨h1,h2⟩:=h.row hk hj;refine⟨h.ok _ ?_,h1,fun h0=>jQ.as _ _ (h2 h0)⟩;exact List.mem_flatten.2 ⟨w[k],List.getElem_mem hk,List.getElem_mem hj⟩
theorem Rp {w:List (List aC)} (h9:w.length=9) (hs:xY w w.length):bw w=(decide ((bf w).length≤10) && (((e_ (bf w)).length:Int) == ((bf w).length:Int))):=by
 have hc:=(AI (bf w)).eq
 have key:lQ w↔(bf w).length≤10∧(e_ (bf w)).length=(bf w).length:=by
  constructor
  · exact fun h=>⟨h.dj,hc.2 h.ne⟩
  · intro⟨h1,h2⟩;have hne:=hc.1 h2
    have get:∀l∈w,∃m,w[m]? = some l∧pB l m l.length:=fun l hl=>by
      obtain⟨m,hm⟩:=List.mem_iff_getElem?.1 hl;exact⟨m,hm,hs m l (bC hm) hm⟩
    refine⟨h9,h1,fun p hp=> ?_,hne,fun k l hl p hp=> ?_,fun l hl=> ?_⟩
    · obtain⟨l,hl,hp⟩:=List.mem_flatten.1 hp;obtain⟨m,hm,hr⟩:=get l hl;exact hr.ok p (by rw[List.take_length]; exact hp)
    · exact(hs k l (bC hl) hl).at_ p (by rw[List.take_length]; exact hp)
    · obtain⟨m,hm,hr⟩:=get l hl;have h3:=hr.fT;rw[List.take_length] at h3;have h4:=(List.pairwise_flatten.1 hne).1 l hl;refine(h3.and h4).imp fun {a b} h=> ?_;cases h5:bu a b with
      | true=>rfl
      | false=>exact absurd (congrArg aC.pid (wV a b h5 h.1)) h.2
 rw[Bool.eq_iff_iff];simp only[bw,decide_eq_true_eq,Bool.and_eq_true,beq_iff_eq];rw[key]
 constructor
 · intro⟨h1,h2⟩; exact⟨h1,by rw[h2]⟩
 · intro⟨h1,h2⟩; exact⟨h1,by omega⟩
set_option maxHeartbeats 1000000 in
theorem sy (w:List (List aC)) (hw:dE w) (b:Bool) (hb:b=bw w):Spec Tryz.prog 183 [jE w] (aG (bR fun _=>b)):=by
 refine aF au Tryz.func183 rfl rfl (fr:=true) (fun _=>by kernel_rfl) fun P hP hA=> ?_;have hl:w.length≤1048576:=hw.1;have p8:(bf w).length≤1099511627776:=hw.2;obtain⟨⟨⟨ha,fF⟩,_⟩,_⟩:=hA;have fF:∀x∈w,x.length≤9223372036854775807:=fF;have no:¬lQ w→b=false:=fun h=>hb.trans (J8 h);cbv;refine Br.split (fun h9=> ?_) (fun h9=> ?_) <;> cbv
 · refine⟨?_,trivial⟩;exact(no (fun h=>by have:=h.len; simp[this] at h9)).symm
 have h9:((w.length:Int) != 9)=false:=h9;have h9:w.length=9:=by simp at h9; omega
 refine aR.by (X:=Nat) (fun k=>[(3,oN 0),(4,nT fun _=>(eC w k 0).length),(15,lA .cE w),(16,nT fun _=>w.length),(17,nT fun _=>k)]) (fun k=>[(0, .mp fun _=>e_ (eC w k 0))]) (fun k=>k≤w.length∧xY w k) (fun k _=>w.length - k) 0 ⟨Nat.zero_le _,fun m l hm=>by omega⟩ ?_ ?_
 · cbv
   repeat' first | exact trivial | refine⟨rfl, ?_⟩ | fail
 · intro k ⟨hk,hs⟩;cbv;refine Br.dec (fun h2=> ?_) (fun h2=> ?_) <;> cbv
   rotate_left
   · have h2:w.length≤k:=by simp at h2; omega
     have bL:k≤w.length:=hk;obtain rfl:k=w.length:=by omega
     have ea:eC w w.length 0=bf w:=by rw[Kc,List.take_length]; rfl
     have hq:=Rp h9 hs;refine Br.dec (fun h3=> ?_) (fun h3=> ?_) <;> cbv
     · refine⟨?_,trivial⟩;have h3:((eC w w.length 0).length:Int)≤10:=h3;show(((e_ (eC w w.length 0)).length:Int) == ((eC w w.length 0).length:Int))=b;rw[ea] at h3 ⊢;rw[hb,hq,decide_eq_true (by omega),Bool.true_and]
     · refine⟨?_,trivial⟩;have h3:¬((eC w w.length 0).length:Int)≤10:=h3;rw[ea] at h3;rw[hb,hq,decide_eq_false (by omega),Bool.false_and]
   have h2:k<w.length:=by simpa using h2
   have WB:(w[k]).length≤9223372036854775807:=fF _ (List.getElem_mem h2);refine⟨w[k],by simp,get_cast w h2, ?_⟩;cbv;refine aR.by (X:=Nat) (fun i=>[(3,oN 0),(4,nT fun _=>(eC w k i).length),(5,nT fun _=>k),(6,lT .aI fun _=>w[k]),(15,lA .cE w),(16,nT fun _=>w.length),(17,nT fun _=>k),(22,lT .aI fun _=>w[k]),(23,nT fun _=>w[k].length),(24,nT fun _=>i)]) (fun i=>[(0, .mp fun _=>e_ (eC w k i))]) (fun i=>i≤w[k].length∧pB w[k] k i) (fun i _=>w[k].length - i) 0 ⟨Nat.zero_le _,pB.zero _ _⟩ ?_ ?_
   · cbv
     repeat' first | exact trivial | refine⟨rfl, ?_⟩ | fail
   · intro i ⟨hi,hr⟩;have Cn:=Rn (i:=i) h2;have fA:=(AI (eC w k i)).len;cbv;refine Br.dec (fun h3=> ?_) (fun h3=> ?_) <;> cbv
     rotate_left
     · have h3:w[k].length≤i:=by simp at h3; omega
       have pA:i≤w[k].length:=hi;obtain rfl:i=w[k].length:=by omega
       have e:eC w k w[k].length=eC w (k+1) 0:=by rw[Rm h2 (Nat.le_refl _),Kc]
       refine Ar.exact (by(try simp only[nc] at *); omega) (by(try simp only[nc] at *); omega) ?_;cbv;refine aL.by (k+1) ?_ ?_ ?_
       · show w.length - (k+1)<w.length - k;omega
       · exact⟨h2,hs.snoc h2 hr⟩
       · cbv;rw[e]
         repeat' first | exact trivial | refine⟨rfl, ?_⟩ | fail
     have h3:i<w[k].length:=by simpa using h3
     have WC:=(AI (eC w k i)).lo w[k][i].pid;have WD:=(AI (eC w k i)).hi w[k][i].pid;have Kd:=Rl h2 h3;have Rq:(eC w k (i+1)).length=(eC w k i).length+1:=by rw[Kd]; simp
     have Ke:e_ (eC w k (i+1))=jN (e_ (eC w k i)) w[k][i].pid (fa (e_ (eC w k i)) w[k][i].pid+1):=by rw[Kd,vM]
     have Kf: -9223372036854775808≤fa (e_ (eC w k i)) w[k][i].pid+1:=by omega
     have aw:fa (e_ (eC w k i)) w[k][i].pid+1≤9223372036854775807:=by omega
     have Kg:(e_ (eC w k i)).length<9223372036854775807:=by omega
     have Kh: -9223372036854775808≤((eC w k i).length:Int)+1:=by omega
     have pj:((eC w k i).length:Int)+1≤9223372036854775807:=by omega
     have Ki:((eC w k i).length:Int)+1=((eC w k (i+1)).length:Int):=by rw[Rq]; omega
     have Kj: -9223372036854775808≤(i:Int)+1:=by omega
     have vG:(i:Int)+1≤9223372036854775807:=by omega
     refine⟨w[k][i],by simp,get_cast w[k] h3, ?_⟩;cbv;refine af.by hP (Ed w[k][i]) ?_;cbv;refine Br.split (fun k0=> ?_) (fun k0=> ?_) <;> cbv
     · refine⟨?_,trivial⟩;have k0:(!fc w[k][i])=true:=k0;exact(no (fun h=>by have:=(h.dV h2 h3).1; rw[this] at k0; cases k0)).symm
     have k0:(!fc w[k][i])=false:=k0;have k0:fc w[k][i]=true:=by simpa using k0
     refine⟨by decide, ?_⟩;cbv;refine Br.split (fun k1=> ?_) (fun k1=> ?_) <;> cbv
     · refine⟨?_,trivial⟩;have k1:(w[k][i].tm.tmod 9 != (k:Int))=true:=k1;exact(no (fun h=>by have:=(h.dV h2 h3).2.1; rw[this] at k1; simp at k1)).symm
     have k1:(w[k][i].tm.tmod 9 != (k:Int))=false:=k1;have k1:w[k][i].tm.tmod 9=(k:Int):=by simpa using k1
     refine Br.dec (fun k2=> ?_) (fun k2=> ?_) <;> cbv
     · have k2:0<i:=by simpa using k2
       have h4:i - 1<w[k].length:=by omega
       have oj:0≤(i:Int) - 1:=by omega
       have gj:w[k][((i:Int) - 1).toNat]? = some w[k][i - 1]:=by rw[show((i:Int) - 1).toNat=i - 1 by omega]; exact List.getElem?_eq_getElem h4
       refine Ar.exact (by(try simp only[nc] at *); omega) (by(try simp only[nc] at *); omega) ?_;cbv;refine⟨w[k][i - 1],oj,gj, ?_⟩;cbv;refine af.by hP (Ec w[k][i - 1] w[k][i]) ?_;cbv;refine Br.dec (fun k3=> ?_) (fun k3=> ?_) <;> cbv
       · refine⟨?_,trivial⟩;have k3:=Kb.1 k3;exact(no (fun h=>by have:=(h.dV h2 h3).2.2 k2; rw[this] at k3; cases k3)).symm
       have k3:bu w[k][i] w[k][i - 1]=false:=by
         cases h5:bu w[k][i] w[k][i - 1] with
         | false=>rfl
         | true=>exact absurd (Kb.2 h5) k3
       refine Ar.exact Kf aw ?_;cbv;refine⟨Kg, ?_⟩;cbv;refine Ar.exact Kh pj ?_;cbv;refine Ar.exact Kj vG ?_;cbv;refine aL.by (i+1) ?_ ?_ ?_
       · show w[k].length - (i+1)<w[k].length - i;omega
       · exact⟨h3,hr.snoc h3 k0 k1 fun _=>k3⟩
       · cbv;refine⟨Ki, ?_⟩
         repeat' first | exact trivial | refine⟨rfl, ?_⟩ | fail
         refine⟨Ke.symm, ?_⟩
         repeat' first | exact trivial | refine⟨rfl, ?_⟩ | fail
     · have k2:¬0<i:=by simpa using k2
       refine Ar.exact Kf aw ?_;cbv;refine⟨Kg, ?_⟩;cbv;refine Ar.exact Kh pj ?_;cbv;refine Ar.exact Kj vG ?_;cbv;refine aL.by (i+1) ?_ ?_ ?_
       · show w[k].length - (i+1)<w[k].length - i;omega
       · exact⟨h3,hr.snoc h3 k0 k1 fun h=>absurd h k2⟩
       · cbv;refine⟨Ki, ?_⟩
         repeat' first | exact trivial | refine⟨rfl, ?_⟩ | fail
         refine⟨Ke.symm, ?_⟩
         repeat' first | exact trivial | refine⟨rfl, ?_⟩ | fail
theorem Ey {w:List (List aC)} (h:bw w=true):bB w=dC bu (bf w):=if_pos h
theorem Ez {w:List (List aC)} (h:bw w=false):bB w = []:=if_neg (by rw[h]; simp)
theorem AJ {w:List (List aC)} (h:bw w=true):lQ w:=by simpa [bw] using h
theorem AK (w:List (List aC)) (hw:dE w) (x:List aC) (hx:x=bB w):Spec Tryz.prog 118 [jE w] (aG (lR .aI fun _=>x)):=by
 refine aF au Tryz.func118 rfl rfl (fr:=true) (fun _=>by kernel_rfl) fun P hP hA=> ?_;cbv;refine af.by hP (tX w hw (bw w) rfl) ?_;cbv;refine Br.split (fun k0=> ?_) (fun k0=> ?_) <;> cbv
 · have k0:bw w=false:=by simpa using k0
   obtain rfl:x = []:=hx.trans (Ez k0)
   repeat' first | exact trivial | refine⟨rfl, ?_⟩ | fail
 have k0:bw w=true:=by simpa using k0
 have hx:=hx.trans (Ey k0);have dj:=(AJ k0).dj;refine af.by hP (J7 w hw) ?_;cbv;refine aR.by (X:=Nat) (fun i=>[(3,oN 0),(4,oN 1),(5,nT fun _=>i)]) (fun i=>[(0,aH .aI fun _=>ji bu ((bf w).take i)),(1,aH .aI fun _=>bf w)]) (fun i=>i≤(bf w).length) (fun i _=>(bf w).length - i) 0 (Nat.zero_le _) ?_ ?_
 · cbv
   repeat' first | exact trivial | refine⟨rfl, ?_⟩ | fail
 · intro i hi;cbv;refine Br.dec (fun h2=> ?_) (fun h2=> ?_) <;> cbv
   rotate_left
   · have h2:(bf w).length≤i:=by simp at h2; omega
     refine⟨?_,trivial⟩;show ji bu ((bf w).take i)=x;rw[List.take_of_length_le h2,zt jQ wV,hx]
   have h2:i<(bf w).length:=by simpa using h2
   have gi:(bf w).getD ((i:Int)).toNat default=(bf w)[i]:=by rw[Int.toNat_natCast,List.getD_eq_getElem?_getD,List.getElem?_eq_getElem h2]; rfl
   have oi:0≤(i:Int)∧(i:Int)<((bf w).length:Int):=by omega
   have st:bP bu ((bf w).getD ((i:Int)).toNat default) (ji bu ((bf w).take i))=ji bu ((bf w).take (i+1)):=by
     rw[gi,←Cs,List.take_add_one,List.getElem?_eq_getElem h2]; rfl
   refine⟨oi, ?_⟩;cbv;refine af.by hP (Eo (ji bu ((bf w).take i)) ((bf w).getD ((i:Int)).toNat default) (by rw[zt jQ wV,mb,List.length_take]; show _≤1048576; omega)) ?_;cbv;refine Ar.exact (by(try simp only[nc] at *); omega) (by(try simp only[nc] at *); omega) ?_;cbv;refine aL.by (i+1) ?_ ?_ ?_
   · show(bf w).length - (i+1)<(bf w).length - i;omega
   · exact h2
   · cbv
     repeat' first | exact trivial | refine⟨rfl, ?_⟩ | fail
     refine⟨st, ?_⟩
     repeat' first | exact trivial | refine⟨rfl, ?_⟩ | fail
theorem AL (w:List (List aC)) (hw:dE w) (x:List aC) (hx:x=bB w):Spec Tryz.prog 126 [jE w] (aG (lR .aI fun _=>x)):=by
 refine aF au Tryz.func126 rfl rfl (fr:=true) (fun _=>by kernel_rfl) fun P hP hA=> ?_;cbv;refine af.by hP (sy w hw (bw w) rfl) ?_;cbv;refine Br.split (fun k0=> ?_) (fun k0=> ?_) <;> cbv
 · have k0:bw w=false:=by simpa using k0
   obtain rfl:x = []:=hx.trans (Ez k0)
   repeat' first | exact trivial | refine⟨rfl, ?_⟩ | fail
 have k0:bw w=true:=by simpa using k0
 have hx:=hx.trans (Ey k0);have dj:=(AJ k0).dj;have h9:=(AJ k0).len;refine aR.by (X:=Nat) (fun i=>[(3,oN 0),(10,lA .cE w),(11,nT fun _=>w.length),(12,nT fun _=>i)]) (fun i=>[(0,aH .aI fun _=>(w.take i).flatten)]) (fun i=>i≤w.length) (fun i _=>w.length - i) 0 (Nat.zero_le _) ?_ ?_
 · cbv
   repeat' first | exact trivial | refine⟨rfl, ?_⟩ | fail
 · intro i hi;cbv;refine Br.dec (fun h2=> ?_) (fun h2=> ?_) <;> cbv
   rotate_left
   · have h2:w.length≤i:=by simp at h2; omega
     have e:(w.take i).flatten=bf w:=by rw[List.take_of_length_le h2]; rfl
     refine aD.by hP (Q8 ((w.take i).flatten) (by rw[e]; exact dj)) ?_;cbv;refine⟨?_,trivial⟩;show dC bu (w.take i).flatten=x;rw[e,hx]
   have h2:i<w.length:=by simpa using h2
   have ob:(List.length (w.take i).flatten+List.length w[i])*16≤140737488355328:=by
     have h3:=Ev (w:=w) (i+1);rw[vL h2,List.length_append] at h3;have h4:w.flatten.length≤10:=dj;omega
   refine⟨w[i],by simp,get_cast w h2, ?_⟩;cbv;refine⟨ob, ?_⟩;cbv;refine Ar.exact (by(try simp only[nc] at *); omega) (by(try simp only[nc] at *); omega) ?_;cbv;refine aL.by (i+1) ?_ ?_ ?_
   · show w.length - (i+1)<w.length - i;omega
   · exact h2
   · cbv
     repeat' first | exact trivial | refine⟨rfl, ?_⟩ | fail
     refine⟨(vL h2).symm,trivial⟩
def gX (c:ba):Bool:=aX c.seats && (dJ c.row && bw c.spoke)
def gb (R:bn) (c:ba) (l:List ax) (k now:Int):Bool:=
 gX c && (decide (c.row=fK R l k now) && (decide (bB c.spoke=gH l k) && ((c.seats.held == ((aV (cz k) l:Nat):Int)) && (c.seats.tied == ((aV (cC k) l:Nat):Int)))))
theorem EA (c:ba) (hw:dE c.spoke) (b:Bool) (hb:b=gX c):Spec Tryz.prog 114 [eA .ag c] (aG (bR fun _=>b)):=by
 refine aF au Tryz.func114 rfl rfl (fr:=true) (fun _=>by kernel_rfl) fun P hP hA=> ?_;cbv
 repeat' first
  | (refine af.by hP (Aw c.seats (aX c.seats) rfl) ?_; cbv)
  | (refine af.by hP (El c.row (dJ c.row) rfl) ?_; cbv)
  | (refine af.by hP (tX c.spoke hw (bw c.spoke) rfl) ?_; cbv)
  | (refine Br.split (fun h=> ?_) (fun h=> ?_) <;> cbv)
  | fail
 all_goals refine⟨?_,trivial⟩
 all_goals simp_all [gX]
theorem EB (c:ba) (hw:dE c.spoke) (b:Bool) (hb:b=gX c):Spec Tryz.prog 122 [eA .ag c] (aG (bR fun _=>b)):=by
 refine aF au Tryz.func122 rfl rfl (fr:=true) (fun _=>by kernel_rfl) fun P hP hA=> ?_;cbv
 repeat' first
  | (refine af.by hP (lM c.seats (aX c.seats) rfl) ?_; cbv)
  | (refine af.by hP (xU c.row (dJ c.row) rfl) ?_; cbv)
  | (refine af.by hP (sy c.spoke hw (bw c.spoke) rfl) ?_; cbv)
  | (refine Br.split (fun h=> ?_) (fun h=> ?_) <;> cbv)
  | fail
 all_goals refine⟨?_,trivial⟩
 all_goals simp_all [gX]
set_option maxHeartbeats 1000000 in
theorem Rr (R:bn) (c:ba) (l:List ax) (k now:Int) (hs:R.seats.length≤aN) (hl:l.length≤aN) (hw:dE c.spoke) (b:Bool) (hb:b=gb R c l k now) :
   Spec Tryz.prog 52 [fG R,eA .ag c,lA .aE l,iA k,iA now] (aG (bR fun _=>b)):=by
 refine aF au Tryz.func52 rfl rfl (fr:=true) (fun _=>by kernel_rfl) fun P hP hA=> ?_;cbv
 repeat (refine Pz.mk ?_; cbv)
 repeat (refine Pz.mk ?_; cbv)
 refine af.by hP (EA c hw (gX c) rfl) ?_;cbv
 repeat (refine Pz.mk ?_; cbv)
 refine Br.split (fun k0=> ?_) (fun k0=> ?_) <;> (cbv; repeat (refine Pz.mk ?_; cbv))
 rotate_left
 · refine⟨?_,trivial⟩;have k0:gX c=false:=k0;simp[hb,gb,k0]
 have k0:gX c=true:=k0;refine af.by hP (Eu R l k now hs hl) ?_;cbv
 repeat (refine Pz.mk ?_; cbv)
 refine af.by hP (JX c.row (fK R l k now)) ?_;cbv
 repeat (refine Pz.mk ?_; cbv)
 refine Br.split (fun k1=> ?_) (fun k1=> ?_) <;> (cbv; repeat (refine Pz.mk ?_; cbv))
 rotate_left
 · refine⟨?_,trivial⟩;have k1:decide (c.row=fK R l k now)=false:=k1;rw[hb,gb,k0,k1]; rfl
 have k1:decide (c.row=fK R l k now)=true:=k1
 repeat' first
   | (refine af.by hP (AK c.spoke hw (bB c.spoke) rfl) ?_; cbv; repeat (refine Pz.mk ?_; cbv))
   | (refine af.by hP (J6 l k hl) ?_; cbv; repeat (refine Pz.mk ?_; cbv))
   | refine And.intro ?_ ?_
   | fail
 all_goals
   refine af.by hP (JY (bB c.spoke) (gH l k)) ?_;cbv
   repeat (refine Pz.mk ?_; cbv)
   refine Br.split (fun k2=> ?_) (fun k2=> ?_) <;> (cbv; repeat (refine Pz.mk ?_; cbv))
   rotate_left
   · refine⟨?_,trivial⟩;have k2:decide (bB c.spoke=gH l k)=false:=k2;rw[hb,gb,k0,k1,k2]; rfl
   have k2:decide (bB c.spoke=gH l k)=true:=k2;refine af.by hP (JC l k hl) ?_;cbv
   repeat (refine Pz.mk ?_; cbv)
   refine Br.split (fun k3=> ?_) (fun k3=> ?_) <;> (cbv; repeat (refine Pz.mk ?_; cbv))
   rotate_left
   · refine⟨?_,trivial⟩;have k3:(c.seats.held == ((aV (cz k) l:Nat):Int))=false:=k3;rw[hb,gb,k0,k1,k2,k3]; rfl
   have k3:(c.seats.held == ((aV (cz k) l:Nat):Int))=true:=k3;refine af.by hP (JD l k hl) ?_;cbv
   repeat (refine Pz.mk ?_; cbv)
   refine⟨?_,trivial⟩;rw[hb,gb,k0,k1,k2,k3]; rfl
set_option maxHeartbeats 1000000 in
theorem Rs (R:bn) (c:ba) (l:List ax) (k now:Int) (hs:R.seats.length≤aN) (hl:l.length≤aN) (hw:dE c.spoke) (he:(fJ R k now l).length≤10) (hp:(ga k l).length≤10)
   (b:Bool) (hb:b=gb R c l k now):Spec Tryz.prog 57 [fG R,eA .ag c,lA .aE l,iA k,iA now] (aG (bR fun _=>b)):=by
 refine aF au Tryz.func57 rfl rfl (fr:=true) (fun _=>by kernel_rfl) fun P hP hA=> ?_;cbv
 repeat (refine Pz.mk ?_; cbv)
 repeat (refine Pz.mk ?_; cbv)
 refine af.by hP (EB c hw (gX c) rfl) ?_;cbv
 repeat (refine Pz.mk ?_; cbv)
 refine Br.split (fun k0=> ?_) (fun k0=> ?_) <;> (cbv; repeat (refine Pz.mk ?_; cbv))
 rotate_left
 · refine⟨?_,trivial⟩;have k0:gX c=false:=k0;simp[hb,gb,k0]
 have k0:gX c=true:=k0;refine af.by hP (J4 R l k now hs hl he) ?_;cbv
 repeat (refine Pz.mk ?_; cbv)
 refine af.by hP (JZ c.row (fK R l k now)) ?_;cbv
 repeat (refine Pz.mk ?_; cbv)
 refine Br.split (fun k1=> ?_) (fun k1=> ?_) <;> (cbv; repeat (refine Pz.mk ?_; cbv))
 rotate_left
 · refine⟨?_,trivial⟩;have k1:decide (c.row=fK R l k now)=false:=k1;rw[hb,gb,k0,k1]; rfl
 have k1:decide (c.row=fK R l k now)=true:=k1
 repeat' first
   | (refine af.by hP (AL c.spoke hw (bB c.spoke) rfl) ?_; cbv; repeat (refine Pz.mk ?_; cbv))
   | (refine af.by hP (Rg l k hl hp) ?_; cbv; repeat (refine Pz.mk ?_; cbv))
   | refine And.intro ?_ ?_
   | fail
 all_goals
   refine af.by hP (J0 (bB c.spoke) (gH l k)) ?_;cbv
   repeat (refine Pz.mk ?_; cbv)
   refine Br.split (fun k2=> ?_) (fun k2=> ?_) <;> (cbv; repeat (refine Pz.mk ?_; cbv))
   rotate_left
   · refine⟨?_,trivial⟩;have k2:decide (bB c.spoke=gH l k)=false:=k2;rw[hb,gb,k0,k1,k2]; rfl
   have k2:decide (bB c.spoke=gH l k)=true:=k2;refine af.by hP (Qz l k hl) ?_;cbv
   repeat (refine Pz.mk ?_; cbv)
   refine Br.split (fun k3=> ?_) (fun k3=> ?_) <;> (cbv; repeat (refine Pz.mk ?_; cbv))
   rotate_left
   · refine⟨?_,trivial⟩;have k3:(c.seats.held == ((aV (cz k) l:Nat):Int))=false:=k3;rw[hb,gb,k0,k1,k2,k3]; rfl
   have k3:(c.seats.held == ((aV (cz k) l:Nat):Int))=true:=k3;refine af.by hP (QA l k hl) ?_;cbv
   repeat (refine Pz.mk ?_; cbv)
   refine⟨?_,trivial⟩;rw[hb,gb,k0,k1,k2,k3]; rfl
end Go.Proofs.YtpklefhdkkegiaaGreat

