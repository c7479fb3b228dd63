/- Parts of a proof. No conditions. -/

import Derived.Test.YtpklefhdkkegiaaGreatG09
import Derived.Test.YtpklefhdkkegiaaGreatG10
set_option linter.unusedSimpArgs false
set_option linter.unusedVariables false
namespace Go.Proofs.YtpklefhdkkegiaaGreat
open Go
set_option maxRecDepth 100000
def a_ (w:List (List ay)):List ay:=w.flatten
structure jS (w:List (List ay)):Prop where
 len:w.length=9
 dy:(a_ w).length≤10
 ok:∀p∈a_ w,dX p=true
 ne:(a_ w).Pairwise fun a b=>a.pid≠b.pid
 at_:∀(k:Nat) l,w[k]? = some l→∀p∈l,p.tm.tmod 9=(k:Int)
 fg:∀l∈w,l.Pairwise fun a b=>bf a b=true
instance (w:List (List ay)):Decidable (∀(k:Nat) l,w[k]? = some l→∀p∈l,p.tm.tmod 9=(k:Int)):=
 decidable_of_iff (∀k:Fin w.length,∀p∈w[k],p.tm.tmod 9=(k.1:Int)) ⟨fun h k l hl p hp=>by
  have hk:=bD hl;have:=h ⟨k,hk⟩ p;rw[List.getElem?_eq_getElem hk] at hl;cases hl;exact this hp,fun h k p hp=>h k.1 w[k] (List.getElem?_eq_getElem k.2) p hp⟩
instance (w:List (List ay)):Decidable (jS w):=
 decidable_of_iff (w.length=9∧(a_ w).length≤10∧(∀p∈a_ w,dX p=true)∧((a_ w).Pairwise fun a b=>a.pid≠b.pid)∧(∀(k:Nat) l,w[k]? = some l→∀p∈l,p.tm.tmod 9=(k:Int))∧∀l∈w,l.Pairwise fun a b=>bf a b=true)
  ⟨fun⟨a,b,c,d,e,f⟩=>⟨a,b,c,d,e,f⟩,fun⟨a,b,c,d,e,f⟩=>⟨a,b,c,d,e,f⟩⟩
def bu (w:List (List ay)):Bool:=decide (jS w)
def cB (w:List (List ay)):List ay:=if bu w=true then cW bf (a_ w) else[]
theorem sO {w:List (List ay)} {i:Nat} (h:i<w.length):(w.take (i+1)).flatten=(w.take i).flatten++w[i]:=by
 rw[List.take_add_one,List.getElem?_eq_getElem h,List.flatten_append]; simp
theorem Bo {w:List (List ay)} (i:Nat):(w.take i).flatten.length≤w.flatten.length:=by
 have h:(w.take i++w.drop i).flatten=w.flatten:=by rw[List.take_append_drop]
 rw[List.flatten_append] at h;have:=congrArg List.length h;rw[List.length_append] at this;omega
theorem Nf {w:List (List ay)} (n:Nat) (h:∀x∈w,x.length≤n):w.flatten.length≤w.length*n:=by
 induction w with
 | nil=>simp
 | cons a w ih=>
   have h1:=h a List.mem_cons_self;have h2:=ih fun x hx=>h x (List.mem_cons_of_mem _ hx);simp only[List.flatten_cons,List.length_append,List.length_cons,Nat.add_mul];omega
def eY (w:List (List ay)):Prop:=w.length≤aS∧(a_ w).length≤1099511627776
theorem eY.of {w:List (List ay)} (h:w.length≤aS) (h1:∀x∈w,x.length≤aS):eY w:=by
 refine⟨h,Nat.le_trans (Nf _ h1) ?_⟩;exact Nat.mul_le_mul h (Nat.le_refl aS)
theorem Gt (w:List (List ay)) (hw:eY w):Spec Tryz.prog 180 [lh w] (aM (lR .aI fun _=>a_ w)):=by
 refine aN aD Tryz.func180 rfl rfl (fr:=true) (fun _=>by kernel_rfl) fun P hP hA=> ?_;have hl:w.length≤1048576:=hw.1;have hp:w.flatten.length≤1099511627776:=hw.2;cbv;refine aW.by (X:=Nat) (fun i=>[(1,pN 0),(3,oN 1),(4,nT fun _=>i)]) (fun i=>[(0, .box [.lf (.list .cw fun _=>w)]),(1,aK .aI fun _=>(w.take i).flatten)]) (fun i=>i≤w.length) (fun i _=>w.length - i) 0 (Nat.zero_le _) ?_ ?_
 · cbv
   repeat' first | exact trivial | refine⟨rfl, ?_⟩ | fail
 · intro i hi;cbv;refine Br.dec (fun h2=> ?_) (fun h2=> ?_) <;> cbv
   · have h2:i<w.length:=by simpa using h2
     refine⟨w[i],by simp,get_cast w h2, ?_⟩;cbv;refine⟨?_, ?_⟩
     · show(List.length (w.take i).flatten+List.length w[i])*16≤140737488355328;have h3:=Bo (w:=w) (i+1);rw[sO h2,List.length_append] at h3;omega
     cbv;refine Ar.exact (by(try simp only[nc] at *); omega) (by(try simp only[nc] at *); omega) ?_;cbv;refine aO.by (i+1) ?_ ?_ ?_
     · show w.length - (i+1)<w.length - i;omega
     · exact h2
     · cbv
       repeat' first | exact trivial | refine⟨rfl, ?_⟩ | fail
       refine⟨(sO h2).symm,trivial⟩
   · have h2:w.length≤i:=by simp at h2; omega
     refine⟨?_,trivial⟩;show(w.take i).flatten=a_ w;rw[List.take_of_length_le h2]; rfl
theorem Gu {w:List (List ay)} (h:¬jS w):bu w=false:=by simp[bu,h]
structure vk (l:List ay) (i:Nat):Prop where
 ok:∀p∈l.take i,dX p=true
 ne:(l.take i).Pairwise fun a b=>a.pid≠b.pid
theorem vk.snoc {l:List ay} {i:Nat} (hi:i<l.length) (h:vk l i) (ok:dX l[i]=true) (ne:∀(j:Nat) x,j<i→l[j]? = some x→(x.pid == l[i].pid)=false):vk l (i+1):=by
 have e:l.take (i+1)=l.take i ++ [l[i]]:=by rw[List.take_add_one,List.getElem?_eq_getElem hi]; rfl
 constructor
 · intro p hp;rw[e,List.mem_append] at hp;rcases hp with hp | hp
   · exact h.ok p hp
   · cases List.mem_singleton.1 hp; exact ok
 · rw[e,List.pairwise_append];refine⟨h.ne,List.pairwise_singleton _ _,fun a ha b hb=> ?_⟩;cases List.mem_singleton.1 hb;obtain⟨j,hj⟩:=List.mem_iff_getElem?.1 ha;rw[List.getElem?_take] at hj
   split at hj
   · have:=ne j a (by assumption) hj;simpa using this
   · cases hj
theorem Ng {l:List ay} (h:l.Pairwise fun a b=>a.pid≠b.pid) {i:Nat} (hi:i<l.length) {j:Nat} {x:ay} (hj:j<i) (hx:l[j]? = some x):(x.pid == l[i].pid)=false:=by
 have:=(List.pairwise_iff_getElem.1 h) j i (by omega) hi hj;rw[List.getElem?_eq_getElem (by omega)] at hx;cases hx;simpa using this
structure vl (w:List (List ay)) (i:Nat):Prop where
 at_:∀(k:Nat) l,k<i→w[k]? = some l→∀p∈l,p.tm.tmod 9=(k:Int)
 fg:∀(k:Nat) l,k<i→w[k]? = some l→l.Pairwise fun a b=>bf a b=true
structure p9 (l:List ay) (k j:Nat):Prop where
 at_:∀p∈l.take j,p.tm.tmod 9=(k:Int)
 fg:(l.take j).Pairwise fun a b=>bf a b=true
theorem p9.zero (l:List ay) (k:Nat):p9 l k 0:=⟨fun p hp=>by simp at hp,by simp⟩
theorem p9.snoc {l:List ay} {k j:Nat} (hj:j<l.length) (h:p9 l k j) (ok:l[j].tm.tmod 9=(k:Int)) (lt:0<j→bf (l[j - 1]'(by omega)) l[j]=true):p9 l k (j+1):=by
 have e:l.take (j+1)=l.take j ++ [l[j]]:=by rw[List.take_add_one,List.getElem?_eq_getElem hj]; rfl
 constructor
 · intro p hp;rw[e,List.mem_append] at hp;rcases hp with hp | hp
   · exact h.at_ p hp
   · cases List.mem_singleton.1 hp; exact ok
 · rw [e,List.pairwise_append];refine⟨h.fg,List.pairwise_singleton _ _,fun a ha b hb=> ?_⟩;cases List.mem_singleton.1 hb;obtain⟨m,hm⟩:=List.mem_iff_getElem?.1 ha;rw[List.getElem?_take] at hm
   split at hm
   · rename_i Bp;have hl:=lt (by omega);rcases Nat.lt_or_ge m (j - 1) with h1 | h1
     · have h2:=(List.pairwise_iff_getElem.1 h.fg) m (j - 1) (by rw[List.length_take]; omega) (by rw[List.length_take]; omega) h1;simp only[List.getElem_take] at h2;rw[List.getElem?_eq_getElem (by omega)] at hm;cases hm;exact jl.tr _ _ _ h2 hl
     · obtain rfl:m=j - 1:=by omega
       rw[List.getElem?_eq_getElem (by omega)] at hm;cases hm; exact hl
   · cases hm
theorem vl.snoc {w:List (List ay)} {i:Nat} (hi:i<w.length) (h:vl w i) (hr:p9 w[i] i w[i].length):vl w (i+1):=by
 have e:w[i].take w[i].length=w[i]:=List.take_length
 constructor
 · intro k l hk hl;rcases Nat.lt_or_ge k i with h1 | h1
   · exact h.at_ k l h1 hl
   · obtain rfl:k=i:=by omega
     rw[List.getElem?_eq_getElem hi] at hl;cases hl;have:=hr.at_
     rwa [e] at this
 · intro k l hk hl;rcases Nat.lt_or_ge k i with h1 | h1
   · exact h.fg k l h1 hl
   · obtain rfl:k=i:=by omega
     rw[List.getElem?_eq_getElem hi] at hl;cases hl;have:=hr.fg
     rwa [e] at this
theorem Nh {w:List (List ay)} (h9:w.length=9) (dy:(a_ w).length≤10) (hp:vk (a_ w) (a_ w).length) (hs:vl w w.length):bu w=true:=by
 have h1:=hp.ok;have h2:=hp.ne;rw[List.take_length] at h1 h2
 have:jS w:=⟨h9,dy,h1,h2,fun k l hl=>hs.at_ k l (bD hl) hl,fun l hl=>by
  obtain⟨k,hk⟩:=List.mem_iff_getElem?.1 hl;exact hs.fg k l (bD hk) hk⟩
 simp[bu,this]
theorem jS.row {w:List (List ay)} (h:jS w) {k:Nat} (hk:k<w.length) {j:Nat} (hj:j<w[k].length):w[k][j].tm.tmod 9=(k:Int)∧(0<j→bf (w[k][j - 1]'(by omega)) w[k][j]=true):=by
 refine⟨h.at_ k w[k] (List.getElem?_eq_getElem hk) _ (List.getElem_mem hj),fun h0=> ?_⟩;exact(List.pairwise_iff_getElem.1 (h.fg w[k] (List.getElem_mem hk))) (j - 1) j (by omega) hj (by omega)
set_option maxHeartbeats 1000000 in
theorem xK (w : List (List ay)) (hw:eY w) (b:Bool) (hb:b=bu w):Spec Tryz.prog 177 [lh w] (aM (bR fun _=>b)):=by
 refine aN aD Tryz.func177 rfl rfl (fr:=true) (fun _=>by kernel_rfl) fun P hP hA=> ?_;have hl:w.length≤1048576:=hw.1;have nE:(a_ w).length≤1099511627776:=hw.2;obtain⟨⟨⟨ha,eE⟩,_⟩,_⟩:=hA;have eE:∀x∈w,x.length≤9223372036854775807:=eE;have no:¬jS w→b=false:=fun h=>hb.trans (Gu h);cbv
 repeat (refine Pz.mk ?_; cbv)
 refine ag.by hP (Gt w hw) ?_;cbv
 repeat (refine Pz.mk ?_; cbv)
 refine Br.split (fun h9=> ?_) (fun h9=> ?_) <;> (cbv; repeat (refine Pz.mk ?_; cbv))
 · refine⟨?_,trivial⟩;exact(no (fun h=>by have:=h.len; simp[this] at h9)).symm
 have h9:((w.length:Int) != 9)=false:=h9;have h9:w.length=9:=by simp at h9; omega
 refine Br.dec (fun bn=> ?_) (fun bn=> ?_) <;> (cbv; repeat (refine Pz.mk ?_; cbv))
 · have bn:((a_ w).length:Int)>10:=bn;refine⟨?_,trivial⟩;exact(no (fun h=>by have:=h.dy; omega)).symm
 have bn:¬((a_ w).length:Int)>10:=bn;have bn:(a_ w).length≤10:=by omega
 refine aW.by (X:=Nat) (fun i=>[(1,pN 0),(3,oN 1),(4,nT fun _=>i)]) (fun i=>[(0, .box [.lf (.list .cw fun _=>w)]),(1,aK .aI fun _=>a_ w)]) (fun i=>i≤(a_ w).length∧vk (a_ w) i) (fun i _=>(a_ w).length - i) 0 ⟨Nat.zero_le _,⟨fun p hp=>by simp at hp,by simp⟩⟩ ?_ ?_
 · cbv
   repeat (refine Pz.mk ?_; cbv)
   repeat' first | exact trivial | refine⟨rfl, ?_⟩ | fail
 · intro i ⟨hi, hp⟩;cbv
   repeat (refine Pz.mk ?_; cbv)
   refine Br.dec (fun h2=> ?_) (fun h2=> ?_) <;> (cbv; repeat (refine Pz.mk ?_; cbv))
   · have h2 : i<(a_ w).length:=by simpa using h2
     have gi:(a_ w).getD ((i:Int)).toNat default=(a_ w)[i]:=by rw[Int.toNat_natCast,List.getD_eq_getElem?_getD,List.getElem?_eq_getElem h2]; rfl
     have oi:0≤(i:Int)∧(i:Int)<((a_ w).length:Int):=by omega
     refine⟨oi, ?_⟩;cbv
     repeat (refine Pz.mk ?_; cbv)
     refine ag.by hP (cT ((a_ w).getD ((i:Int)).toNat default).tm 1 1000008) ?_;cbv
     repeat (refine Pz.mk ?_; cbv)
     refine Br.split (fun k0=> ?_) (fun k0=> ?_) <;> (cbv; repeat (refine Pz.mk ?_; cbv))
     · refine⟨?_,trivial⟩;have k0:(!aj ((a_ w).getD ((i:Int)).toNat default).tm 1 1000008)=true:=k0;rw[gi] at k0;exact(no (fun h=>by have:=h.ok _ (List.getElem_mem h2); simp_all [dX])).symm
     refine⟨oi, ?_⟩;cbv
     repeat (refine Pz.mk ?_; cbv)
     refine ag.by hP (cT ((a_ w).getD ((i:Int)).toNat default).pid 1 999) ?_;cbv
     repeat (refine Pz.mk ?_; cbv)
     refine Br.split (fun k1=> ?_) (fun k1=> ?_) <;> (cbv; repeat (refine Pz.mk ?_; cbv))
     · refine⟨?_,trivial⟩;have k1:(!aj ((a_ w).getD ((i:Int)).toNat default).pid 1 999)=true:=k1;rw[gi] at k1;exact(no (fun h=>by have:=h.ok _ (List.getElem_mem h2); simp_all [dX])).symm
     have ok:dX (a_ w)[i]=true:=by
       have k0:(!aj ((a_ w).getD ((i:Int)).toNat default).tm 1 1000008)=false:=k0;have k1:(!aj ((a_ w).getD ((i:Int)).toNat default).pid 1 999)=false:=k1;rw[gi] at k0 k1;simp_all [dX]
     clear k0 k1;refine aW.by (X:=Nat) (fun j=>[(1,pN 0),(3,oN 1),(4,nT fun _=>i),(5,nT fun _=>j)]) (fun j=>[(0, .box [.lf (.list .cw fun _=>w)]),(1,aK .aI fun _=>a_ w)]) (fun j=>j≤i∧∀(m:Nat) x,m<j→(a_ w)[m]? = some x→(x.pid == (a_ w)[i].pid)=false) (fun j _=>i - j) 0 ⟨Nat.zero_le _,fun m x hm=>by omega⟩ ?_ ?_
     · cbv
       repeat (refine Pz.mk ?_; cbv)
       repeat' first | exact trivial | refine⟨rfl, ?_⟩ | fail
     · intro j ⟨hj,hn⟩;cbv
       repeat (refine Pz.mk ?_; cbv)
       refine Br.dec (fun h3=> ?_) (fun h3=> ?_) <;> (cbv; repeat (refine Pz.mk ?_; cbv))
       · have h3:j<i:=by simpa using h3
         have gF:j<(a_ w).length:=by omega
         have gj:(a_ w).getD ((j:Int)).toNat default=(a_ w)[j]:=by rw[Int.toNat_natCast,List.getD_eq_getElem?_getD,List.getElem?_eq_getElem gF]; rfl
         have oj:0≤(j:Int)∧(j:Int)<((a_ w).length:Int):=by omega
         repeat' first
           | (refine Ob.mk (by first | exact oi | exact oj) ?_; cbv; repeat (refine Pz.mk ?_; cbv))
           | refine And.intro ?_ ?_
           | fail
         all_goals
           refine Br.split (fun k2=> ?_) (fun k2=> ?_) <;> (cbv; repeat (refine Pz.mk ?_; cbv))
           · refine⟨?_,trivial⟩;have k2:(((a_ w).getD ((j:Int)).toNat default).pid == ((a_ w).getD ((i:Int)).toNat default).pid)=true:=k2;rw[gi,gj] at k2;exact(no (fun h=>by have:=Ng h.ne h2 h3 (List.getElem?_eq_getElem gF); rw[this] at k2; cases k2)).symm
           have k2:(((a_ w).getD ((j:Int)).toNat default).pid == ((a_ w).getD ((i:Int)).toNat default).pid)=false:=k2;rw[gi,gj] at k2;refine Ar.exact (by(try simp only[nc] at *); omega) (by(try simp only[nc] at *); omega) ?_;cbv
           repeat (refine Pz.mk ?_; cbv)
           refine aO.by (j+1) ?_ ?_ ?_
           · show i - (j+1)<i - j;omega
           · exact⟨h3,gy gF hn k2⟩
           · cbv
             repeat (refine Pz.mk ?_; cbv)
             repeat' first | exact trivial | refine⟨rfl, ?_⟩ | fail
       · have h3:i≤j:=by simp at h3; omega
         refine Ar.exact (by(try simp only[nc] at *); omega) (by(try simp only[nc] at *); omega) ?_;cbv
         repeat (refine Pz.mk ?_; cbv)
         refine aO.by (i+1) ?_ ?_ ?_
         · show(a_ w).length - (i+1)<(a_ w).length - i;omega
         · exact⟨h2,hp.snoc h2 ok fun m x hm=>hn m x (by omega)⟩
         · cbv
           repeat (refine Pz.mk ?_; cbv)
           repeat' first | exact trivial | refine⟨rfl, ?_⟩ | fail
   · have h2 : (a_ w).length≤i:=by simp at h2; omega
     have m_:i≤(a_ w).length:=hi;obtain rfl:i=(a_ w).length:=by omega
     clear h2;refine aW.by (X:=Nat) (fun i=>[(1,pN 0),(6,nT fun _=>i)]) (fun i=>[(0, .box [.lf (.list .cw fun _=>w)])]) (fun i=>i≤w.length∧vl w i) (fun i _=>w.length - i) 0 ⟨Nat.zero_le _,⟨fun k l hk=>by omega,fun k l hk=>by omega⟩⟩ ?_ ?_
     · cbv
       repeat (refine Pz.mk ?_; cbv)
       repeat' first | exact trivial | refine⟨rfl, ?_⟩ | fail
     · intro i ⟨hi,hs⟩;cbv
       repeat (refine Pz.mk ?_; cbv)
       refine Br.dec (fun h2=> ?_) (fun h2=> ?_) <;> (cbv; repeat (refine Pz.mk ?_; cbv))
       rotate_left
       · have h2:w.length≤i:=by simp at h2; omega
         have m_:i≤w.length:=hi;obtain rfl:i=w.length:=by omega
         refine⟨?_,trivial⟩;exact(hb.trans (Nh h9 bn hp hs)).symm
       have h2:i<w.length:=by simpa using h2
       have Rl:(w[i]).length≤9223372036854775807:=eE _ (List.getElem_mem h2);refine aW.by (X:=Nat) (fun j=>[(1,pN 0),(6,nT fun _=>i),(7,nT fun _=>j)]) (fun j=>[(0, .box [.lf (.list .cw fun _=>w)])]) (fun j=>j≤w[i].length∧p9 w[i] i j) (fun j _=>w[i].length - j) 0 ⟨Nat.zero_le _,p9.zero _ _⟩ ?_ ?_
       · cbv
         repeat (refine Pz.mk ?_; cbv)
         repeat' first | exact trivial | refine⟨rfl, ?_⟩ | fail
       · intro j ⟨hj,hr⟩;cbv
         repeat (refine Pz.mk ?_; cbv)
         refine⟨w[i],by simp,get_cast w h2, ?_⟩;cbv
         repeat (refine Pz.mk ?_; cbv)
         refine Br.dec (fun h3=> ?_) (fun h3=> ?_) <;> (cbv; repeat (refine Pz.mk ?_; cbv))
         rotate_left
         · have h3:w[i].length≤j:=by simp at h3; omega
           have cF:j≤w[i].length:=hj;obtain rfl:j=w[i].length:=by omega
           refine Ar.exact (by(try simp only[nc] at *); omega) (by(try simp only[nc] at *); omega) ?_;cbv
           repeat (refine Pz.mk ?_; cbv)
           refine aO.by (i+1) ?_ ?_ ?_
           · show w.length - (i+1)<w.length - i;omega
           · exact⟨h2,hs.snoc h2 hr⟩
           · cbv
             repeat (refine Pz.mk ?_; cbv)
             repeat' first | exact trivial | refine⟨rfl, ?_⟩ | fail
         have h3:j<w[i].length:=by simpa using h3
         refine⟨w[i],by simp,get_cast w h2, ?_⟩;cbv
         repeat (refine Pz.mk ?_; cbv)
         refine⟨w[i][j],by simp,get_cast w[i] h3, ?_⟩;cbv
         repeat (refine Pz.mk ?_; cbv)
         refine⟨by decide, ?_⟩;cbv
         repeat (refine Pz.mk ?_; cbv)
         refine Br.split (fun k0=> ?_) (fun k0=> ?_) <;> (cbv; repeat (refine Pz.mk ?_; cbv))
         · refine⟨?_,trivial⟩;have k0:(w[i][j].tm.tmod 9 != (i:Int))=true:=k0;exact(no (fun h=>by have:=(h.row h2 h3).1; rw[this] at k0; simp at k0)).symm
         have k0:(w[i][j].tm.tmod 9 != (i:Int))=false:=k0;have k0:w[i][j].tm.tmod 9=(i:Int):=by simpa using k0
         refine Br.dec (fun k1=> ?_) (fun k1=> ?_) <;> (cbv; repeat (refine Pz.mk ?_; cbv))
         · have k1:0<j:=by simpa using k1
           have h4:j - 1<w[i].length:=by omega
           have oj:0≤(j:Int) - 1:=by omega
           have gj:w[i][((j:Int) - 1).toNat]? = some w[i][j - 1]:=by rw[show((j:Int) - 1).toNat=j - 1 by omega]; exact List.getElem?_eq_getElem h4
           repeat' first
             | (refine Ix.mk w[i] (by simp) (get_cast w h2) ?_; cbv; repeat (refine Pz.mk ?_; cbv))
             | (refine Ix.mk w[i][j] (by simp) (get_cast w[i] h3) ?_; cbv; repeat (refine Pz.mk ?_; cbv))
             | (refine Ix.mk w[i][j - 1] oj gj ?_; cbv; repeat (refine Pz.mk ?_; cbv))
             | (refine Ar.exact (by(try simp only[nc] at *); omega) (by(try simp only[nc] at *); omega) ?_; cbv; repeat (refine Pz.mk ?_; cbv))
             | refine And.intro ?_ ?_
             | fail
           all_goals
             refine ag.by hP (F6 w[i][j - 1] w[i][j]) ?_;cbv
             repeat (refine Pz.mk ?_; cbv)
             refine Br.split (fun k2=> ?_) (fun k2=> ?_) <;> (cbv; repeat (refine Pz.mk ?_; cbv))
             · refine⟨?_,trivial⟩;exact(no (fun h=>by have:=(h.row h2 h3).2 k1; rw[this] at k2; simp at k2)).symm
             have k2:bf w[i][j - 1] w[i][j]=true:=by simpa using k2
             refine Ar.exact (by(try simp only[nc] at *); omega) (by(try simp only[nc] at *); omega) ?_;cbv
             repeat (refine Pz.mk ?_; cbv)
             refine aO.by (j+1) ?_ ?_ ?_
             · show w[i].length - (j+1)<w[i].length - j;omega
             · exact⟨h3,hr.snoc h3 k0 fun _=>k2⟩
             · cbv
               repeat (refine Pz.mk ?_; cbv)
               repeat' first | exact trivial | refine⟨rfl, ?_⟩ | fail
         · have k1:¬0<j:=by simpa using k1
           refine Ar.exact (by(try simp only[nc] at *); omega) (by(try simp only[nc] at *); omega) ?_;cbv
           repeat (refine Pz.mk ?_; cbv)
           refine aO.by (j+1) ?_ ?_ ?_
           · show w[i].length - (j+1)<w[i].length - j;omega
           · exact⟨h3,hr.snoc h3 k0 fun h=>absurd h k1⟩
           · cbv
             repeat (refine Pz.mk ?_; cbv)
             repeat' first | exact trivial | refine⟨rfl, ?_⟩ | fail
def dO (P:List ay):List (Int × Int):=P.foldl (fun m p=>iq m p.pid (dQ m p.pid+1)) []
theorem sP (P:List ay) (p:ay):dO (P ++ [p])=iq (dO P) p.pid (dQ (dO P) p.pid+1):=by simp[dO]
theorem Gv:∀{m:List (Int × Int)} {k:Int},gQ m k=none↔∀q∈m,q.1≠k
 | [],k=>by simp[gQ]
 | p ::m,k=>by
   have ih:=Gv (m:=m) (k:=k);simp only[gQ]
   split
   · rename_i h;simp[h]
   · rename_i h;simp only[Option.map_eq_none_iff,ih,List.forall_mem_cons];exact⟨fun h1=>⟨fun h2=>h h2.symm,h1⟩,fun h1=>h1.2⟩
theorem Gw:∀{m:List (Int × Int)} {k v j:Int},(∃q∈iq m k v,q.1=j)↔j=k∨∃q∈m,q.1=j
 | [],k,v,j=>by simp[iq,eq_comm]
 | p :: m,k,v,j=>by
   have ih:=Gw (m:=m) (k:=k) (v:=v) (j:=j);simp only[iq]
   split
   · rename_i h;subst h;simp only[List.mem_cons,exists_eq_or_imp]
     constructor
     · rintro(h | h)
       · exact .inl h.symm
       · exact .inr (.inr h)
     · rintro(h | h | h)
       · exact .inl h.symm
       · exact .inl h
       · exact .inr h
   · simp only[List.mem_cons,exists_eq_or_imp,ih]
     constructor
     · rintro(h | h | h)
       · exact .inr (.inl h)
       · exact .inl h
       · exact .inr (.inr h)
     · rintro(h | h | h)
       · exact .inr (.inl h)
       · exact .inl h
       · exact .inr (.inr h)
theorem Bq:∀{m:List (Int × Int)} {k v j:Int},dQ (iq m k v) j=if j=k then v else dQ m j
 | [],k,v,j=>by simp[iq,dQ]
 | p ::m,k,v,j=>by
   have ih:=Bq (m:=m) (k:=k) (v:=v) (j:=j);simp only[iq]
   split
   · rename_i h;subst h;simp only[dQ]
     split <;> rfl
   · rename_i h;simp only[dQ,ih]
     split
     · rename_i h1;rw[if_neg (by rw[h1]; exact fun h2=>h h2.symm)]
     · rfl
structure Ni (P:List ay):Prop where
 mem:∀j,(∃q∈dO P,q.1=j)↔∃p∈P,p.pid=j
 len:(dO P).length≤P.length
 eq:(dO P).length=P.length↔P.Pairwise fun a b=>a.pid≠b.pid
 lo:∀j,0≤dQ (dO P) j
 hi:∀j,dQ (dO P) j≤P.length
theorem xL (P:List ay):Ni P:=by
 obtain⟨n,hn⟩:∃n,P.length=n:=⟨_,rfl⟩
 induction n generalizing P with
 | zero=>
   have:P = []:=List.length_eq_zero_iff.1 hn;subst this;exact⟨by simp[dO],by simp[dO],by simp[dO],by simp[dO,dQ],by simp[dO,dQ]⟩
 | succ n ih=>
   rcases List.eq_nil_or_concat P with rfl | ⟨P,p,rfl⟩
   · cases hn
   rw[List.concat_eq_append] at *;have h:=ih P (by simpa using hn)
   have cM:∀j,(∃q∈dO (P ++ [p]),q.1=j)↔∃q∈P ++ [p],q.pid=j:=fun j=>by
     rw[sP,Gw,h.mem]
     constructor
     · rintro(rfl | ⟨q,hq,rfl⟩)
       · exact⟨p,by simp,rfl⟩
       · exact⟨q,by simp[hq],rfl⟩
     · rintro⟨q,hq,rfl⟩
       rcases List.mem_append.1 hq with hq | hq
       · exact .inr ⟨q,hq,rfl⟩
       · cases List.mem_singleton.1 hq; exact .inl rfl
   have Gx:∀j,0≤dQ (dO (P ++ [p])) j:=fun j=>by
     rw[sP,Bq]
     split
     · have:=h.lo p.pid; omega
     · exact h.lo j
   have mz:∀j,dQ (dO (P ++ [p])) j≤(P ++ [p]).length:=fun j=>by
     rw[sP,Bq,List.length_append,List.length_singleton]
     split
     · have:=h.hi p.pid; omega
     · have:=h.hi j; omega
   have Gy:((P ++ [p]).Pairwise fun a b=>a.pid≠b.pid)↔(P.Pairwise fun a b=>a.pid≠b.pid)∧∀a∈P,a.pid≠p.pid:=by
     rw[List.pairwise_append];exact⟨fun h=>⟨h.1,fun a ha=>h.2.2 a ha p (by simp)⟩,fun h=>⟨h.1,List.pairwise_singleton _ _,fun a ha b hb=>by cases List.mem_singleton.1 hb; exact h.2 a ha⟩⟩
   have hle:=h.len;cases hi:gQ (dO P) p.pid with
   | none=>
     have hl:(dO (P ++ [p])).length=(dO P).length+1:=by rw[sP,(tC hi).1]; simp
     have nC:∀a∈P,a.pid≠p.pid:=fun a ha he=>by
       obtain⟨q,hq,h1⟩:=(h.mem p.pid).2 ⟨a,ha,he⟩;exact Gv.1 hi q hq h1
     refine⟨cM,by rw[hl,List.length_append,List.length_singleton]; omega, ?_,Gx,mz⟩;rw[hl,List.length_append,List.length_singleton,Gy,←h.eq];exact⟨fun h1=>⟨by omega,nC⟩,fun h1=>by omega⟩
   | some j=>
     have hl:(dO (P ++ [p])).length=(dO P).length:=by rw[sP,(tD hi).2]; simp
     refine⟨cM,by rw[hl,List.length_append,List.length_singleton]; omega, ?_,Gx,mz⟩;rw[hl,List.length_append,List.length_singleton,Gy]
     constructor
     · intro h1; omega
     · intro⟨_,h1⟩;exfalso;have h2:=(tD (v:=0) hi).1;obtain⟨a,ha,h3⟩:=(h.mem p.pid).1 ⟨_,List.mem_of_getElem? h2,rfl⟩;exact h1 a ha h3
theorem Gz {x y:ay}:((if bf x y=true then(-1:Int) else if bf y x=true then 1 else 0)>0)↔bf y x=true:=by
 cases h1:bf x y <;> cases h2:bf y x <;> simp
 have:=jl.as _ _ h1;rw[h2] at this; cases this
def dC (w:List (List ay)) (k i:Nat):List ay:=(w.take k).flatten++(w.getD k []).take i
theorem GA (w:List (List ay)) (k:Nat):dC w k 0=(w.take k).flatten:=by simp[dC]
theorem Nj {w:List (List ay)} {k i:Nat} (hk:k<w.length) (hi:i<w[k].length):dC w k (i+1)=dC w k i ++ [w[k][i]]:=by
 have e:w.getD k []=w[k]:=by rw[List.getD_eq_getElem?_getD,List.getElem?_eq_getElem hk]; rfl
 rw[dC,dC,e,List.take_add_one,List.getElem?_eq_getElem hi,List.append_assoc]; rfl
theorem Nk {w:List (List ay)} {k i:Nat} (hk:k<w.length) (hi:w[k].length≤i):dC w k i=(w.take (k+1)).flatten:=by
 have e:w.getD k []=w[k]:=by rw[List.getD_eq_getElem?_getD,List.getElem?_eq_getElem hk]; rfl
 rw[dC,e,List.take_of_length_le hi,sO hk]
theorem Nl {w:List (List ay)} {k i:Nat} (hk:k<w.length):(dC w k i).length≤(a_ w).length:=by
 have e:w.getD k []=w[k]:=by rw[List.getD_eq_getElem?_getD,List.getElem?_eq_getElem hk]; rfl
 have h:=Bo (w:=w) (k+1);rw[sO hk,List.length_append] at h;rw[dC,e,List.length_append,List.length_take];show _≤w.flatten.length;omega
structure na (l:List ay) (k j:Nat):Prop where
 ok:∀p∈l.take j,dX p=true
 at_:∀p∈l.take j,p.tm.tmod 9=(k:Int)
 fg:(l.take j).Pairwise fun a b=>bf b a=false
theorem na.zero (l:List ay) (k:Nat):na l k 0:=⟨fun p hp=>by simp at hp,fun p hp=>by simp at hp,by simp⟩
theorem na.snoc {l:List ay} {k j:Nat} (hj:j<l.length) (h:na l k j) (ok:dX l[j]=true) (Nm:l[j].tm.tmod 9=(k:Int)) (lt:0<j→bf l[j] (l[j - 1]'(by omega))=false):na l k (j+1):=by
 have e:l.take (j+1)=l.take j ++ [l[j]]:=by rw[List.take_add_one,List.getElem?_eq_getElem hj]; rfl
 refine⟨?_, ?_, ?_⟩
 · intro p hp;rw[e,List.mem_append] at hp;rcases hp with hp | hp
   · exact h.ok p hp
   · cases List.mem_singleton.1 hp; exact ok
 · intro p hp;rw[e,List.mem_append] at hp;rcases hp with hp | hp
   · exact h.at_ p hp
   · cases List.mem_singleton.1 hp; exact Nm
 · rw [e,List.pairwise_append];refine⟨h.fg,List.pairwise_singleton _ _,fun a ha b hb=> ?_⟩;cases List.mem_singleton.1 hb;obtain⟨m,hm⟩:=List.mem_iff_getElem?.1 ha;rw[List.getElem?_take] at hm
   split at hm
   · rename_i Bp;have hl:=lt (by omega);rcases Nat.lt_or_ge m (j - 1) with h1 | h1
     · have h2:=(List.pairwise_iff_getElem.1 h.fg) m (j - 1) (by rw[List.length_take]; omega) (by rw[List.length_take]; omega) h1;simp only[List.getElem_take] at h2;rw[List.getElem?_eq_getElem (by omega)] at hm;cases hm;exact jl.ng _ _ _ hl h2
     · obtain rfl:m=j - 1:=by omega
       rw[List.getElem?_eq_getElem (by omega)] at hm;cases hm; exact hl
   · cases hm
def vm (w:List (List ay)) (k:Nat):Prop:=∀(m:Nat) l,m<k→w[m]? = some l→na l m l.length
theorem vm.snoc {w:List (List ay)} {k:Nat} (hk:k<w.length) (h:vm w k) (hr:na w[k] k w[k].length):vm w (k+1):=by
 intro m l hm hl;rcases Nat.lt_or_ge m k with h1 | h1
 · exact h m l h1 hl
 · obtain rfl:m=k:=by omega
   rw[List.getElem?_eq_getElem hk] at hl;cases hl;exact hr
theorem jS.gK {w:List (List ay)} (h:jS w) {k:Nat} (hk:k<w.length) {j:Nat} (hj:j<w[k].length):dX w[k][j]=true∧w[k][j].tm.tmod 9=(k:Int)∧(0<j→bf w[k][j] (w[k][j - 1]'(by omega))=false):=by
 obtain⟨h1,h2⟩:=h.row hk hj;refine⟨h.ok _ ?_,h1,fun h0=>jl.as _ _ (h2 h0)⟩;exact List.mem_flatten.2 ⟨w[k],List.getElem_mem hk,List.getElem_mem hj⟩
theorem Nn {w:List (List ay)} (h9:w.length=9) (hs:vm w w.length):bu w=(decide ((a_ w).length≤10) && (((dO (a_ w)).length:Int) == ((a_ w).length:Int))):=by
 have hc:=(xL (a_ w)).eq
 have key:jS w↔(a_ w).length≤10∧(dO (a_ w)).length=(a_ w).length:=by
  constructor
  · exact fun h=>⟨h.dy,hc.2 h.ne⟩
  · intro⟨h1,h2⟩;have hne:=hc.1 h2
    have get:∀l∈w,∃m,w[m]? = some l∧na l m l.length:=fun l hl=>by
      obtain⟨m,hm⟩:=List.mem_iff_getElem?.1 hl;exact⟨m,hm,hs m l (bD hm) hm⟩
    refine⟨h9,h1,fun p hp=> ?_,hne,fun k l hl p hp=> ?_,fun l hl=> ?_⟩
    · obtain⟨l,hl,hp⟩:=List.mem_flatten.1 hp;obtain⟨m,hm,hr⟩:=get l hl;exact hr.ok p (by rw[List.take_length]; exact hp)
    · exact(hs k l (bD hl) hl).at_ p (by rw[List.take_length]; exact hp)
    · obtain⟨m,hm,hr⟩:=get l hl;have h3:=hr.fg;rw[List.take_length] at h3;have h4:=(List.pairwise_flatten.1 hne).1 l hl;refine(h3.and h4).imp fun {a b} h=> ?_;cases h5:bf a b with
      | true=>rfl
      | false=>exact absurd (congrArg ay.pid (tZ a b h5 h.1)) h.2
 rw[Bool.eq_iff_iff];simp only[bu,decide_eq_true_eq,Bool.and_eq_true,beq_iff_eq];rw[key]
 constructor
 · intro⟨h1,h2⟩; exact⟨h1,by rw[h2]⟩
 · intro⟨h1,h2⟩; exact⟨h1,by omega⟩
set_option maxHeartbeats 1000000 in
theorem sQ (w:List (List ay)) (hw:eY w) (b:Bool) (hb:b=bu w):Spec Tryz.prog 183 [lh w] (aM (bR fun _=>b)):=by
 refine aN aD Tryz.func183 rfl rfl (fr:=true) (fun _=>by kernel_rfl) fun P hP hA=> ?_;have hl:w.length≤1048576:=hw.1;have nE:(a_ w).length≤1099511627776:=hw.2;obtain⟨⟨⟨ha,eE⟩,_⟩,_⟩:=hA;have eE:∀x∈w,x.length≤9223372036854775807:=eE;have no:¬jS w→b=false:=fun h=>hb.trans (Gu h);cbv;refine Br.split (fun h9=> ?_) (fun h9=> ?_) <;> cbv
 · refine⟨?_,trivial⟩;exact(no (fun h=>by have:=h.len; simp[this] at h9)).symm
 have h9:((w.length:Int) != 9)=false:=h9;have h9:w.length=9:=by simp at h9; omega
 refine aW.by (X:=Nat) (fun k=>[(3,oN 0),(4,nT fun _=>(dC w k 0).length),(15,lA .cw w),(16,nT fun _=>w.length),(17,nT fun _=>k)]) (fun k=>[(0, .mp fun _=>dO (dC w k 0))]) (fun k=>k≤w.length∧vm w k) (fun k _=>w.length - k) 0 ⟨Nat.zero_le _,fun m l hm=>by omega⟩ ?_ ?_
 · cbv
   repeat' first | exact trivial | refine⟨rfl, ?_⟩ | fail
 · intro k ⟨hk,hs⟩;cbv;refine Br.dec (fun h2=> ?_) (fun h2=> ?_) <;> cbv
   rotate_left
   · have h2:w.length≤k:=by simp at h2; omega
     have bw:k≤w.length:=hk;obtain rfl:k=w.length:=by omega
     have ea:dC w w.length 0=a_ w:=by rw[GA,List.take_length]; rfl
     have hq:=Nn h9 hs;refine Br.dec (fun h3=> ?_) (fun h3=> ?_) <;> cbv
     · refine⟨?_,trivial⟩;have h3:((dC w w.length 0).length:Int)≤10:=h3;show(((dO (dC w w.length 0)).length:Int) == ((dC w w.length 0).length:Int))=b;rw[ea] at h3 ⊢;rw[hb,hq,decide_eq_true (by omega),Bool.true_and]
     · refine⟨?_,trivial⟩;have h3:¬((dC w w.length 0).length:Int)≤10:=h3;rw[ea] at h3;rw[hb,hq,decide_eq_false (by omega),Bool.false_and]
   have h2:k<w.length:=by simpa using h2
   have Rm:(w[k]).length≤9223372036854775807:=eE _ (List.getElem_mem h2);refine⟨w[k],by simp,get_cast w h2, ?_⟩;cbv;refine aW.by (X:=Nat) (fun i=>[(3,oN 0),(4,nT fun _=>(dC w k i).length),(5,nT fun _=>k),(6,lT .aI fun _=>w[k]),(15,lA .cw w),(16,nT fun _=>w.length),(17,nT fun _=>k),(22,lT .aI fun _=>w[k]),(23,nT fun _=>w[k].length),(24,nT fun _=>i)]) (fun i=>[(0, .mp fun _=>dO (dC w k i))]) (fun i=>i≤w[k].length∧na w[k] k i) (fun i _=>w[k].length - i) 0 ⟨Nat.zero_le _,na.zero _ _⟩ ?_ ?_
   · cbv
     repeat' first | exact trivial | refine⟨rfl, ?_⟩ | fail
   · intro i ⟨hi,hr⟩;have y9:=Nl (i:=i) h2;have eJ:=(xL (dC w k i)).len;cbv;refine Br.dec (fun h3=> ?_) (fun h3=> ?_) <;> cbv
     rotate_left
     · have h3:w[k].length≤i:=by simp at h3; omega
       have m_:i≤w[k].length:=hi;obtain rfl:i=w[k].length:=by omega
       have e:dC w k w[k].length=dC w (k+1) 0:=by rw[Nk h2 (Nat.le_refl _),GA]
       refine Ar.exact (by(try simp only[nc] at *); omega) (by(try simp only[nc] at *); omega) ?_;cbv;refine aO.by (k+1) ?_ ?_ ?_
       · show w.length - (k+1)<w.length - k;omega
       · exact⟨h2,hs.snoc h2 hr⟩
       · cbv;rw[e]
         repeat' first | exact trivial | refine⟨rfl, ?_⟩ | fail
     have h3:i<w[k].length:=by simpa using h3
     have Rn:=(xL (dC w k i)).lo w[k][i].pid;have Ro:=(xL (dC w k i)).hi w[k][i].pid;have GB:=Nj h2 h3;have No:(dC w k (i+1)).length=(dC w k i).length+1:=by rw[GB]; simp
     have GC:dO (dC w k (i+1))=iq (dO (dC w k i)) w[k][i].pid (dQ (dO (dC w k i)) w[k][i].pid+1):=by rw[GB,sP]
     have GD: -9223372036854775808≤dQ (dO (dC w k i)) w[k][i].pid+1:=by omega
     have aC:dQ (dO (dC w k i)) w[k][i].pid+1≤9223372036854775807:=by omega
     have GF:(dO (dC w k i)).length<9223372036854775807:=by omega
     have GG: -9223372036854775808≤((dC w k i).length:Int)+1:=by omega
     have m3:((dC w k i).length:Int)+1≤9223372036854775807:=by omega
     have GH:((dC w k i).length:Int)+1=((dC w k (i+1)).length:Int):=by rw[No]; omega
     have GI: -9223372036854775808≤(i:Int)+1:=by omega
     have sK:(i:Int)+1≤9223372036854775807:=by omega
     refine⟨w[k][i],by simp,get_cast w[k] h3, ?_⟩;cbv;refine ag.by hP (A_ w[k][i]) ?_;cbv;refine Br.split (fun k0=> ?_) (fun k0=> ?_) <;> cbv
     · refine⟨?_,trivial⟩;have k0:(!dX w[k][i])=true:=k0;exact(no (fun h=>by have:=(h.gK h2 h3).1; rw[this] at k0; cases k0)).symm
     have k0:(!dX w[k][i])=false:=k0;have k0:dX w[k][i]=true:=by simpa using k0
     refine⟨by decide, ?_⟩;cbv;refine Br.split (fun k1=> ?_) (fun k1=> ?_) <;> cbv
     · refine⟨?_,trivial⟩;have k1:(w[k][i].tm.tmod 9 != (k:Int))=true:=k1;exact(no (fun h=>by have:=(h.gK h2 h3).2.1; rw[this] at k1; simp at k1)).symm
     have k1:(w[k][i].tm.tmod 9 != (k:Int))=false:=k1;have k1:w[k][i].tm.tmod 9=(k:Int):=by simpa using k1
     refine Br.dec (fun k2=> ?_) (fun k2=> ?_) <;> cbv
     · have k2:0<i:=by simpa using k2
       have h4:i - 1<w[k].length:=by omega
       have oj:0≤(i:Int) - 1:=by omega
       have gj:w[k][((i:Int) - 1).toNat]? = some w[k][i - 1]:=by rw[show((i:Int) - 1).toNat=i - 1 by omega]; exact List.getElem?_eq_getElem h4
       refine Ar.exact (by(try simp only[nc] at *); omega) (by(try simp only[nc] at *); omega) ?_;cbv;refine⟨w[k][i - 1],oj,gj, ?_⟩;cbv;refine ag.by hP (A9 w[k][i - 1] w[k][i]) ?_;cbv;refine Br.dec (fun k3=> ?_) (fun k3=> ?_) <;> cbv
       · refine⟨?_,trivial⟩;have k3:=Gz.1 k3;exact(no (fun h=>by have:=(h.gK h2 h3).2.2 k2; rw[this] at k3; cases k3)).symm
       have k3:bf w[k][i] w[k][i - 1]=false:=by
         cases h5:bf w[k][i] w[k][i - 1] with
         | false=>rfl
         | true=>exact absurd (Gz.2 h5) k3
       refine Ar.exact GD aC ?_;cbv;refine⟨GF, ?_⟩;cbv;refine Ar.exact GG m3 ?_;cbv;refine Ar.exact GI sK ?_;cbv;refine aO.by (i+1) ?_ ?_ ?_
       · show w[k].length - (i+1)<w[k].length - i;omega
       · exact⟨h3,hr.snoc h3 k0 k1 fun _=>k3⟩
       · cbv;refine⟨GH, ?_⟩
         repeat' first | exact trivial | refine⟨rfl, ?_⟩ | fail
         refine⟨GC.symm, ?_⟩
         repeat' first | exact trivial | refine⟨rfl, ?_⟩ | fail
     · have k2:¬0<i:=by simpa using k2
       refine Ar.exact GD aC ?_;cbv;refine⟨GF, ?_⟩;cbv;refine Ar.exact GG m3 ?_;cbv;refine Ar.exact GI sK ?_;cbv;refine aO.by (i+1) ?_ ?_ ?_
       · show w[k].length - (i+1)<w[k].length - i;omega
       · exact⟨h3,hr.snoc h3 k0 k1 fun h=>absurd h k2⟩
       · cbv;refine⟨GH, ?_⟩
         repeat' first | exact trivial | refine⟨rfl, ?_⟩ | fail
         refine⟨GC.symm, ?_⟩
         repeat' first | exact trivial | refine⟨rfl, ?_⟩ | fail
theorem Bt {w:List (List ay)} (h:bu w=true):cB w=cW bf (a_ w):=if_pos h
theorem Bu {w:List (List ay)} (h:bu w=false):cB w = []:=if_neg (by rw[h]; simp)
theorem xM {w:List (List ay)} (h:bu w=true):jS w:=by simpa [bu] using h
theorem Np (w:List (List ay)) (hw:eY w) (x:List ay) (hx:x=cB w):Spec Tryz.prog 118 [lh w] (aM (lR .aI fun _=>x)):=by
 refine aN aD Tryz.func118 rfl rfl (fr:=true) (fun _=>by kernel_rfl) fun P hP hA=> ?_;cbv;refine ag.by hP (xK w hw (bu w) rfl) ?_;cbv;refine Br.split (fun k0=> ?_) (fun k0=> ?_) <;> cbv
 · have k0:bu w=false:=by simpa using k0
   obtain rfl:x = []:=hx.trans (Bu k0)
   repeat' first | exact trivial | refine⟨rfl, ?_⟩ | fail
 have k0:bu w=true:=by simpa using k0
 have hx:=hx.trans (Bt k0);have dy:=(xM k0).dy;refine ag.by hP (Gt w hw) ?_;cbv;refine aW.by (X:=Nat) (fun i=>[(3,oN 0),(4,oN 1),(5,nT fun _=>i)]) (fun i=>[(0,aK .aI fun _=>gU bf ((a_ w).take i)),(1,aK .aI fun _=>a_ w)]) (fun i=>i≤(a_ w).length) (fun i _=>(a_ w).length - i) 0 (Nat.zero_le _) ?_ ?_
 · cbv
   repeat' first | exact trivial | refine⟨rfl, ?_⟩ | fail
 · intro i hi;cbv;refine Br.dec (fun h2=> ?_) (fun h2=> ?_) <;> cbv
   rotate_left
   · have h2:(a_ w).length≤i:=by simp at h2; omega
     refine⟨?_,trivial⟩;show gU bf ((a_ w).take i)=x;rw[List.take_of_length_le h2,wC jl tZ,hx]
   have h2:i<(a_ w).length:=by simpa using h2
   have gi:(a_ w).getD ((i:Int)).toNat default=(a_ w)[i]:=by rw[Int.toNat_natCast,List.getD_eq_getElem?_getD,List.getElem?_eq_getElem h2]; rfl
   have oi:0≤(i:Int)∧(i:Int)<((a_ w).length:Int):=by omega
   have st:bE bf ((a_ w).getD ((i:Int)).toNat default) (gU bf ((a_ w).take i))=gU bf ((a_ w).take (i+1)):=by
     rw[gi,←zc,List.take_add_one,List.getElem?_eq_getElem h2]; rfl
   refine⟨oi, ?_⟩;cbv;refine ag.by hP (Bj (gU bf ((a_ w).take i)) ((a_ w).getD ((i:Int)).toNat default) (by rw[wC jl tZ,kh,List.length_take]; show _≤1048576; omega)) ?_;cbv;refine Ar.exact (by(try simp only[nc] at *); omega) (by(try simp only[nc] at *); omega) ?_;cbv;refine aO.by (i+1) ?_ ?_ ?_
   · show(a_ w).length - (i+1)<(a_ w).length - i;omega
   · exact h2
   · cbv
     repeat' first | exact trivial | refine⟨rfl, ?_⟩ | fail
     refine⟨st, ?_⟩
     repeat' first | exact trivial | refine⟨rfl, ?_⟩ | fail
theorem GJ (w:List (List ay)) (hw:eY w) (x:List ay) (hx:x=cB w):Spec Tryz.prog 126 [lh w] (aM (lR .aI fun _=>x)):=by
 refine aN aD Tryz.func126 rfl rfl (fr:=true) (fun _=>by kernel_rfl) fun P hP hA=> ?_;cbv;refine ag.by hP (sQ w hw (bu w) rfl) ?_;cbv;refine Br.split (fun k0=> ?_) (fun k0=> ?_) <;> cbv
 · have k0:bu w=false:=by simpa using k0
   obtain rfl:x = []:=hx.trans (Bu k0)
   repeat' first | exact trivial | refine⟨rfl, ?_⟩ | fail
 have k0:bu w=true:=by simpa using k0
 have hx:=hx.trans (Bt k0);have dy:=(xM k0).dy;have h9:=(xM k0).len;refine aW.by (X:=Nat) (fun i=>[(3,oN 0),(10,lA .cw w),(11,nT fun _=>w.length),(12,nT fun _=>i)]) (fun i=>[(0,aK .aI fun _=>(w.take i).flatten)]) (fun i=>i≤w.length) (fun i _=>w.length - i) 0 (Nat.zero_le _) ?_ ?_
 · cbv
   repeat' first | exact trivial | refine⟨rfl, ?_⟩ | fail
 · intro i hi;cbv;refine Br.dec (fun h2=> ?_) (fun h2=> ?_) <;> cbv
   rotate_left
   · have h2:w.length≤i:=by simp at h2; omega
     have e:(w.take i).flatten=a_ w:=by rw[List.take_of_length_le h2]; rfl
     refine aJ.by hP (M5 ((w.take i).flatten) (by rw[e]; exact dy)) ?_;cbv;refine⟨?_,trivial⟩;show cW bf (w.take i).flatten=x;rw[e,hx]
   have h2:i<w.length:=by simpa using h2
   have ob:(List.length (w.take i).flatten+List.length w[i])*16≤140737488355328:=by
     have h3:=Bo (w:=w) (i+1);rw[sO h2,List.length_append] at h3;have h4:w.flatten.length≤10:=dy;omega
   refine⟨w[i],by simp,get_cast w h2, ?_⟩;cbv;refine⟨ob, ?_⟩;cbv;refine Ar.exact (by(try simp only[nc] at *); omega) (by(try simp only[nc] at *); omega) ?_;cbv;refine aO.by (i+1) ?_ ?_ ?_
   · show w.length - (i+1)<w.length - i;omega
   · exact h2
   · cbv
     repeat' first | exact trivial | refine⟨rfl, ?_⟩ | fail
     refine⟨(sO h2).symm,trivial⟩
def jT (c:bh):Bool:=aZ c.ai && (dg c.row && bu c.spoke)
def fh (R:br) (c:bh) (l:List ax) (k now:Int):Bool:=
 jT c && (decide (c.row=eN R l k now) && (decide (cB c.spoke=fJ l k) && ((c.ai.held == ((aV (cg k) l:Nat):Int)) && (c.ai.tied == ((aV (cu k) l:Nat):Int)))))
theorem Nq (c:bh) (hw:eY c.spoke) (b:Bool) (hb:b=jT c):Spec Tryz.prog 114 [eA .ah c] (aM (bR fun _=>b)):=by
 refine aN aD Tryz.func114 rfl rfl (fr:=true) (fun _=>by kernel_rfl) fun P hP hA=> ?_;cbv
 repeat' first
  | (refine ag.by hP (FN c.ai (aZ c.ai) rfl) ?_; cbv)
  | (refine ag.by hP (Bh c.row (dg c.row) rfl) ?_; cbv)
  | (refine ag.by hP (xK c.spoke hw (bu c.spoke) rfl) ?_; cbv)
  | (refine Br.split (fun h=> ?_) (fun h=> ?_) <;> cbv)
  | fail
 all_goals refine⟨?_,trivial⟩
 all_goals simp_all [jT]
theorem Nr (c:bh) (hw:eY c.spoke) (b:Bool) (hb:b=jT c):Spec Tryz.prog 122 [eA .ah c] (aM (bR fun _=>b)):=by
 refine aN aD Tryz.func122 rfl rfl (fr:=true) (fun _=>by kernel_rfl) fun P hP hA=> ?_;cbv
 repeat' first
  | (refine ag.by hP (kz c.ai (aZ c.ai) rfl) ?_; cbv)
  | (refine ag.by hP (vj c.row (dg c.row) rfl) ?_; cbv)
  | (refine ag.by hP (sQ c.spoke hw (bu c.spoke) rfl) ?_; cbv)
  | (refine Br.split (fun h=> ?_) (fun h=> ?_) <;> cbv)
  | fail
 all_goals refine⟨?_,trivial⟩
 all_goals simp_all [jT]
set_option maxHeartbeats 1000000 in
theorem Ns (R:br) (c:bh) (l:List ax) (k now:Int) (hs:R.ai.length≤aS) (hl:l.length≤aS) (hw:eY c.spoke) (b:Bool) (hb:b=fh R c l k now) :
   Spec Tryz.prog 52 [fT R,eA .ah c,lA .aB l,iA k,iA now] (aM (bR fun _=>b)):=by
 refine aN aD Tryz.func52 rfl rfl (fr:=true) (fun _=>by kernel_rfl) fun P hP hA=> ?_;cbv
 repeat (refine Pz.mk ?_; cbv)
 repeat (refine Pz.mk ?_; cbv)
 refine ag.by hP (Nq c hw (jT c) rfl) ?_;cbv
 repeat (refine Pz.mk ?_; cbv)
 refine Br.split (fun k0=> ?_) (fun k0=> ?_) <;> (cbv; repeat (refine Pz.mk ?_; cbv))
 rotate_left
 · refine⟨?_,trivial⟩;have k0:jT c=false:=k0;simp[hb,fh,k0]
 have k0:jT c=true:=k0;refine ag.by hP (Gn R l k now hs hl) ?_;cbv
 repeat (refine Pz.mk ?_; cbv)
 refine ag.by hP (MV c.row (eN R l k now)) ?_;cbv
 repeat (refine Pz.mk ?_; cbv)
 refine Br.split (fun k1=> ?_) (fun k1=> ?_) <;> (cbv; repeat (refine Pz.mk ?_; cbv))
 rotate_left
 · refine⟨?_,trivial⟩;have k1:decide (c.row=eN R l k now)=false:=k1;rw[hb,fh,k0,k1]; rfl
 have k1:decide (c.row=eN R l k now)=true:=k1
 repeat' first
   | (refine ag.by hP (Np c.spoke hw (cB c.spoke) rfl) ?_; cbv; repeat (refine Pz.mk ?_; cbv))
   | (refine ag.by hP (Gs l k hl) ?_; cbv; repeat (refine Pz.mk ?_; cbv))
   | refine And.intro ?_ ?_
   | fail
 all_goals
   refine ag.by hP (MW (cB c.spoke) (fJ l k)) ?_;cbv
   repeat (refine Pz.mk ?_; cbv)
   refine Br.split (fun k2=> ?_) (fun k2=> ?_) <;> (cbv; repeat (refine Pz.mk ?_; cbv))
   rotate_left
   · refine⟨?_,trivial⟩;have k2:decide (cB c.spoke=fJ l k)=false:=k2;rw[hb,fh,k0,k1,k2]; rfl
   have k2:decide (cB c.spoke=fJ l k)=true:=k2;refine ag.by hP (FX l k hl) ?_;cbv
   repeat (refine Pz.mk ?_; cbv)
   refine Br.split (fun k3=> ?_) (fun k3=> ?_) <;> (cbv; repeat (refine Pz.mk ?_; cbv))
   rotate_left
   · refine⟨?_,trivial⟩;have k3:(c.ai.held == ((aV (cg k) l:Nat):Int))=false:=k3;rw[hb,fh,k0,k1,k2,k3]; rfl
   have k3:(c.ai.held == ((aV (cg k) l:Nat):Int))=true:=k3;refine ag.by hP (FY l k hl) ?_;cbv
   repeat (refine Pz.mk ?_; cbv)
   refine⟨?_,trivial⟩;rw[hb,fh,k0,k1,k2,k3]; rfl
set_option maxHeartbeats 1000000 in
theorem Nt (R:br) (c:bh) (l:List ax) (k now:Int) (hs:R.ai.length≤aS) (hl:l.length≤aS) (hw:eY c.spoke) (he:(eF R k now l).length≤10) (hp:(eX k l).length≤10)
   (b:Bool) (hb:b=fh R c l k now):Spec Tryz.prog 57 [fT R,eA .ah c,lA .aB l,iA k,iA now] (aM (bR fun _=>b)):=by
 refine aN aD Tryz.func57 rfl rfl (fr:=true) (fun _=>by kernel_rfl) fun P hP hA=> ?_;cbv
 repeat (refine Pz.mk ?_; cbv)
 repeat (refine Pz.mk ?_; cbv)
 refine ag.by hP (Nr c hw (jT c) rfl) ?_;cbv
 repeat (refine Pz.mk ?_; cbv)
 refine Br.split (fun k0=> ?_) (fun k0=> ?_) <;> (cbv; repeat (refine Pz.mk ?_; cbv))
 rotate_left
 · refine⟨?_,trivial⟩;have k0:jT c=false:=k0;simp[hb,fh,k0]
 have k0:jT c=true:=k0;refine ag.by hP (Gq R l k now hs hl he) ?_;cbv
 repeat (refine Pz.mk ?_; cbv)
 refine ag.by hP (MX c.row (eN R l k now)) ?_;cbv
 repeat (refine Pz.mk ?_; cbv)
 refine Br.split (fun k1=> ?_) (fun k1=> ?_) <;> (cbv; repeat (refine Pz.mk ?_; cbv))
 rotate_left
 · refine⟨?_,trivial⟩;have k1:decide (c.row=eN R l k now)=false:=k1;rw[hb,fh,k0,k1]; rfl
 have k1:decide (c.row=eN R l k now)=true:=k1
 repeat' first
   | (refine ag.by hP (GJ c.spoke hw (cB c.spoke) rfl) ?_; cbv; repeat (refine Pz.mk ?_; cbv))
   | (refine ag.by hP (Nd l k hl hp) ?_; cbv; repeat (refine Pz.mk ?_; cbv))
   | refine And.intro ?_ ?_
   | fail
 all_goals
   refine ag.by hP (MY (cB c.spoke) (fJ l k)) ?_;cbv
   repeat (refine Pz.mk ?_; cbv)
   refine Br.split (fun k2=> ?_) (fun k2=> ?_) <;> (cbv; repeat (refine Pz.mk ?_; cbv))
   rotate_left
   · refine⟨?_,trivial⟩;have k2:decide (cB c.spoke=fJ l k)=false:=k2;rw[hb,fh,k0,k1,k2]; rfl
   have k2:decide (cB c.spoke=fJ l k)=true:=k2;refine ag.by hP (Mx l k hl) ?_;cbv
   repeat (refine Pz.mk ?_; cbv)
   refine Br.split (fun k3=> ?_) (fun k3=> ?_) <;> (cbv; repeat (refine Pz.mk ?_; cbv))
   rotate_left
   · refine⟨?_,trivial⟩;have k3:(c.ai.held == ((aV (cg k) l:Nat):Int))=false:=k3;rw[hb,fh,k0,k1,k2,k3]; rfl
   have k3:(c.ai.held == ((aV (cg k) l:Nat):Int))=true:=k3;refine ag.by hP (My l k hl) ?_;cbv
   repeat (refine Pz.mk ?_; cbv)
   refine⟨?_,trivial⟩;rw[hb,fh,k0,k1,k2,k3]; rfl
end Go.Proofs.YtpklefhdkkegiaaGreat

