/- Parts of a proof. No conditions. -/

import Derived.Test.YtpklefhdkkegiaaGreatG19
import Derived.Test.YtpklefhdkkegiaaGreatG18
import Derived.Test.YtpklefhdkkegiaaGreatG22
set_option linter.unusedSimpArgs false
set_option linter.unusedVariables false
namespace Go.Proofs.YtpklefhdkkegiaaGreat
open Go
set_option maxRecDepth 100000
def kI (l:List aC) (p:aC):Int:=ie (fun q=>decide (q=p)) l
def fN (p:aC):Nat:=(p.tm.tmod 9).toNat
def bQ (w:List (List aC)) (p:aC):List aC:=w.getD (fN p) []
def ij (w:List (List aC)) (p:aC):Bool:=bw w && (decide (1≤p.tm) && decide (0≤kI (bQ w p) p))
def ik (w:List (List aC)) (p:aC):List (List aC):=if ij w p=true then w.set (fN p) (cutAt (bQ w p) (kI (bQ w p) p)) else w
def eE (w:List (List aC)) (p:aC):List (List aC):=w.set (fN p) (bP bu p (bQ w p))
def gq (w:List (List aC)) (p:aC):Bool:=bw w && (decide (1≤p.tm) && bw (eE w p))
def kJ (w:List (List aC)) (p:aC):List (List aC):=if gq w p=true then eE w p else w
theorem K0 {a b:aC}:a=b↔a.tm=b.tm∧a.pid=b.pid:=by
 constructor
 · rintro rfl; exact⟨rfl,rfl⟩
 · intro⟨h1,h2⟩;cases a; cases b;simp only at h1 h2;subst h1 h2;rfl
theorem wG {w:List (List aC)} (h:bw w=true):lQ w:=of_decide_eq_true h
theorem K4 {w:List (List aC)}:bw w=true↔lQ w:=⟨wG,fun h=>decide_eq_true h⟩
theorem ua {w:List (List aC)} (h:bw w=true) {p:aC} (hp:1≤p.tm):(0≤p.tm.tmod 9∧p.tm.tmod 9<(w.length:Int))∧fN p<w.length:=by
 have h9:=(wG h).len;have h1:0≤p.tm.tmod 9:=Int.tmod_nonneg _ (by omega);have h2:p.tm.tmod 9<9:=Int.tmod_lt_of_pos _ (by omega);have e:fN p=(p.tm.tmod 9).toNat:=rfl;omega
theorem K5 {w:List (List aC)} {k:Nat} {l:List aC} (hk:w[k]? = some l) {q:aC} (hq:q∈l):q∈bf w:=List.mem_flatten.2 ⟨l,List.mem_of_getElem? hk,hq⟩
theorem E3 {α:Type} {l:List α} {d:α} {k:Nat} (h:k<l.length):l[k]? = some (l.getD k d):=by
 rw[List.getD_eq_getElem?_getD,List.getElem?_eq_getElem h]; rfl
theorem SE {w:List (List aC)} (h:bw w=true) {p:aC} (hp:fc p=false) {k:Nat} (hk:k<w.length):kI (w.getD k []) p<0:=by
 rcases iC (fun q:aC=>decide (q=p)) (w.getD k []) with⟨e,_⟩ | ⟨i,hi,_,e,_⟩
 · have e:kI (w.getD k []) p = -1:=e;omega
 · have e:(w.getD k [])[i]=p:=of_decide_eq_true e;have h1:=(wG h).ok p (K5 (E3 hk) (e▸List.getElem_mem hi));rw[hp] at h1; cases h1
theorem vU {w:List (List aC)} (h:bw w=true) {k:Nat} (hk:k<w.length):(w.getD k []).length≤10:=by
 have h1:=(wG h).dj
 have h2:∀{w:List (List aC)} {l:List aC},l∈w→l.length≤w.flatten.length:=by
  intro w l hl
  induction w with
  | nil=>cases hl
  | cons a w ih=>
    simp only[List.flatten_cons,List.length_append];rcases List.mem_cons.1 hl with rfl | hl
    · omega
    · have:=ih hl; omega
 exact Nat.le_trans (h2 (List.mem_of_getElem? (E3 hk))) h1
theorem K6 {w:List (List aC)} (h:bw w=true) {p:aC} {k:Nat} (hk:k<w.length):kC (w.set k (bP bu p (w.getD k []))):=by
 have h9:=(wG h).len;refine⟨by rw[List.length_set]; show _≤1048576; omega,fun x hx=> ?_⟩;rcases List.mem_or_eq_of_mem_set hx with q | rfl
 · obtain⟨j,hj⟩:=List.mem_iff_getElem?.1 q;have:=vU h (bC hj);rw[List.getD_eq_getElem?_getD,hj] at this;have this:x.length≤10:=this;show _≤1048576; omega
 · rw[wT];have:=vU h hk;show _≤1048576; omega
theorem SF {w:List (List aC)} {p:aC} (hp:fc p=false) {k:Nat} (hk:k<w.length):bw (w.set k (bP bu p (w.getD k [])))=false:=by
 cases hb:bw (w.set k (bP bu p (w.getD k []))) with
 | false=>rfl
 | true=>
   have h1:=(wG hb).ok p (K5 (k:=k) (l:=bP bu p (w.getD k [])) (by rw[List.getElem?_set]; simp[hk]) (rj.2 (.inl rfl)));rw[hp] at h1; cases h1
theorem dE.small {w:List (List aC)} (h:kC w):dE w:=dE.of h.1 h.2
theorem SG (a:List aC) (v:aC) (x:Int) (hx:x=kI a v):Spec Tryz.prog 232 [lA .aI a,eA .aI v] (aG (iR fun _=>x)):=by
 refine aF au Tryz.func232 rfl rfl (fr:=true) (fun _=>by kernel_rfl) fun P hP hA=> ?_;obtain⟨⟨ha,_⟩,_⟩:=hA;have ha:a.length≤9223372036854775807:=ha;cbv;refine aR.by (X:=Nat) (fun i=>[(0,lA .aI a),(3,pN 0),(7,nT fun _=>a.length),(8,nT fun _=>i)]) (fun _=>[(0, .box ((bY .aI fun _=>v).map .lf))]) (fun i=>i≤a.length∧∀(j:Nat) y,j<i→a[j]? = some y→decide (y=v)=false) (fun i _=>a.length - i) 0 ⟨Nat.zero_le _,fun j y hj=>by omega⟩ ?_ ?_
 · cbv
   repeat' first | exact trivial | refine⟨rfl, ?_⟩ | fail
 · intro i ⟨hi,hn⟩;cbv;refine Br.dec (fun h2=> ?_) (fun h2=> ?_) <;> cbv
   · have h2:i<a.length:=by simpa using h2
     refine⟨a[i],by simp,get_cast a h2, ?_⟩;cbv;refine Br.split (fun h3=> ?_) (fun h3=> ?_) <;> cbv
     · have h3:a[i]=v:=K0.2 (by simp at h3; exact⟨h3.1.symm,h3.2.symm⟩);refine⟨?_,trivial⟩;exact(hx.trans (nh (p:=fun y:aC=>decide (y=v)) h2 (decide_eq_true h3) hn)).symm
     · have h3:¬a[i]=v:=fun h=>by rw[h] at h3; simp at h3
       refine Ar.exact (by(try simp only[nc] at *); omega) (by(try simp only[nc] at *); omega) ?_;cbv;refine aL.by (i+1) ?_ ?_ ?_
       · show a.length - (i+1)<a.length - i;omega
       · exact⟨h2,gN h2 hn (decide_eq_false h3)⟩
       · cbv
         repeat' first | exact trivial | refine⟨rfl, ?_⟩ | fail
   · have h2:a.length≤i:=by simp at h2; omega
     refine⟨?_,trivial⟩;exact(hx.trans (ni (mn h2 hn))).symm
theorem SH {w:List (List aC)} {p:aC} (hk:fN p<w.length):w[(p.tm.tmod 9).toNat]? = some (bQ w p):=E3 hk
theorem SI {w:List (List aC)} {p:aC} (hk:fN p<w.length):w.set (fN p) (bQ w p)=w:=by
 have e:bQ w p=w[fN p]:=by
  show w.getD (fN p) []=_;rw[List.getD_eq_getElem?_getD,List.getElem?_eq_getElem hk]; rfl
 rw[e]; exact List.set_getElem_self hk
theorem A2 {p:aC} (k1:fc p=true):1≤p.tm:=by
 simp only[fc,Bool.and_eq_true] at k1;exact(bD k1.1).1
theorem vV {w:List (List aC)} {p:aC} {x:List (List aC)} {b:Bool} (hx:x=ik w p) (hb:b=ij w p) (e:ij w p=false):x=w∧b=false:=⟨hx.trans (if_neg (by rw[e]; simp)),hb.trans e⟩
theorem E4 {w:List (List aC)} {p:aC} {i:Nat} (e:kI (bQ w p) p=(i:Int)) (eb:ij w p=true):w.set (fN p) ((bQ w p).take i++(bQ w p).drop (i+1))=ik w p:=by
 rw[ik,if_pos eb,cutAt,e,if_neg (by omega),Int.toNat_natCast]
theorem vW {w:List (List aC)} {p:aC} (k0:bw w=true) (h1:1≤p.tm):ij w p=decide (0≤kI (bQ w p) p):=by
 rw[ij,k0,decide_eq_true h1]; rfl
theorem SJ {w:List (List aC)} {p:aC} (k0:bw w=true) (k1:fc p=false):ij w p=false:=by
 by_cases h1:1≤p.tm
 · obtain⟨_,hk⟩:=ua k0 h1;rw[vW k0 h1];have:=SE k0 k1 hk;exact decide_eq_false (by show¬0≤kI (w.getD (fN p) []) p; omega)
 · rw[ij,k0,decide_eq_false h1]; rfl
set_option maxHeartbeats 1000000 in
theorem A3 (w:List (List aC)) (p:aC) (hw:kC w) (x:List (List aC)) (hx:x=ik w p) (b:Bool) (hb:b=ij w p):Spec Tryz.prog 164 [jE w,eA .aI p] (aG (.aS [(true,[.own .cE fun _=>x]),(false,[.bool fun _=>b])])):=by
 refine aF au Tryz.func164 rfl rfl (fr:=true) (fun _=>by kernel_rfl) fun P hP hA=> ?_;cbv;refine af.by hP (yf w hw) ?_;cbv;refine af.by hP (sy w (dE.small hw) (bw w) rfl) ?_;cbv;refine Br.split (fun k0=> ?_) (fun k0=> ?_) <;> cbv
 · have k0:(!bw w)=true:=k0;have k0:bw w=false:=by simpa using k0
   have e:=vV hx hb (by rw[ij,k0]; rfl);obtain rfl:x=w:=e.1;obtain rfl:b=false:=e.2
   repeat' first | exact trivial | refine⟨rfl, ?_⟩ | fail
 have k0:(!bw w)=false:=k0;have k0:bw w=true:=by simpa using k0
 refine af.by hP (Ed p) ?_;cbv;refine Br.split (fun k1=> ?_) (fun k1=> ?_) <;> cbv
 · have k1:(!fc p)=true:=k1;have k1:fc p=false:=by simpa using k1
   have e:=vV hx hb (SJ k0 k1);obtain rfl:x=w:=e.1;obtain rfl:b=false:=e.2
   repeat' first | exact trivial | refine⟨rfl, ?_⟩ | fail
 have k1:(!fc p)=false:=k1;have k1:fc p=true:=by simpa using k1
 have h1:=A2 k1;have hh:=ua k0 h1
 repeat' first
   | exact trivial
   | (refine Ob.mk (by decide) ?_; cbv)
   | (refine Ob.mk (hh.1) ?_; cbv)
   | (refine af.by hP (SG (bQ w p) p (kI (bQ w p) p) rfl) ?_; cbv)
   | (refine Pz.mk ?_; cbv) | (refine aW.mk ?_ (by kernel_rfl) ?_; rotate_left; cbv; rotate_right) | refine⟨rfl, ?_⟩ | refine And.intro ?_ ?_ | exact rfl | fail
 refine Br.dec (fun h2=> ?_) (fun h2=> ?_) <;> cbv
 · have h2:kI (bQ w p) p<0:=h2;have e:=vV hx hb (by rw[vW k0 h1]; exact decide_eq_false (by omega));have ex:x=w:=e.1;obtain rfl:b=false:=e.2;have SK:w.set (fN p) (bQ w p)=x:=by rw[ex]; exact SI hh.2
   repeat' first
    | exact trivial
    | (refine⟨SK, ?_⟩)
    | (refine Pz.mk ?_; cbv) | (refine aW.mk ?_ (by kernel_rfl) ?_; rotate_left; cbv; rotate_right) | refine⟨rfl, ?_⟩ | refine And.intro ?_ ?_ | exact rfl | fail
 have h2:¬kI (bQ w p) p<0:=h2;rcases iC (fun q:aC=>decide (q=p)) (bQ w p) with⟨e,_⟩ | ⟨i,hi,e,_,_⟩
 · have:kI (bQ w p) p = -1:=e;omega
 have e:kI (bQ w p) p=(i:Int):=e;have eb:ij w p=true:=by rw[vW k0 h1]; exact decide_eq_true (by omega)
 obtain rfl:b=true:=hb.trans eb;have ex:w.set (fN p) ((bQ w p).take i++(bQ w p).drop (i+1))=x:=(E4 e eb).trans hx.symm;have hf:(bQ w p).length≤10:=vU k0 hh.2;rw[e];cbv
 repeat' first
   | exact trivial
   | (refine Ob.mk (by decide) ?_; cbv)
   | (refine Ar.exact (by(try simp only[nc] at *); omega) (by(try simp only[nc] at *); omega) ?_; cbv)
   | (refine Ob.mk (hh.1) ?_; cbv)
   | (refine aD.by hP (Sm (bQ w p) i hi) ?_; cbv)
   | (refine Sv.mk (fun _=>x) (ex) ?_; cbv)
   | (refine Pz.mk ?_; cbv) | (refine aW.mk ?_ (by kernel_rfl) ?_; rotate_left; cbv; rotate_right) | refine⟨rfl, ?_⟩ | refine And.intro ?_ ?_ | exact rfl | fail
set_option maxHeartbeats 1000000 in
theorem K7 (w:List (List aC)) (p:aC) (hw:kC w) (x:List (List aC)) (hx:x=ik w p) (b:Bool) (hb:b=ij w p):Spec Tryz.prog 253 [jE w,eA .aI p] (aG (.aS [(true,[.own .cE fun _=>x]),(false,[.bool fun _=>b])])):=by
 refine aF au Tryz.func253 rfl rfl (fr:=true) (fun _=>by kernel_rfl) fun P hP hA=> ?_;cbv;refine af.by hP (AP w hw) ?_;cbv;refine af.by hP (tX w (dE.small hw) (bw w) rfl) ?_;cbv;refine Br.split (fun k0=> ?_) (fun k0=> ?_) <;> cbv
 · have k0:(!bw w)=true:=k0;have k0:bw w=false:=by simpa using k0
   have e:=vV hx hb (by rw[ij,k0]; rfl);obtain rfl:x=w:=e.1;obtain rfl:b=false:=e.2
   repeat' first | exact trivial | refine⟨rfl, ?_⟩ | fail
 have k0:(!bw w)=false:=k0;have k0:bw w=true:=by simpa using k0
 refine Br.dec (fun h1=> ?_) (fun h1=> ?_) <;> cbv
 · have h1:p.tm<1:=h1;have e:=vV hx hb (by rw[ij,k0,decide_eq_false (by omega:¬1≤p.tm)]; rfl);obtain rfl:x=w:=e.1;obtain rfl:b=false:=e.2
   repeat' first | exact trivial | refine⟨rfl, ?_⟩ | fail
 have h1:¬p.tm<1:=h1;have h1:1≤p.tm:=by omega
 have hh:=ua k0 h1;have hg:=SH hh.2;have hf:(bQ w p).length≤10:=vU k0 hh.2;generalize hl:bQ w p=l at hg hf
 repeat' first
   | exact trivial
   | (refine Ob.mk (by decide) ?_; cbv)
   | (refine Pz.mk ?_; cbv) | (refine aW.mk ?_ (by kernel_rfl) ?_; rotate_left; cbv; rotate_right) | refine⟨rfl, ?_⟩ | refine And.intro ?_ ?_ | exact rfl | fail
 refine aR.by (X:=Nat) (fun i=>[(2,pN 0),(3,pN 1),(4,pN 2),(6,pN 3),(7,iT fun _=>p.tm.tmod 9),(8,nT fun _=>i)]) (fun _=>[(0, .box [.lf (.list .cE fun _=>w)]),(1, .box ((bY .aI fun _=>p).map .lf)),(2, .box [.nil]),(3, .box [.own 4]),(4,aH .cE fun _=>w)]) (fun i=>i≤l.length∧∀(j:Nat) y,j<i→l[j]? = some y→decide (y=p)=false) (fun i _=>l.length - i) 0 ⟨Nat.zero_le _,fun j y hj=>by omega⟩ ?_ ?_
 · cbv
   repeat' first | exact trivial | refine⟨rfl, ?_⟩ | fail
 · intro i ⟨hi,hn⟩;cbv
   repeat' first
     | exact trivial
     | (refine Ix.mk (l) (hh.1.1) (hg) ?_; cbv)
     | (refine Pz.mk ?_; cbv) | (refine aW.mk ?_ (by kernel_rfl) ?_; rotate_left; cbv; rotate_right) | refine⟨rfl, ?_⟩ | refine And.intro ?_ ?_ | exact rfl | fail
   refine Br.dec (fun h2=> ?_) (fun h2=> ?_) <;> cbv
   rotate_left
   · have h2:l.length≤i:=by simp at h2; omega
     have e4:kI (bQ w p) p = -1:=by rw[hl]; exact ni (mn h2 hn)
     have e:=vV hx hb (by rw[vW k0 h1,e4]; rfl);obtain rfl:x=w:=e.1;obtain rfl:b=false:=e.2
     repeat' first | exact trivial | refine⟨rfl, ?_⟩ | fail
   have h2:i<l.length:=by simpa using h2
   repeat' first
     | exact trivial
     | (refine Ix.mk (l) (hh.1.1) (hg) ?_; cbv)
     | (refine Ix.mk l[i] (by simp) (get_cast l h2) ?_; cbv)
     | (refine Pz.mk ?_; cbv) | (refine aW.mk ?_ (by kernel_rfl) ?_; rotate_left; cbv; rotate_right) | refine⟨rfl, ?_⟩ | refine And.intro ?_ ?_ | exact rfl | fail
   refine Br.split (fun h3=> ?_) (fun h3=> ?_) <;> cbv
   · have h3:l[i]=p:=K0.2 (by simp at h3; exact h3);have e:kI (bQ w p) p=(i:Int):=by rw[hl]; exact nh (p:=fun y:aC=>decide (y=p)) h2 (decide_eq_true h3) hn
     have eb:ij w p=true:=by rw[vW k0 h1]; exact decide_eq_true (by omega)
     obtain rfl:b=true:=hb.trans eb;have ex:=(E4 e eb).trans hx.symm;rw[hl] at ex;have o1:0≤(0:Int)∧(0:Int)≤(i:Int)∧(i:Int)≤(l.length:Int):=⟨by omega,by omega,by omega⟩
     have o2:(([]:List aC).length+((l.take ((i:Int)).toNat).drop ((0:Int)).toNat).length)*16≤140737488355328:=by
       rw[List.length_drop,List.length_take]; simp only[List.length_nil]; omega
     have o3:0≤(i:Int)+1∧(i:Int)+1≤(l.length:Int)∧(l.length:Int)≤(l.length:Int):=⟨by omega,by omega,by omega⟩
     have o4:(([]++(l.take ((i:Int)).toNat).drop ((0:Int)).toNat:List aC).length+((l.take ((l.length:Int)).toNat).drop ((i:Int)+1).toNat).length)*16≤140737488355328:=by
       rw[List.length_append,List.length_drop,List.length_take,List.length_drop,List.length_take]; simp only[List.length_nil]; omega
     have fin:w.set (p.tm.tmod 9).toNat ([]++(l.take ((i:Int)).toNat).drop ((0:Int)).toNat++(l.take ((l.length:Int)).toNat).drop ((i:Int)+1).toNat)=x:=by
       rw[←ex,show((i:Int)+1).toNat=i+1 by omega]; simp[fN]
     repeat' first
       | exact trivial
       | (refine Ob.mk (o1) ?_; cbv)
       | (refine Ob.mk (o3) ?_; cbv)
       | (refine Ob.mk (o2) ?_; cbv)
       | (refine Ob.mk (o4) ?_; cbv)
       | (refine Ob.mk (hh.1) ?_; cbv)
       | (refine Ix.mk (l) (hh.1.1) (hg) ?_; cbv)
       | (refine Ar.exact (by(try simp only[nc] at *); omega) (by(try simp only[nc] at *); omega) ?_; cbv)
       | (refine Sv.mk (fun _=>x) (fin) ?_; cbv)
       | (refine Pz.mk ?_; cbv) | (refine aW.mk ?_ (by kernel_rfl) ?_; rotate_left; cbv; rotate_right) | refine⟨rfl, ?_⟩ | refine And.intro ?_ ?_ | exact rfl | fail
   · have h3:¬l[i]=p:=fun h=>by rw[h] at h3; simp at h3
     refine Ar.exact (by(try simp only[nc] at *); omega) (by(try simp only[nc] at *); omega) ?_;cbv;refine aL.by (i+1) ?_ ?_ ?_
     · show l.length - (i+1)<l.length - i;omega
     · exact⟨h2,gN h2 hn (decide_eq_false h3)⟩
     · cbv
       repeat' first | exact trivial | refine⟨rfl, ?_⟩ | fail
theorem ub {w:List (List aC)} {p:aC} {x:List (List aC)} {b:Bool} (hx:x=kJ w p) (hb:b=gq w p) (e:gq w p=false):x=w∧b=false:=⟨hx.trans (if_neg (by rw[e]; simp)),hb.trans e⟩
theorem SL {w:List (List aC)} {p:aC} (k0:bw w=true) (k1:fc p=false):gq w p=false:=by
 by_cases h1:1≤p.tm
 · obtain⟨_,hk⟩:=ua k0 h1;rw[gq,show bw (eE w p)=false from SF k1 hk]; simp
 · rw[gq,k0,decide_eq_false h1]; rfl
set_option maxHeartbeats 1000000 in
theorem K8 (w:List (List aC)) (p:aC) (hw:kC w) (x:List (List aC)) (hx:x=kJ w p) (b:Bool) (hb:b=gq w p):Spec Tryz.prog 148 [jE w,eA .aI p] (aG (.aS [(true,[.own .cE fun _=>x]),(false,[.bool fun _=>b])])):=by
 refine aF au Tryz.func148 rfl rfl (fr:=true) (fun _=>by kernel_rfl) fun P hP hA=> ?_;cbv;refine af.by hP (AP w hw) ?_;cbv;refine af.by hP (tX w (dE.small hw) (bw w) rfl) ?_;cbv;refine Br.split (fun k0=> ?_) (fun k0=> ?_) <;> cbv
 · have k0:(!bw w)=true:=k0;have k0:bw w=false:=by simpa using k0
   have e:=ub hx hb (by rw[gq,k0]; rfl);obtain rfl:x=w:=e.1;obtain rfl:b=false:=e.2
   repeat' first | exact trivial | refine⟨rfl, ?_⟩ | fail
 have k0:(!bw w)=false:=k0;have k0:bw w=true:=by simpa using k0
 refine Br.dec (fun h1=> ?_) (fun h1=> ?_) <;> cbv
 · have h1:p.tm<1:=h1;have e:=ub hx hb (by rw[gq,k0,decide_eq_false (by omega:¬1≤p.tm)]; rfl);obtain rfl:x=w:=e.1;obtain rfl:b=false:=e.2
   repeat' first | exact trivial | refine⟨rfl, ?_⟩ | fail
 have h1:¬p.tm<1:=h1;have h1:1≤p.tm:=by omega
 have hh:=ua k0 h1;have hf:(bQ w p).length≤10:=vU k0 hh.2;have si:kC (eE w p):=K6 k0 hh.2
 repeat' first
   | exact trivial
   | (refine Ob.mk (by decide) ?_; cbv)
   | (refine Ob.mk (hh.1) ?_; cbv)
   | (refine af.by hP (Eo (bQ w p) p (by show _≤1048576; omega)) ?_; cbv)
   | (refine Sv.mk (fun _=>eE w p) (rfl) ?_; cbv)
   | (refine af.by hP (tX (eE w p) (dE.small si) (bw (eE w p)) rfl) ?_; cbv)
   | (refine Pz.mk ?_; cbv) | (refine aW.mk ?_ (by kernel_rfl) ?_; rotate_left; cbv; rotate_right) | refine⟨rfl, ?_⟩ | refine And.intro ?_ ?_ | exact rfl | fail
 all_goals
   refine Br.split (fun k2=> ?_) (fun k2=> ?_) <;> cbv
   · have k2:(!bw (eE w p))=true:=k2;have k2:bw (eE w p)=false:=by simpa using k2
     have e:=ub hx hb (by rw[gq,k2]; simp);obtain rfl:x=w:=e.1;obtain rfl:b=false:=e.2;refine af.by hP (AP x hw) ?_;cbv
     repeat' first | exact trivial | refine⟨rfl, ?_⟩ | fail
   have k2:(!bw (eE w p))=false:=k2;have k2:bw (eE w p)=true:=by simpa using k2
   have eb:gq w p=true:=by rw[gq,k0,k2,decide_eq_true h1]; rfl
   obtain rfl:b=true:=hb.trans eb;obtain rfl:x=eE w p:=hx.trans (if_pos eb)
   repeat' first | exact trivial | refine⟨rfl, ?_⟩ | fail
set_option maxHeartbeats 2000000 in
theorem SM (w:List (List aC)) (p:aC) (hw:kC w) (x:List (List aC)) (hx:x=kJ w p) (b:Bool) (hb:b=gq w p):Spec Tryz.prog 136 [jE w,eA .aI p] (aG (.aS [(true,[.own .cE fun _=>x]),(false,[.bool fun _=>b])])):=by
 refine aF au Tryz.func136 rfl rfl (fr:=true) (fun _=>by kernel_rfl) fun P hP hA=> ?_;cbv;refine af.by hP (yf w hw) ?_;cbv;refine af.by hP (sy w (dE.small hw) (bw w) rfl) ?_;cbv;refine Br.split (fun k0=> ?_) (fun k0=> ?_) <;> cbv
 · have k0:(!bw w)=true:=k0;have k0:bw w=false:=by simpa using k0
   have e:=ub hx hb (by rw[gq,k0]; rfl);obtain rfl:x=w:=e.1;obtain rfl:b=false:=e.2
   repeat' first | exact trivial | refine⟨rfl, ?_⟩ | fail
 have k0:(!bw w)=false:=k0;have k0:bw w=true:=by simpa using k0
 refine af.by hP (Ed p) ?_;cbv;refine Br.split (fun k1=> ?_) (fun k1=> ?_) <;> cbv
 · have k1:(!fc p)=true:=k1;have k1:fc p=false:=by simpa using k1
   have e:=ub hx hb (SL k0 k1);obtain rfl:x=w:=e.1;obtain rfl:b=false:=e.2
   repeat' first | exact trivial | refine⟨rfl, ?_⟩ | fail
 have k1:(!fc p)=false:=k1;have k1:fc p=true:=by simpa using k1
 have h1:=A2 k1;have hh:=ua k0 h1;have hf:(bQ w p).length≤10:=vU k0 hh.2;have si:kC (eE w p):=K6 k0 hh.2
 have ins:∀i,i≤(bQ w p).length→(∀(j:Nat) y,j<i→(bQ w p)[j]? = some y→bu y p=true)→(∀y,(bQ w p)[i]? = some y→bu y p=false)→w.set (p.tm.tmod 9).toNat ((bQ w p).take i++p::(bQ w p).drop i)=eE w p:=fun i _ h1 h2=>by
   rw[eE,Cr h1 h2]; rfl
 repeat' first
   | exact trivial
   | (refine Ob.mk (by decide) ?_; cbv)
   | (refine Ob.mk (hh.1) ?_; cbv)
   | (refine Pz.mk ?_; cbv) | (refine aW.mk ?_ (by kernel_rfl) ?_; rotate_left; cbv; rotate_right) | refine⟨rfl, ?_⟩ | refine And.intro ?_ ?_ | exact rfl | fail
 refine aR.by (X:=Nat) (fun i=>[(2,pN 0),(3,pN 1),(4,pN 2),(6,pN 3),(7,oN 5),(8,nT fun _=>i)]) (fun _=>[(0, .box [.lf (.list .cE fun _=>w)]),(1, .box ((bY .aI fun _=>p).map .lf)),(2, .box [.nil]),(3, .box [.own 4]),(4, .ck .cE (fun _=>w) (fun _=>(p.tm.tmod 9).toNat) [some 5]),(5,aH .aI fun _=>bQ w p)]) (fun i=>i≤(bQ w p).length∧∀(j:Nat) y,j<i→(bQ w p)[j]? = some y→bu y p=true) (fun i _=>(bQ w p).length - i) 0 ⟨Nat.zero_le _,fun j y hj=>by omega⟩ ?_ ?_
 · cbv
   repeat' first | exact trivial | refine⟨rfl, ?_⟩ | fail
 · intro i ⟨hi,hp⟩;cbv;refine Br.dec (fun h2=> ?_) (fun h2=> ?_) <;> cbv
   · have h2 :i<(bQ w p).length:=by simpa using h2
     have oi:0≤(i:Int)∧(i:Int)<((bQ w p).length:Int):=by omega
     have gi:(bQ w p).getD ((i:Int)).toNat default=(bQ w p)[i]:=by rw[Int.toNat_natCast,List.getD_eq_getElem?_getD,List.getElem?_eq_getElem h2]; rfl
     repeat' first
       | exact trivial
       | (refine Ob.mk (oi) ?_; cbv)
       | (refine af.by hP (Ec ((bQ w p).getD ((i:Int)).toNat default) p) ?_; cbv)
       | (refine Pz.mk ?_; cbv) | (refine aW.mk ?_ (by kernel_rfl) ?_; rotate_left; cbv; rotate_right) | refine⟨rfl, ?_⟩ | refine And.intro ?_ ?_ | exact rfl | fail
     refine Br.dec (fun h3=> ?_) (fun h3=> ?_) <;> cbv
     · have h3:(if bu ((bQ w p).getD ((i:Int)).toNat default) p=true then(-1:Int) else if bu p ((bQ w p).getD ((i:Int)).toNat default)=true then 1 else 0)<0:=h3;rw[gi] at h3
       have h3:bu (bQ w p)[i] p=true:=by
         cases q:bu (bQ w p)[i] p with
         | true=>rfl
         | false=>
           rw[q] at h3;simp only[Bool.false_eq_true,if_false] at h3
           split at h3 <;> omega
       refine Ar.exact (by(try simp only[nc] at *); omega) (by(try simp only[nc] at *); omega) ?_;cbv;refine aL.by (i+1) ?_ ?_ ?_
       · show(bQ w p).length - (i+1)<(bQ w p).length - i;omega
       · exact⟨h2,gN h2 hp h3⟩
       · cbv
         repeat' first | exact trivial | refine⟨rfl, ?_⟩ | fail
     · have h3:¬(if bu ((bQ w p).getD ((i:Int)).toNat default) p=true then(-1:Int) else if bu p ((bQ w p).getD ((i:Int)).toNat default)=true then 1 else 0)<0:=h3;rw[gi] at h3
       have h3:bu (bQ w p)[i] p=false:=by
         cases q:bu (bQ w p)[i] p with
         | false=>rfl
         | true=>
           rw[q] at h3;simp only[if_true] at h3;omega
       have ei:=ins i hi hp fun y hy=>by
         rw[List.getElem?_eq_getElem h2] at hy; cases hy; exact h3
       repeat' first
         | exact trivial
         | (refine Ob.mk (by decide) ?_; cbv)
         | (refine Ob.mk (hh.1) ?_; cbv)
         | (refine aD.by hP (KU (bQ w p) p i hi (by show _≤1048576; omega)) ?_; cbv)
         | (refine Sv.mk (fun _=>eE w p) (ei) ?_; cbv)
         | (refine af.by hP (sy (eE w p) (dE.small si) (bw (eE w p)) rfl) ?_; cbv)
         | (refine Pz.mk ?_; cbv) | (refine aW.mk ?_ (by kernel_rfl) ?_; rotate_left; cbv; rotate_right) | refine⟨rfl, ?_⟩ | refine And.intro ?_ ?_ | exact rfl | fail
       all_goals
         refine Br.split (fun k2=> ?_) (fun k2=> ?_) <;> cbv
         · have k2:(!bw (eE w p))=true:=k2;have k2:bw (eE w p)=false:=by simpa using k2
           have e:=ub hx hb (by rw[gq,k2]; simp);obtain rfl:x=w:=e.1;obtain rfl:b=false:=e.2;refine af.by hP (yf x hw) ?_;cbv
           repeat' first | exact trivial | refine⟨rfl, ?_⟩ | fail
         have k2:(!bw (eE w p))=false:=k2;have k2:bw (eE w p)=true:=by simpa using k2
         have eb:gq w p=true:=by rw[gq,k0,k2,decide_eq_true h1]; rfl
         obtain rfl:b=true:=hb.trans eb;obtain rfl:x=eE w p:=hx.trans (if_pos eb)
         repeat' first | exact trivial | refine⟨rfl, ?_⟩ | fail
   · have h2:(bQ w p).length≤i:=by simp at h2; omega
     have ei:=ins i hi hp fun y hy=>by
       rw[List.getElem?_eq_none h2] at hy; cases hy
     repeat' first
       | exact trivial
       | (refine Ob.mk (by decide) ?_; cbv)
       | (refine Ob.mk (hh.1) ?_; cbv)
       | (refine aD.by hP (KU (bQ w p) p i hi (by show _≤1048576; omega)) ?_; cbv)
       | (refine Sv.mk (fun _=>eE w p) (ei) ?_; cbv)
       | (refine af.by hP (sy (eE w p) (dE.small si) (bw (eE w p)) rfl) ?_; cbv)
       | (refine Pz.mk ?_; cbv) | (refine aW.mk ?_ (by kernel_rfl) ?_; rotate_left; cbv; rotate_right) | refine⟨rfl, ?_⟩ | refine And.intro ?_ ?_ | exact rfl | fail
     all_goals
       refine Br.split (fun k2=> ?_) (fun k2=> ?_) <;> cbv
       · have k2:(!bw (eE w p))=true:=k2;have k2:bw (eE w p)=false:=by simpa using k2
         have e:=ub hx hb (by rw[gq,k2]; simp);obtain rfl:x=w:=e.1;obtain rfl:b=false:=e.2;refine af.by hP (yf x hw) ?_;cbv
         repeat' first | exact trivial | refine⟨rfl, ?_⟩ | fail
       have k2:(!bw (eE w p))=false:=k2;have k2:bw (eE w p)=true:=by simpa using k2
       have eb:gq w p=true:=by rw[gq,k0,k2,decide_eq_true h1]; rfl
       obtain rfl:b=true:=hb.trans eb;obtain rfl:x=eE w p:=hx.trans (if_pos eb)
       repeat' first | exact trivial | refine⟨rfl, ?_⟩ | fail
end Go.Proofs.YtpklefhdkkegiaaGreat

