/- Parts of a proof. No conditions. -/

import Derived.Test.YtpklefhdkkegiaaGreatG19
import Derived.Test.YtpklefhdkkegiaaGreatG18
import Derived.Test.YtpklefhdkkegiaaGreatG22
set_option linter.unusedSimpArgs false
set_option linter.unusedVariables false
namespace Go.Proofs.YtpklefhdkkegiaaGreat
open Go
set_option maxRecDepth 100000
def jW (l:List ay) (p:ay):Int:=ie (fun q=>decide (q=p)) l
def eZ (p:ay):Nat:=(p.tm.tmod 9).toNat
def bG (w:List (List ay)) (p:ay):List ay:=w.getD (eZ p) []
def i_ (w:List (List ay)) (p:ay):Bool:=bu w && (decide (1≤p.tm) && decide (0≤jW (bG w p) p))
def iK (w:List (List ay)) (p:ay):List (List ay):=if i_ w p=true then w.set (eZ p) (cutAt (bG w p) (jW (bG w p) p)) else w
def dD (w:List (List ay)) (p:ay):List (List ay):=w.set (eZ p) (bE bf p (bG w p))
def fy (w:List (List ay)) (p:ay):Bool:=bu w && (decide (1≤p.tm) && bu (dD w p))
def jt (w:List (List ay)) (p:ay):List (List ay):=if fy w p=true then dD w p else w
theorem On {a b:ay}:a=b↔a.tm=b.tm∧a.pid=b.pid:=by
 constructor
 · rintro rfl; exact⟨rfl,rfl⟩
 · intro⟨h1,h2⟩;cases a; cases b;simp only at h1 h2;subst h1 h2;rfl
theorem wG {w:List (List ay)} (h:bu w=true):jS w:=of_decide_eq_true h
theorem Hq {w:List (List ay)}:bu w=true↔jS w:=⟨wG,fun h=>decide_eq_true h⟩
theorem s7 {w:List (List ay)} (h:bu w=true) {p:ay} (hp:1≤p.tm):(0≤p.tm.tmod 9∧p.tm.tmod 9<(w.length:Int))∧eZ p<w.length:=by
 have h9:=(wG h).len;have h1:0≤p.tm.tmod 9:=Int.tmod_nonneg _ (by omega);have h2:p.tm.tmod 9<9:=Int.tmod_lt_of_pos _ (by omega);have e:eZ p=(p.tm.tmod 9).toNat:=rfl;omega
theorem Hr {w:List (List ay)} {k:Nat} {l:List ay} (hk:w[k]? = some l) {q:ay} (hq:q∈l):q∈a_ w:=List.mem_flatten.2 ⟨l,List.mem_of_getElem? hk,hq⟩
theorem Hs {α:Type} {l:List α} {d:α} {k:Nat} (h:k<l.length):l[k]? = some (l.getD k d):=by
 rw[List.getD_eq_getElem?_getD,List.getElem?_eq_getElem h]; rfl
theorem Oo {w:List (List ay)} (h:bu w=true) {p:ay} (hp:dX p=false) {k:Nat} (hk:k<w.length):jW (w.getD k []) p<0:=by
 rcases iC (fun q:ay=>decide (q=p)) (w.getD k []) with⟨e,_⟩ | ⟨i,hi,_,e,_⟩
 · have e:jW (w.getD k []) p = -1:=e;omega
 · have e:(w.getD k [])[i]=p:=of_decide_eq_true e;have h1:=(wG h).ok p (Hr (Hs hk) (e▸List.getElem_mem hi));rw[hp] at h1; cases h1
theorem vI {w:List (List ay)} (h:bu w=true) {k:Nat} (hk:k<w.length):(w.getD k []).length≤10:=by
 have h1:=(wG h).dy
 have h2:∀{w:List (List ay)} {l:List ay},l∈w→l.length≤w.flatten.length:=by
  intro w l hl
  induction w with
  | nil=>cases hl
  | cons a w ih=>
    simp only[List.flatten_cons,List.length_append];rcases List.mem_cons.1 hl with rfl | hl
    · omega
    · have:=ih hl; omega
 exact Nat.le_trans (h2 (List.mem_of_getElem? (Hs hk))) h1
theorem Ht {w:List (List ay)} (h:bu w=true) {p:ay} {k:Nat} (hk:k<w.length):jO (w.set k (bE bf p (w.getD k []))):=by
 have h9:=(wG h).len;refine⟨by rw[List.length_set]; show _≤1048576; omega,fun x hx=> ?_⟩;rcases List.mem_or_eq_of_mem_set hx with q | rfl
 · obtain⟨j,hj⟩:=List.mem_iff_getElem?.1 q;have:=vI h (bD hj);rw[List.getD_eq_getElem?_getD,hj] at this;have this:x.length≤10:=this;show _≤1048576; omega
 · rw[tX];have:=vI h hk;show _≤1048576; omega
theorem Oq {w:List (List ay)} {p:ay} (hp:dX p=false) {k:Nat} (hk:k<w.length):bu (w.set k (bE bf p (w.getD k [])))=false:=by
 cases hb:bu (w.set k (bE bf p (w.getD k []))) with
 | false=>rfl
 | true=>
   have h1:=(wG hb).ok p (Hr (k:=k) (l:=bE bf p (w.getD k [])) (by rw[List.getElem?_set]; simp[hk]) (qK.2 (.inl rfl)));rw[hp] at h1; cases h1
theorem eY.small {w:List (List ay)} (h:jO w):eY w:=eY.of h.1 h.2
theorem Ot (a:List ay) (v:ay) (x:Int) (hx:x=jW a v):Spec Tryz.prog 232 [lA .aI a,eA .aI v] (aM (iR fun _=>x)):=by
 refine aN aD Tryz.func232 rfl rfl (fr:=true) (fun _=>by kernel_rfl) fun P hP hA=> ?_;obtain⟨⟨ha,_⟩,_⟩:=hA;have ha:a.length≤9223372036854775807:=ha;cbv;refine aW.by (X:=Nat) (fun i=>[(0,lA .aI a),(3,pN 0),(7,nT fun _=>a.length),(8,nT fun _=>i)]) (fun _=>[(0, .box ((bH .aI fun _=>v).map .lf))]) (fun i=>i≤a.length∧∀(j:Nat) y,j<i→a[j]? = some y→decide (y=v)=false) (fun i _=>a.length - i) 0 ⟨Nat.zero_le _,fun j y hj=>by omega⟩ ?_ ?_
 · cbv
   repeat' first | exact trivial | refine⟨rfl, ?_⟩ | fail
 · intro i ⟨hi,hn⟩;cbv;refine Br.dec (fun h2=> ?_) (fun h2=> ?_) <;> cbv
   · have h2:i<a.length:=by simpa using h2
     refine⟨a[i],by simp,get_cast a h2, ?_⟩;cbv;refine Br.split (fun h3=> ?_) (fun h3=> ?_) <;> cbv
     · have h3:a[i]=v:=On.2 (by simp at h3; exact⟨h3.1.symm,h3.2.symm⟩);refine⟨?_,trivial⟩;exact(hx.trans (m7 (p:=fun y:ay=>decide (y=v)) h2 (decide_eq_true h3) hn)).symm
     · have h3:¬a[i]=v:=fun h=>by rw[h] at h3; simp at h3
       refine Ar.exact (by(try simp only[nc] at *); omega) (by(try simp only[nc] at *); omega) ?_;cbv;refine aO.by (i+1) ?_ ?_ ?_
       · show a.length - (i+1)<a.length - i;omega
       · exact⟨h2,gy h2 hn (decide_eq_false h3)⟩
       · cbv
         repeat' first | exact trivial | refine⟨rfl, ?_⟩ | fail
   · have h2:a.length≤i:=by simp at h2; omega
     refine⟨?_,trivial⟩;exact(hx.trans (m8 (ma h2 hn))).symm
theorem Ou {w:List (List ay)} {p:ay} (hk:eZ p<w.length):w.set (eZ p) (bG w p)=w:=by
 have e:bG w p=w[eZ p]:=by
  show w.getD (eZ p) []=_;rw[List.getD_eq_getElem?_getD,List.getElem?_eq_getElem hk]; rfl
 rw[e]; exact List.set_getElem_self hk
theorem xV {p:ay} (k1:dX p=true):1≤p.tm:=by
 simp only[dX,Bool.and_eq_true] at k1;exact(bF k1.1).1
theorem BP {w:List (List ay)} {p:ay} {x:List (List ay)} {b:Bool} (hx:x=iK w p) (hb:b=i_ w p) (e:i_ w p=false):x=w∧b=false:=⟨hx.trans (if_neg (by rw[e]; simp)),hb.trans e⟩
theorem Hu {w:List (List ay)} {p:ay} {i:Nat} (e:jW (bG w p) p=(i:Int)) (eb:i_ w p=true):w.set (eZ p) ((bG w p).take i++(bG w p).drop (i+1))=iK w p:=by
 rw[iK,if_pos eb,cutAt,e,if_neg (by omega),Int.toNat_natCast]
theorem xW {w:List (List ay)} {p:ay} (k0:bu w=true) (h1:1≤p.tm):i_ w p=decide (0≤jW (bG w p) p):=by
 rw[i_,k0,decide_eq_true h1]; rfl
theorem Ov {w:List (List ay)} {p:ay} (k0:bu w=true) (k1:dX p=false):i_ w p=false:=by
 by_cases h1:1≤p.tm
 · obtain⟨_,hk⟩:=s7 k0 h1;rw[xW k0 h1];have:=Oo k0 k1 hk;exact decide_eq_false (by show¬0≤jW (w.getD (eZ p) []) p; omega)
 · rw[i_,k0,decide_eq_false h1]; rfl
set_option maxHeartbeats 1000000 in
theorem xX (w:List (List ay)) (p:ay) (hw:jO w) (x:List (List ay)) (hx:x=iK w p) (b:Bool) (hb:b=i_ w p):Spec Tryz.prog 164 [lh w,eA .aI p] (aM (.ba [(true,[.own .cw fun _=>x]),(false,[.bool fun _=>b])])):=by
 refine aN aD Tryz.func164 rfl rfl (fr:=true) (fun _=>by kernel_rfl) fun P hP hA=> ?_;cbv;refine ag.by hP (vr w hw) ?_;cbv;refine ag.by hP (sQ w (eY.small hw) (bu w) rfl) ?_;cbv;refine Br.split (fun k0=> ?_) (fun k0=> ?_) <;> cbv
 · have k0:(!bu w)=true:=k0;have k0:bu w=false:=by simpa using k0
   have e:=BP hx hb (by rw[i_,k0]; rfl);obtain rfl:x=w:=e.1;obtain rfl:b=false:=e.2
   repeat' first | exact trivial | refine⟨rfl, ?_⟩ | fail
 have k0:(!bu w)=false:=k0;have k0:bu w=true:=by simpa using k0
 refine ag.by hP (A_ p) ?_;cbv;refine Br.split (fun k1=> ?_) (fun k1=> ?_) <;> cbv
 · have k1:(!dX p)=true:=k1;have k1:dX p=false:=by simpa using k1
   have e:=BP hx hb (Ov k0 k1);obtain rfl:x=w:=e.1;obtain rfl:b=false:=e.2
   repeat' first | exact trivial | refine⟨rfl, ?_⟩ | fail
 have k1:(!dX p)=false:=k1;have k1:dX p=true:=by simpa using k1
 have h1:=xV k1;have hh:=s7 k0 h1
 repeat' first
   | exact trivial
   | (refine Ob.mk (by decide) ?_; cbv)
   | (refine Ob.mk (hh.1) ?_; cbv)
   | (refine ag.by hP (Ot (bG w p) p (jW (bG w p) p) rfl) ?_; cbv)
   | (refine Pz.mk ?_; cbv) | (refine bp.mk ?_ (by kernel_rfl) ?_; rotate_left; cbv; rotate_right) | refine⟨rfl, ?_⟩ | refine And.intro ?_ ?_ | exact rfl | fail
 refine Br.dec (fun h2=> ?_) (fun h2=> ?_) <;> cbv
 · have h2:jW (bG w p) p<0:=h2;have e:=BP hx hb (by rw[xW k0 h1]; exact decide_eq_false (by omega));have ex:x=w:=e.1;obtain rfl:b=false:=e.2;have Ow:w.set (eZ p) (bG w p)=x:=by rw[ex]; exact Ou hh.2
   repeat' first
    | exact trivial
    | (refine⟨Ow, ?_⟩)
    | (refine Pz.mk ?_; cbv) | (refine bp.mk ?_ (by kernel_rfl) ?_; rotate_left; cbv; rotate_right) | refine⟨rfl, ?_⟩ | refine And.intro ?_ ?_ | exact rfl | fail
 have h2:¬jW (bG w p) p<0:=h2;rcases iC (fun q:ay=>decide (q=p)) (bG w p) with⟨e,_⟩ | ⟨i,hi,e,_,_⟩
 · have:jW (bG w p) p = -1:=e;omega
 have e:jW (bG w p) p=(i:Int):=e;have eb:i_ w p=true:=by rw[xW k0 h1]; exact decide_eq_true (by omega)
 obtain rfl:b=true:=hb.trans eb;have ex:w.set (eZ p) ((bG w p).take i++(bG w p).drop (i+1))=x:=(Hu e eb).trans hx.symm;have hf:(bG w p).length≤10:=vI k0 hh.2;rw[e];cbv
 repeat' first
   | exact trivial
   | (refine Ob.mk (by decide) ?_; cbv)
   | (refine Ar.exact (by(try simp only[nc] at *); omega) (by(try simp only[nc] at *); omega) ?_; cbv)
   | (refine Ob.mk (hh.1) ?_; cbv)
   | (refine aJ.by hP (N6 (bG w p) i hi) ?_; cbv)
   | (refine Sv.mk (fun _=>x) (ex) ?_; cbv)
   | (refine Pz.mk ?_; cbv) | (refine bp.mk ?_ (by kernel_rfl) ?_; rotate_left; cbv; rotate_right) | refine⟨rfl, ?_⟩ | refine And.intro ?_ ?_ | exact rfl | fail
theorem rz {w:List (List ay)} {p:ay} {x:List (List ay)} {b:Bool} (hx:x=jt w p) (hb:b=fy w p) (e:fy w p=false):x=w∧b=false:=⟨hx.trans (if_neg (by rw[e]; simp)),hb.trans e⟩
theorem Ox {w:List (List ay)} {p:ay} (k0:bu w=true) (k1:dX p=false):fy w p=false:=by
 by_cases h1:1≤p.tm
 · obtain⟨_,hk⟩:=s7 k0 h1;rw[fy,show bu (dD w p)=false from Oq k1 hk]; simp
 · rw[fy,k0,decide_eq_false h1]; rfl
set_option maxHeartbeats 1000000 in
theorem Oy (w:List (List ay)) (p:ay) (hw:jO w) (x:List (List ay)) (hx:x=jt w p) (b:Bool) (hb:b=fy w p):Spec Tryz.prog 148 [lh w,eA .aI p] (aM (.ba [(true,[.own .cw fun _=>x]),(false,[.bool fun _=>b])])):=by
 refine aN aD Tryz.func148 rfl rfl (fr:=true) (fun _=>by kernel_rfl) fun P hP hA=> ?_;cbv;refine ag.by hP (GY w hw) ?_;cbv;refine ag.by hP (xK w (eY.small hw) (bu w) rfl) ?_;cbv;refine Br.split (fun k0=> ?_) (fun k0=> ?_) <;> cbv
 · have k0:(!bu w)=true:=k0;have k0:bu w=false:=by simpa using k0
   have e:=rz hx hb (by rw[fy,k0]; rfl);obtain rfl:x=w:=e.1;obtain rfl:b=false:=e.2
   repeat' first | exact trivial | refine⟨rfl, ?_⟩ | fail
 have k0:(!bu w)=false:=k0;have k0:bu w=true:=by simpa using k0
 refine Br.dec (fun h1=> ?_) (fun h1=> ?_) <;> cbv
 · have h1:p.tm<1:=h1;have e:=rz hx hb (by rw[fy,k0,decide_eq_false (by omega:¬1≤p.tm)]; rfl);obtain rfl:x=w:=e.1;obtain rfl:b=false:=e.2
   repeat' first | exact trivial | refine⟨rfl, ?_⟩ | fail
 have h1:¬p.tm<1:=h1;have h1:1≤p.tm:=by omega
 have hh:=s7 k0 h1;have hf:(bG w p).length≤10:=vI k0 hh.2;have si:jO (dD w p):=Ht k0 hh.2
 repeat' first
   | exact trivial
   | (refine Ob.mk (by decide) ?_; cbv)
   | (refine Ob.mk (hh.1) ?_; cbv)
   | (refine ag.by hP (Bj (bG w p) p (by show _≤1048576; omega)) ?_; cbv)
   | (refine Sv.mk (fun _=>dD w p) (rfl) ?_; cbv)
   | (refine ag.by hP (xK (dD w p) (eY.small si) (bu (dD w p)) rfl) ?_; cbv)
   | (refine Pz.mk ?_; cbv) | (refine bp.mk ?_ (by kernel_rfl) ?_; rotate_left; cbv; rotate_right) | refine⟨rfl, ?_⟩ | refine And.intro ?_ ?_ | exact rfl | fail
 all_goals
   refine Br.split (fun k2=> ?_) (fun k2=> ?_) <;> cbv
   · have k2:(!bu (dD w p))=true:=k2;have k2:bu (dD w p)=false:=by simpa using k2
     have e:=rz hx hb (by rw[fy,k2]; simp);obtain rfl:x=w:=e.1;obtain rfl:b=false:=e.2;refine ag.by hP (GY x hw) ?_;cbv
     repeat' first | exact trivial | refine⟨rfl, ?_⟩ | fail
   have k2:(!bu (dD w p))=false:=k2;have k2:bu (dD w p)=true:=by simpa using k2
   have eb:fy w p=true:=by rw[fy,k0,k2,decide_eq_true h1]; rfl
   obtain rfl:b=true:=hb.trans eb;obtain rfl:x=dD w p:=hx.trans (if_pos eb)
   repeat' first | exact trivial | refine⟨rfl, ?_⟩ | fail
set_option maxHeartbeats 2000000 in
theorem Oz (w:List (List ay)) (p:ay) (hw:jO w) (x:List (List ay)) (hx:x=jt w p) (b:Bool) (hb:b=fy w p):Spec Tryz.prog 136 [lh w,eA .aI p] (aM (.ba [(true,[.own .cw fun _=>x]),(false,[.bool fun _=>b])])):=by
 refine aN aD Tryz.func136 rfl rfl (fr:=true) (fun _=>by kernel_rfl) fun P hP hA=> ?_;cbv;refine ag.by hP (vr w hw) ?_;cbv;refine ag.by hP (sQ w (eY.small hw) (bu w) rfl) ?_;cbv;refine Br.split (fun k0=> ?_) (fun k0=> ?_) <;> cbv
 · have k0:(!bu w)=true:=k0;have k0:bu w=false:=by simpa using k0
   have e:=rz hx hb (by rw[fy,k0]; rfl);obtain rfl:x=w:=e.1;obtain rfl:b=false:=e.2
   repeat' first | exact trivial | refine⟨rfl, ?_⟩ | fail
 have k0:(!bu w)=false:=k0;have k0:bu w=true:=by simpa using k0
 refine ag.by hP (A_ p) ?_;cbv;refine Br.split (fun k1=> ?_) (fun k1=> ?_) <;> cbv
 · have k1:(!dX p)=true:=k1;have k1:dX p=false:=by simpa using k1
   have e:=rz hx hb (Ox k0 k1);obtain rfl:x=w:=e.1;obtain rfl:b=false:=e.2
   repeat' first | exact trivial | refine⟨rfl, ?_⟩ | fail
 have k1:(!dX p)=false:=k1;have k1:dX p=true:=by simpa using k1
 have h1:=xV k1;have hh:=s7 k0 h1;have hf:(bG w p).length≤10:=vI k0 hh.2;have si:jO (dD w p):=Ht k0 hh.2
 have ins:∀i,i≤(bG w p).length→(∀(j:Nat) y,j<i→(bG w p)[j]? = some y→bf y p=true)→(∀y,(bG w p)[i]? = some y→bf y p=false)→w.set (p.tm.tmod 9).toNat ((bG w p).take i++p::(bG w p).drop i)=dD w p:=fun i _ h1 h2=>by
   rw[dD,zb h1 h2]; rfl
 repeat' first
   | exact trivial
   | (refine Ob.mk (by decide) ?_; cbv)
   | (refine Ob.mk (hh.1) ?_; cbv)
   | (refine Pz.mk ?_; cbv) | (refine bp.mk ?_ (by kernel_rfl) ?_; rotate_left; cbv; rotate_right) | refine⟨rfl, ?_⟩ | refine And.intro ?_ ?_ | exact rfl | fail
 refine aW.by (X:=Nat) (fun i=>[(2,pN 0),(3,pN 1),(4,pN 2),(6,pN 3),(7,oN 5),(8,nT fun _=>i)]) (fun _=>[(0, .box [.lf (.list .cw fun _=>w)]),(1, .box ((bH .aI fun _=>p).map .lf)),(2, .box [.nil]),(3, .box [.own 4]),(4, .bP .cw (fun _=>w) (fun _=>(p.tm.tmod 9).toNat) [some 5]),(5,aK .aI fun _=>bG w p)]) (fun i=>i≤(bG w p).length∧∀(j:Nat) y,j<i→(bG w p)[j]? = some y→bf y p=true) (fun i _=>(bG w p).length - i) 0 ⟨Nat.zero_le _,fun j y hj=>by omega⟩ ?_ ?_
 · cbv
   repeat' first | exact trivial | refine⟨rfl, ?_⟩ | fail
 · intro i ⟨hi,hp⟩;cbv;refine Br.dec (fun h2=> ?_) (fun h2=> ?_) <;> cbv
   · have h2 :i<(bG w p).length:=by simpa using h2
     have oi:0≤(i:Int)∧(i:Int)<((bG w p).length:Int):=by omega
     have gi:(bG w p).getD ((i:Int)).toNat default=(bG w p)[i]:=by rw[Int.toNat_natCast,List.getD_eq_getElem?_getD,List.getElem?_eq_getElem h2]; rfl
     repeat' first
       | exact trivial
       | (refine Ob.mk (oi) ?_; cbv)
       | (refine ag.by hP (A9 ((bG w p).getD ((i:Int)).toNat default) p) ?_; cbv)
       | (refine Pz.mk ?_; cbv) | (refine bp.mk ?_ (by kernel_rfl) ?_; rotate_left; cbv; rotate_right) | refine⟨rfl, ?_⟩ | refine And.intro ?_ ?_ | exact rfl | fail
     refine Br.dec (fun h3=> ?_) (fun h3=> ?_) <;> cbv
     · have h3:(if bf ((bG w p).getD ((i:Int)).toNat default) p=true then(-1:Int) else if bf p ((bG w p).getD ((i:Int)).toNat default)=true then 1 else 0)<0:=h3;rw[gi] at h3
       have h3:bf (bG w p)[i] p=true:=by
         cases q:bf (bG w p)[i] p with
         | true=>rfl
         | false=>
           rw[q] at h3;simp only[Bool.false_eq_true,if_false] at h3
           split at h3 <;> omega
       refine Ar.exact (by(try simp only[nc] at *); omega) (by(try simp only[nc] at *); omega) ?_;cbv;refine aO.by (i+1) ?_ ?_ ?_
       · show(bG w p).length - (i+1)<(bG w p).length - i;omega
       · exact⟨h2,gy h2 hp h3⟩
       · cbv
         repeat' first | exact trivial | refine⟨rfl, ?_⟩ | fail
     · have h3:¬(if bf ((bG w p).getD ((i:Int)).toNat default) p=true then(-1:Int) else if bf p ((bG w p).getD ((i:Int)).toNat default)=true then 1 else 0)<0:=h3;rw[gi] at h3
       have h3:bf (bG w p)[i] p=false:=by
         cases q:bf (bG w p)[i] p with
         | false=>rfl
         | true=>
           rw[q] at h3;simp only[if_true] at h3;omega
       have ei:=ins i hi hp fun y hy=>by
         rw[List.getElem?_eq_getElem h2] at hy; cases hy; exact h3
       repeat' first
         | exact trivial
         | (refine Ob.mk (by decide) ?_; cbv)
         | (refine Ob.mk (hh.1) ?_; cbv)
         | (refine aJ.by hP (Hj (bG w p) p i hi (by show _≤1048576; omega)) ?_; cbv)
         | (refine Sv.mk (fun _=>dD w p) (ei) ?_; cbv)
         | (refine ag.by hP (sQ (dD w p) (eY.small si) (bu (dD w p)) rfl) ?_; cbv)
         | (refine Pz.mk ?_; cbv) | (refine bp.mk ?_ (by kernel_rfl) ?_; rotate_left; cbv; rotate_right) | refine⟨rfl, ?_⟩ | refine And.intro ?_ ?_ | exact rfl | fail
       all_goals
         refine Br.split (fun k2=> ?_) (fun k2=> ?_) <;> cbv
         · have k2:(!bu (dD w p))=true:=k2;have k2:bu (dD w p)=false:=by simpa using k2
           have e:=rz hx hb (by rw[fy,k2]; simp);obtain rfl:x=w:=e.1;obtain rfl:b=false:=e.2;refine ag.by hP (vr x hw) ?_;cbv
           repeat' first | exact trivial | refine⟨rfl, ?_⟩ | fail
         have k2:(!bu (dD w p))=false:=k2;have k2:bu (dD w p)=true:=by simpa using k2
         have eb:fy w p=true:=by rw[fy,k0,k2,decide_eq_true h1]; rfl
         obtain rfl:b=true:=hb.trans eb;obtain rfl:x=dD w p:=hx.trans (if_pos eb)
         repeat' first | exact trivial | refine⟨rfl, ?_⟩ | fail
   · have h2:(bG w p).length≤i:=by simp at h2; omega
     have ei:=ins i hi hp fun y hy=>by
       rw[List.getElem?_eq_none h2] at hy; cases hy
     repeat' first
       | exact trivial
       | (refine Ob.mk (by decide) ?_; cbv)
       | (refine Ob.mk (hh.1) ?_; cbv)
       | (refine aJ.by hP (Hj (bG w p) p i hi (by show _≤1048576; omega)) ?_; cbv)
       | (refine Sv.mk (fun _=>dD w p) (ei) ?_; cbv)
       | (refine ag.by hP (sQ (dD w p) (eY.small si) (bu (dD w p)) rfl) ?_; cbv)
       | (refine Pz.mk ?_; cbv) | (refine bp.mk ?_ (by kernel_rfl) ?_; rotate_left; cbv; rotate_right) | refine⟨rfl, ?_⟩ | refine And.intro ?_ ?_ | exact rfl | fail
     all_goals
       refine Br.split (fun k2=> ?_) (fun k2=> ?_) <;> cbv
       · have k2:(!bu (dD w p))=true:=k2;have k2:bu (dD w p)=false:=by simpa using k2
         have e:=rz hx hb (by rw[fy,k2]; simp);obtain rfl:x=w:=e.1;obtain rfl:b=false:=e.2;refine ag.by hP (vr x hw) ?_;cbv
         repeat' first | exact trivial | refine⟨rfl, ?_⟩ | fail
       have k2:(!bu (dD w p))=false:=k2;have k2:bu (dD w p)=true:=by simpa using k2
       have eb:fy w p=true:=by rw[fy,k0,k2,decide_eq_true h1]; rfl
       obtain rfl:b=true:=hb.trans eb;obtain rfl:x=dD w p:=hx.trans (if_pos eb)
       repeat' first | exact trivial | refine⟨rfl, ?_⟩ | fail
end Go.Proofs.YtpklefhdkkegiaaGreat

