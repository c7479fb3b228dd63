/- Parts of a proof. No conditions. -/

import Derived.Test.YtpklefhdkkegiaaGreatG31
import Derived.Test.YtpklefhdkkegiaaGreatG33
set_option linter.unusedSimpArgs false
set_option linter.unusedVariables false
namespace Go.Proofs.YtpklefhdkkegiaaGreat
open Go
set_option maxRecDepth 100000
def jc (cR:Int):cf:=⟨7,cR,0,0,0,0⟩
def im (h:al) (cR:Int):Int:=(h.aA[cR.toNat]?).getD 0
def II (h:al) (cR:Int):al:={h with aA:=h.aA.set cR.toNat ((h.todo[0]?).getD 0),todo:=h.todo.drop 1}
def IJ (h:al) (cR:Int):al:={(fB h (im h cR)).1 with aA:=(fB h (im h cR)).1.aA.set cR.toNat (-1)}
def tw (h:al) (cR:Int):al:=if im h cR = -1 then II h cR else IJ h cR
def tz (h:al) (cR:Int):al:=if bx h (jc cR)=0 then tw h cR else h
def qw (h:al) (cR:Int):List Int:=if bx h (jc cR)=0 then(if im h cR = -1 then[] else(fB h (im h cR)).2) else[]
theorem IK (k:Int):∀(n:Nat) {E:al} {ids:List Int},(jb n k E ids).1.aA=E.aA∧(jb n k E ids).1.todo=E.todo∧(jb n k E ids).1.cabins.length=E.cabins.length∧(jb n k E ids).1.rules=E.rules∧(jb n k E ids).1.now=E.now
 | 0,_,_=>⟨rfl,rfl,rfl,rfl,rfl⟩
 | n + 1,E,ids=>by
   unfold jb
   split
   · exact⟨rfl,rfl,rfl,rfl,rfl⟩
   · rename_i hv;obtain⟨_,_,a,b,c,d,e,_⟩:=rE hv;obtain⟨q1,q2,q3,q4,q5⟩:=IK k n (E:=gO E k) (ids:=ids ++ [eh E k]);exact⟨q1.trans e,q2.trans d,q3.trans c,q4.trans a,q5.trans b⟩
theorem Qo {h:al} (hg:HG h) (k:Int):(f_ h k).aA=h.aA∧(f_ h k).todo=h.todo∧(f_ h k).cabins.length=h.cabins.length∧(f_ h k).rules=h.rules∧(f_ h k).now=h.now:=by
 cases hv:ew h k with
 | false=>rw[f_,Cr hv]; exact⟨rfl,rfl,rfl,rfl,rfl⟩
 | true=>
   obtain⟨_,n,c,hk,rfl⟩:=yh hv;have I:=Iu hg (bD hk);exact⟨I.aA,I.todo,I.len,I.rules,I.now⟩
theorem Qp {h:al} (hg:HG h) (k:Int):(fB h k).1.aA=h.aA∧(fB h k).1.todo=h.todo∧(fB h k).1.cabins.length=h.cabins.length∧(fB h k).1.rules=h.rules∧(fB h k).1.now=h.now:=by
 obtain⟨a,b,c,d,e⟩:=Qo hg k;obtain⟨q1,q2,q3,q4,q5⟩:=IK k (gK (f_ h k) k+1) (E:=f_ h k) (ids:=[]);exact⟨q1.trans a,q2.trans b,q3.trans c,q4.trans d,q5.trans e⟩
theorem Qq {h:al} {cR:Int} (hv:bx h (jc cR)=0):HG h∧∃w:Nat,cR=(w:Int)∧∃hw:w<h.aA.length,im h cR=h.aA[w]∧(h.aA[w] = -1→∃t ts,h.todo=t::ts)∧(h.aA[w]≠ -1→∃n:Nat,h.aA[w]=(n:Int)∧n<h.cabins.length):=by
 obtain⟨h0,h1,h2⟩:=oI hv;have hg:=iD.1 h0;have pr:=B3 h2 rfl;rw[B_ h0 h2 rfl,BZ] at hv;have h3:¬(jc cR).id≥h.rules.bO:=fun q=>by rw[if_pos q] at hv; cases hv
 rw[if_neg h3] at hv;have h4:¬(((h.aA[(jc cR).id.toNat]?).getD 0) = -1∧h.todo = []):=fun q=>by rw[if_pos q] at hv; cases hv
 have e:(jc cR).id=cR:=rfl;rw[e] at h3 h4 pr;have hc:=hg.bO;obtain⟨w,rfl⟩:∃w:Nat,cR=(w:Int):=⟨cR.toNat,by omega⟩;have hw:w<h.aA.length:=by omega
 have ej:im h (w:Int)=h.aA[w]:=by rw[im,Int.toNat_natCast,List.getElem?_eq_getElem hw]; rfl
 rw[Int.toNat_natCast,List.getElem?_eq_getElem hw] at h4;refine⟨hg,w,rfl,hw,ej,fun q=> ?_,fun q=> ?_⟩
 · cases ht:h.todo with
   | nil=>exact(h4 ⟨q,ht⟩).elim
   | cons t ts=>exact⟨t,ts,rfl⟩
 · have:=bF (hg.aA.aA _ (List.getElem_mem hw));exact⟨h.aA[w].toNat,by omega,by omega⟩
theorem Qr {h:al} (hs:bJ h) (cR:Int):bJ (tz h cR):=by
 unfold tz; split
 · unfold tw; split
   · exact⟨hs.1,hs.2.1,hs.2.2.1,by show(h.todo.drop 1).length≤_; rw[List.length_drop]; have:=hs.2.2.2.1; omega,by show(h.aA.set _ _).length≤_; rw[List.length_set]; exact hs.2.2.2.2⟩
   · have h1:=(P6 hs (im h cR)).1;exact⟨h1.1,h1.2.1,h1.2.2.1,h1.2.2.2.1,by show((fB h (im h cR)).1.aA.set _ _).length≤_; rw[List.length_set]; exact h1.2.2.2.2⟩
 · exact hs
theorem Qs {h:al} (hs:bJ h) (k n:Int):bJ (tq h k n):=by
 unfold tq; split
 · rename_i hv;have hg:=iD.1 (oI hv).1;exact vP (qv hs (k:=k) (c:={aE h k with ai:=bW (aE h k).ai n 1 0 (-1) 0}) (kI hs k)) (vQ (qo hg) (by decide) _)
 · exact hs
theorem Qt {h:al} (hs:bJ h) (hg:HG h):ri (gP h h.cabins.length):=by
 refine⟨by rw[tv]; exact hs.2.2.1.1,fun c hc=> ?_⟩;obtain⟨j,hj⟩:=List.mem_iff_getElem?.1 hc;simp only[gP,List.getElem?_mapIdx] at hj;cases q:h.cabins[j]? with
 | none=>rw[q] at hj; cases hj
 | some d=>
   rw[q] at hj;have hl:=bD q;have hd:=hs.2.2.1.2 d (List.mem_of_getElem? q);simp only[Option.map_some,if_pos hl,Option.some.injEq] at hj;subst hj;refine⟨?_,hd.2⟩;have:=H_ hg hl (h.now+1);show(eN h.rules h.ae (j:Int) (h.now+1)).length≤1048576;rw[eN,kh]; omega
theorem Qu {h:al} (hs:bJ h):bJ (tu h):=by
 unfold tu; split
 · rename_i hv;have hg:=iD.1 (oI hv).1;have h1:=Ct h h.cabins.length;have h2:=qo hg;have h3:=hg.iX;have h4:=(fv hg.rules).len;exact⟨hs.1,hs.2.1,Qt hs hg,by show(jZ h h.cabins.length).length≤1048576; omega,hs.2.2.2.2⟩
 · exact hs
def stepOf (h:al) (q:cf):al:=
 if q.kind=1 then tp h q.id q.ah q.aq q.au q.aT
 else if q.kind=2 then th h q.id
 else if q.kind=3 then tq h q.ah q.au
 else if q.kind=4 then tj h q.id
 else if q.kind=5 then tn h q.id
 else if q.kind=6 then tu h
 else tz h q.id
def mm (h:al) (q:cf):Int:=
 if q.kind=1 then bx h (ns q.id q.ah q.aq q.au q.aT)
 else if q.kind=2 then bx h (lF q.id)
 else if q.kind=3 then bx h (oJ q.ah q.au)
 else if q.kind=4 then bx h (np q.id)
 else if q.kind=5 then bx h (nq q.id)
 else if q.kind=6 then bx h rF
 else bx h (jc q.id)
def oL (h:al) (q:cf):List Int:=if aj q.kind 1 6=true then[] else qw h q.id
def yo (h:al) (q:cf):al:=if bx h q=0 then stepOf h q else h
def vW (h:al) (q:cf):Int:=if bx h q=0 then mm h q else bx h q
def Cw (h:al) (q:cf):List Int:=if bx h q=0 then oL h q else[]
theorem Qv {h:al} (hs:bJ h) (q:cf):bJ (yo h q):=by
 unfold yo stepOf
 repeat' split
 · exact P4 hs _ _ _ _ _
 · exact P1 hs _
 · exact Qs hs _ _
 · exact P2 hs _
 · exact P3 hs _
 · exact Qu hs
 · exact Qr hs _
 · exact hs
theorem Qw {h:al} {w:Nat} (hw:w<h.aA.length) (hj:h.aA[w] = -1) {t:Int} {ts:List Int} (ht:h.todo=t::ts):tw h (w:Int) = {h with aA:=h.aA.set w t,todo:=ts}:=by
 have ej:im h (w:Int)=h.aA[w]:=by rw[im,Int.toNat_natCast,List.getElem?_eq_getElem hw]; rfl
 rw[tw,if_pos (ej.trans hj),II,ht,Int.toNat_natCast]; rfl
theorem Qx {h:al} {w:Nat} (hw:w<h.aA.length) (hj:h.aA[w]≠ -1):tw h (w:Int) = {(fB h h.aA[w]).1 with aA:=(fB h h.aA[w]).1.aA.set w (-1)}:=by
 have ej:im h (w:Int)=h.aA[w]:=by rw[im,Int.toNat_natCast,List.getElem?_eq_getElem hw]; rfl
 rw[tw,if_neg (by rw[ej]; exact hj),IJ,ej,Int.toNat_natCast]
theorem Qy {h:al} {w:Nat} (hw:w<h.aA.length) (hj:h.aA[w] = -1):qw h (w:Int) = []:=by
 have ej:im h (w:Int)=h.aA[w]:=by rw[im,Int.toNat_natCast,List.getElem?_eq_getElem hw]; rfl
 unfold qw; split
 · rw[if_pos (ej.trans hj)]
 · rfl
theorem Qz {h:al} {w:Nat} (hv:bx h (jc (w:Int))=0) (hw:w<h.aA.length) (hj:h.aA[w]≠ -1):qw h (w:Int)=(fB h h.aA[w]).2:=by
 have ej:im h (w:Int)=h.aA[w]:=by rw[im,Int.toNat_natCast,List.getElem?_eq_getElem hw]; rfl
 rw[qw,if_pos hv,if_neg (by rw[ej]; exact hj),ej]
theorem QA {h:al} (hg:HG h) (k:Int):(fB h k).1.aA=h.aA:=(Qp hg k).1
theorem drop_one (l:List Int):(l.take (((l.length:Nat):Int)).toNat).drop ((1:Int)).toNat=l.drop 1:=by
 rw[Int.toNat_natCast,List.take_length]; rfl
set_option maxHeartbeats 4000000 in
theorem QB (h:al) (cR:Int) (hs:bJ h) (x:al) (hx:x=tz h cR) (c:Int) (hc:c=bx h (jc cR)) (y:List Int) (hy:y=qw h cR):Spec Tryz.prog 34 [dV h,iA cR] (aM (.ba [(true,jq fun _=>x),(false,[.int .i64 fun _=>c]),(false,[.own .int fun _=>y])])):=by
 by_cases hv:bx h (jc cR)=0
 rotate_left
 · obtain rfl:x=h:=hx.trans (if_neg hv);obtain rfl:y = []:=hy.trans (if_neg hv);have k1:(c != 0)=true:=by rw[hc]; simpa using hv
   refine aN aD Tryz.func34 rfl rfl (fr:=true) (fun _=>by kernel_rfl) fun P hP hA=> ?_;cbv;refine ag.by hP (iE x hs) ?_;cbv;refine ag.by hP (jw x (jc cR) hs c hc) ?_;cbv;refine Br.split (fun k0=> ?_) (fun k0=> ?_) <;> cbv
   · repeat' first | exact trivial | refine⟨rfl, ?_⟩ | fail
   · have k0:(c != 0)=false:=k0;rw[k1] at k0; cases k0
 have hx:=hx.trans (if_pos hv);obtain rfl:c=0:=hc.trans hv;obtain⟨hg,w,rfl,hw,_,e1,e2⟩:=Qq hv;have Ry:=get_cast h.aA hw;have oj:0≤(w:Int)∧(w:Int)<(h.aA.length:Int):=by omega
 have s4:h.todo.length≤1048576:=hs.2.2.2.1
 by_cases hj:h.aA[w] = -1
 · obtain⟨t,ts,ht⟩:=e1 hj;obtain rfl:y = []:=hy.trans (Qy hw hj);have e3:h.todo.drop 1=ts:=by rw[ht]; rfl
   have s_:h.todo[((0:Int)).toNat]? = some t:=by rw[ht]; rfl
   have o1:0≤(1:Int)∧(1:Int)≤(h.todo.length:Int)∧(h.todo.length:Int)≤h.todo.length:=by rw[ht,List.length_cons]; omega
   have o2:0≤(0:Int)∧(0:Int)<(h.todo.length:Int):=by omega
   have o3:(0+((h.todo.take (((h.todo.length:Nat):Int)).toNat).drop ((1:Int)).toNat).length)*8≤140737488355328:=by rw[drop_one,List.length_drop]; omega
   rw[Qw hw hj ht,←e3] at hx;subst hx;refine aN aD Tryz.func34 rfl rfl (fr:=true) (fun _=>by kernel_rfl) fun P hP hA=> ?_;cbv;refine ag.by hP (iE h hs) ?_;cbv;refine ag.by hP (jw h (jc (w:Int)) hs 0 hc) ?_;cbv;refine Br.split (fun k0=> ?_) (fun k0=> ?_) <;> cbv
   · have k0:((0:Int) != 0)=true:=k0;cases k0
   refine Ob.mk oj ?_;cbv;refine Br.split (fun k1=> ?_) (fun k1=> ?_) <;> cbv
   rotate_left
   · have k1:(h.aA.getD ((w:Int)).toNat default == -1)=false:=k1;rw[tc hw,hj] at k1; cases k1
   repeat' first
     | exact trivial
     | (refine Ix.mk (t) (Int.le_refl 0) (s_) ?_; cbv)
     | (refine Ob.mk (oj) ?_; cbv)
     | (refine Ob.mk (o2) ?_; cbv)
     | (refine Sv.mk (fun _=>h.aA.set w t) ((by show h.aA.set ((w:Int)).toNat (h.todo.getD ((0:Int)).toNat default)=h.aA.set w t; rw[Ih,List.getD_eq_getElem?_getD,s_]; rfl)) ?_; cbv)
     | (refine Ob.mk (o1) ?_; cbv)
     | (refine⟨drop_one h.todo, ?_⟩)
     | (refine Pz.mk ?_; cbv) | (refine bp.mk ?_ (by kernel_rfl) ?_; rotate_left; cbv; rotate_right) | refine⟨rfl, ?_⟩ | refine And.intro ?_ ?_ | exact rfl | fail
 · obtain⟨n,hn,Rz⟩:=e2 hj;obtain rfl:y=(fB h h.aA[w]).2:=hy.trans (Qz hv hw hj);rw[Qx hw hj] at hx;subst hx;have ok:0≤(w:Int)∧(w:Int)<((fB h h.aA[w]).1.aA.length:Int):=by rw[QA hg]; exact oj
   refine aN aD Tryz.func34 rfl rfl (fr:=true) (fun _=>by kernel_rfl) fun P hP hA=> ?_;cbv;refine ag.by hP (iE h hs) ?_;cbv;refine ag.by hP (jw h (jc (w:Int)) hs 0 hc) ?_;cbv;refine Br.split (fun k0=> ?_) (fun k0=> ?_) <;> cbv
   · have k0:((0:Int) != 0)=true:=k0;cases k0
   refine Ob.mk oj ?_;cbv;refine Br.split (fun k1=> ?_) (fun k1=> ?_) <;> cbv
   · have k1:(h.aA.getD ((w:Int)).toNat default == -1)=true:=k1;rw[tc hw] at k1; exact absurd (by simpa using k1) hj
   refine Ob.mk oj ?_;cbv;refine ag.uM hP (Qm h h.aA[w] hs (fB h h.aA[w]).1 rfl (fB h h.aA[w]).2 rfl) ?_ ?_
   · show[dV h,iA (h.aA.getD ((w:Int)).toNat default)]=_;rw[tc hw]
   cbv
   repeat' first
     | exact trivial
     | (refine Ob.mk (ok) ?_; cbv)
     | (refine Sv.mk (fun _=>(fB h h.aA[w]).1.aA.set w (-1)) (Ih (fB h h.aA[w]).1.aA w (-1)) ?_; cbv)
     | (refine Pz.mk ?_; cbv) | (refine bp.mk ?_ (by kernel_rfl) ?_; rotate_left; cbv; rotate_right) | refine⟨rfl, ?_⟩ | refine And.intro ?_ ?_ | exact rfl | fail
end Go.Proofs.YtpklefhdkkegiaaGreat

