/- Parts of a proof. No conditions. -/

import Derived.Test.YtpklefhdkkegiaaGreatG31
import Derived.Test.YtpklefhdkkegiaaGreatG33
set_option linter.unusedSimpArgs false
set_option linter.unusedVariables false
namespace Go.Proofs.YtpklefhdkkegiaaGreat
open Go
set_option maxRecDepth 100000
def eW (who:Int):bS:=⟨7,who,0,0,0,0⟩
def gv (h:ai) (who:Int):Int:=(h.aq[who.toNat]?).getD 0
def yO (h:ai) (who:Int):ai:={h with aq:=h.aq.set who.toNat ((h.todo[0]?).getD 0),todo:=h.todo.drop 1}
def uq (h:ai) (who:Int):ai:={(bH h (gv h who)).1 with aq:=(bH h (gv h who)).1.aq.set who.toNat (-1)}
def ns (h:ai) (who:Int):ai:=if gv h who = -1 then yO h who else uq h who
def eG (h:ai) (who:Int):ai:=if aU h (eW who)=0 then ns h who else h
def iK (h:ai) (who:Int):List Int:=if aU h (eW who)=0 then(if gv h who = -1 then[] else(bH h (gv h who)).2) else[]
theorem Mg (k:Int):∀(n:Nat) {E:ai} {ids:List Int},(eF n k E ids).1.aq=E.aq∧(eF n k E ids).1.todo=E.todo∧(eF n k E ids).1.cabins.length=E.cabins.length∧(eF n k E ids).1.rules=E.rules∧(eF n k E ids).1.now=E.now
 | 0,_,_=>⟨rfl,rfl,rfl,rfl,rfl⟩
 | n + 1,E,ids=>by
   unfold eF
   split
   · exact⟨rfl,rfl,rfl,rfl,rfl⟩
   · rename_i hv;obtain⟨_,_,a,b,c,d,e,_⟩:=nr hv;obtain⟨q1,q2,q3,q4,q5⟩:=Mg k n (E:=dU E k) (ids:=ids ++ [cH E k]);exact⟨q1.trans e,q2.trans d,q3.trans c,q4.trans a,q5.trans b⟩
theorem Uk {h:ai} (hg:HG h) (k:Int):(cK h k).aq=h.aq∧(cK h k).todo=h.todo∧(cK h k).cabins.length=h.cabins.length∧(cK h k).rules=h.rules∧(cK h k).now=h.now:=by
 cases hv:cu h k with
 | false=>rw[cK,we hv]; exact⟨rfl,rfl,rfl,rfl,rfl⟩
 | true=>
   obtain⟨_,n,c,hk,rfl⟩:=sS hv;have I:=pP hg (bC hk);exact⟨I.aq,I.todo,I.len,I.rules,I.now⟩
theorem FH {h:ai} (hg:HG h) (k:Int):(bH h k).1.aq=h.aq∧(bH h k).1.todo=h.todo∧(bH h k).1.cabins.length=h.cabins.length∧(bH h k).1.rules=h.rules∧(bH h k).1.now=h.now:=by
 obtain⟨a,b,c,d,e⟩:=Uk hg k;obtain⟨q1,q2,q3,q4,q5⟩:=Mg k (dV (cK h k) k+1) (E:=cK h k) (ids:=[]);exact⟨q1.trans a,q2.trans b,q3.trans c,q4.trans d,q5.trans e⟩
theorem sZ {h:ai} {who:Int} (hv:aU h (eW who)=0):HG h∧∃w:Nat,who=(w:Int)∧∃hw:w<h.aq.length,gv h who=h.aq[w]∧(h.aq[w] = -1→∃t ts,h.todo=t::ts)∧(h.aq[w]≠ -1→∃n:Nat,h.aq[w]=(n:Int)∧n<h.cabins.length):=by
 obtain⟨h0,h1,h2⟩:=l4 hv;have hg:=dy.1 h0;have pr:=Fg h2 rfl;rw[yD h0 h2 rfl,vZ] at hv;have h3:¬(eW who).id≥h.rules.bm:=fun q=>by rw[if_pos q] at hv; cases hv
 rw[if_neg h3] at hv;have h4:¬(((h.aq[(eW who).id.toNat]?).getD 0) = -1∧h.todo = []):=fun q=>by rw[if_pos q] at hv; cases hv
 have e:(eW who).id=who:=rfl;rw[e] at h3 h4 pr;have hc:=hg.bm;obtain⟨w,rfl⟩:∃w:Nat,who=(w:Int):=⟨who.toNat,by omega⟩;have hw:w<h.aq.length:=by omega
 have ej:gv h (w:Int)=h.aq[w]:=by rw[gv,Int.toNat_natCast,List.getElem?_eq_getElem hw]; rfl
 rw[Int.toNat_natCast,List.getElem?_eq_getElem hw] at h4;refine⟨hg,w,rfl,hw,ej,fun q=> ?_,fun q=> ?_⟩
 · cases ht:h.todo with
   | nil=>exact(h4 ⟨q,ht⟩).elim
   | cons t ts=>exact⟨t,ts,rfl⟩
 · have:=bD (hg.aq.aq _ (List.getElem_mem hw));exact⟨h.aq[w].toNat,by omega,by omega⟩
theorem FI {h:ai} (hs:a_ h) (who:Int):a_ (eG h who):=by
 unfold eG; split
 · unfold ns; split
   · exact⟨hs.1,hs.2.1,hs.2.2.1,by show(h.todo.drop 1).length≤_; rw[List.length_drop]; have:=hs.2.2.2.1; omega,by show(h.aq.set _ _).length≤_; rw[List.length_set]; exact hs.2.2.2.2⟩
   · have h1:=(Bn hs (gv h who)).1;exact⟨h1.1,h1.2.1,h1.2.2.1,h1.2.2.2.1,by show((bH h (gv h who)).1.aq.set _ _).length≤_; rw[List.length_set]; exact h1.2.2.2.2⟩
 · exact hs
theorem Ul {h:ai} (hs:a_ h) (k n:Int):a_ (ot h k n):=by
 unfold ot; split
 · rename_i hv;have hg:=dy.1 (l4 hv).1;exact yL (sU hs (k:=k) (c:={aB h k with seats:=bz (aB h k).seats n 1 0 (-1) 0}) (mw hs k)) (yM (qO hg) (by decide) _)
 · exact hs
theorem Um {h:ai} (hs:a_ h) (hg:HG h):ph (fW h h.cabins.length):=by
 refine⟨by rw[pQ]; exact hs.2.2.1.1,fun c hc=> ?_⟩;obtain⟨j,hj⟩:=List.mem_iff_getElem?.1 hc;simp only[fW,List.getElem?_mapIdx] at hj;cases q:h.cabins[j]? with
 | none=>rw[q] at hj; cases hj
 | some d=>
   rw[q] at hj;have hl:=bC q;have hd:=hs.2.2.1.2 d (List.mem_of_getElem? q);simp only[Option.map_some,if_pos hl,Option.some.injEq] at hj;subst hj;refine⟨?_,hd.2⟩;have:=Fq hg hl (h.now+1);show(fK h.rules h.ae (j:Int) (h.now+1)).length≤1048576;rw[fK,mb]; omega
theorem Un {h:ai} (hs:a_ h):a_ (ov h):=by
 unfold ov; split
 · rename_i hv;have hg:=dy.1 (l4 hv).1;have h1:=Bp h h.cabins.length;have h2:=qO hg;have h3:=hg.fL;have h4:=(eB hg.rules).len;exact⟨hs.1,hs.2.1,Um hs hg,by show(i_ h h.cabins.length).length≤1048576; omega,hs.2.2.2.2⟩
 · exact hs
def stepOf (h:ai) (q:bS):ai:=
 if q.kind=1 then oo h q.id q.ag q.al q.aj q.aO
 else if q.kind=2 then oe h q.id
 else if q.kind=3 then ot h q.ag q.aj
 else if q.kind=4 then oh h q.id
 else if q.kind=5 then om h q.id
 else if q.kind=6 then ov h
 else eG h q.id
def jw (h:ai) (q:bS):Int:=
 if q.kind=1 then aU h (kP q.id q.ag q.al q.aj q.aO)
 else if q.kind=2 then aU h (jJ q.id)
 else if q.kind=3 then aU h (kN q.ag q.aj)
 else if q.kind=4 then aU h (kd q.id)
 else if q.kind=5 then aU h (ke q.id)
 else if q.kind=6 then aU h ou
 else aU h (eW q.id)
def kh (h:ai) (q:bS):List Int:=if ak q.kind 1 6=true then[] else iK h q.id
def jL (h:ai) (q:bS):ai:=if aU h q=0 then stepOf h q else h
def ur (h:ai) (q:bS):Int:=if aU h q=0 then jw h q else aU h q
def wi (h:ai) (q:bS):List Int:=if aU h q=0 then kh h q else[]
theorem Bx {h:ai} (hs:a_ h) (q:bS):a_ (jL h q):=by
 unfold jL stepOf
 repeat' split
 · exact T0 hs _ _ _ _ _
 · exact TX hs _
 · exact Ul hs _ _
 · exact TY hs _
 · exact TZ hs _
 · exact Un hs
 · exact FI hs _
 · exact hs
theorem Mh {h:ai} {w:Nat} (hw:w<h.aq.length) (hj:h.aq[w] = -1) {t:Int} {ts:List Int} (ht:h.todo=t::ts):ns h (w:Int) = {h with aq:=h.aq.set w t,todo:=ts}:=by
 have ej:gv h (w:Int)=h.aq[w]:=by rw[gv,Int.toNat_natCast,List.getElem?_eq_getElem hw]; rfl
 rw[ns,if_pos (ej.trans hj),yO,ht,Int.toNat_natCast]; rfl
theorem Mi {h:ai} {w:Nat} (hw:w<h.aq.length) (hj:h.aq[w]≠ -1):ns h (w:Int) = {(bH h h.aq[w]).1 with aq:=(bH h h.aq[w]).1.aq.set w (-1)}:=by
 have ej:gv h (w:Int)=h.aq[w]:=by rw[gv,Int.toNat_natCast,List.getElem?_eq_getElem hw]; rfl
 rw[ns,if_neg (by rw[ej]; exact hj),uq,ej,Int.toNat_natCast]
theorem Mj {h:ai} {w:Nat} (hw:w<h.aq.length) (hj:h.aq[w] = -1):iK h (w:Int) = []:=by
 have ej:gv h (w:Int)=h.aq[w]:=by rw[gv,Int.toNat_natCast,List.getElem?_eq_getElem hw]; rfl
 unfold iK; split
 · rw[if_pos (ej.trans hj)]
 · rfl
theorem Mk {h:ai} {w:Nat} (hv:aU h (eW (w:Int))=0) (hw:w<h.aq.length) (hj:h.aq[w]≠ -1):iK h (w:Int)=(bH h h.aq[w]).2:=by
 have ej:gv h (w:Int)=h.aq[w]:=by rw[gv,Int.toNat_natCast,List.getElem?_eq_getElem hw]; rfl
 rw[iK,if_pos hv,if_neg (by rw[ej]; exact hj),ej]
theorem Ml {h:ai} (hg:HG h) (k:Int):(bH h k).1.aq=h.aq:=(FH hg k).1
theorem drop_one (l:List Int):(l.take (((l.length:Nat):Int)).toNat).drop ((1:Int)).toNat=l.drop 1:=by
 rw[Int.toNat_natCast,List.take_length]; rfl
set_option maxHeartbeats 4000000 in
theorem Uo (h:ai) (who:Int) (hs:a_ h) (x:ai) (hx:x=eG h who) (c:Int) (hc:c=aU h (eW who)) (y:List Int) (hy:y=iK h who):Spec Tryz.prog 227 [cG h,iA who] (aG (.aS [(true,fb fun _=>x),(false,[.int .i64 fun _=>c]),(false,[.own .int fun _=>y])])):=by
 by_cases hv:aU h (eW who)=0
 rotate_left
 · obtain rfl:x=h:=hx.trans (if_neg hv);obtain rfl:y = []:=hy.trans (if_neg hv);have k1:(c != 0)=true:=by rw[hc]; simpa using hv
   refine aF au Tryz.func227 rfl rfl (fr:=true) (fun _=>by kernel_rfl) fun P hP hA=> ?_;cbv;refine af.by hP (kg x hs) ?_;cbv;refine af.by hP (iY x (eW who) hs c hc) ?_;cbv;refine Br.split (fun k0=> ?_) (fun k0=> ?_) <;> cbv
   · repeat' first | exact trivial | refine⟨rfl, ?_⟩ | fail
   · have k0:(c != 0)=false:=k0;rw[k1] at k0; cases k0
 have hx:=hx.trans (if_pos hv);obtain rfl:c=0:=hc.trans hv;obtain⟨hg,w,rfl,hw,_,e1,e2⟩:=sZ hv;have FJ:=get_cast h.aq hw;have oj:0≤(w:Int)∧(w:Int)<(h.aq.length:Int):=by omega
 have s4:h.todo.length≤1048576:=hs.2.2.2.1
 by_cases hj:h.aq[w] = -1
 · obtain⟨t,ts,ht⟩:=e1 hj;obtain rfl:y = []:=hy.trans (Mj hw hj);have e3:h.todo.drop 1=ts:=by rw[ht]; rfl
   have pJ:h.todo[((0:Int)).toNat]? = some t:=by rw[ht]; rfl
   have o1:0≤(1:Int)∧(1:Int)≤(h.todo.length:Int)∧(h.todo.length:Int)≤h.todo.length:=by rw[ht,List.length_cons]; omega
   have o2:0≤(0:Int)∧(0:Int)<(h.todo.length:Int):=by omega
   have o3:(0+((h.todo.take (((h.todo.length:Nat):Int)).toNat).drop ((1:Int)).toNat).length)*8≤140737488355328:=by rw[drop_one,List.length_drop]; omega
   rw[Mh hw hj ht,←e3] at hx;subst hx;refine aF au Tryz.func227 rfl rfl (fr:=true) (fun _=>by kernel_rfl) fun P hP hA=> ?_;cbv;refine af.by hP (kg h hs) ?_;cbv;refine af.by hP (iY h (eW (w:Int)) hs 0 hc) ?_;cbv;refine Br.split (fun k0=> ?_) (fun k0=> ?_) <;> cbv
   · have k0:((0:Int) != 0)=true:=k0;cases k0
   refine Ix.mk h.aq[w] (Int.natCast_nonneg w) FJ ?_;cbv;refine Br.dec (fun k1=> ?_) (fun k1=> ?_) <;> cbv
   rotate_left
   · have k1:¬h.aq[w]<0:=k1;omega
   repeat' first
     | exact trivial
     | (refine Ix.mk (t) (Int.le_refl 0) (pJ) ?_; cbv)
     | (refine Ob.mk (oj) ?_; cbv)
     | (refine Sv.mk (fun _=>h.aq.set w t) (Bf h.aq w t) ?_; cbv)
     | (refine Ob.mk (o1) ?_; cbv)
     | (refine Ob.mk (o3) ?_; cbv)
     | (refine⟨drop_one h.todo, ?_⟩)
     | (refine Pz.mk ?_; cbv) | (refine aW.mk ?_ (by kernel_rfl) ?_; rotate_left; cbv; rotate_right) | refine⟨rfl, ?_⟩ | refine And.intro ?_ ?_ | exact rfl | fail
 · obtain⟨n,hn,FK⟩:=e2 hj;obtain rfl:y=(bH h h.aq[w]).2:=hy.trans (Mk hv hw hj);rw[Mi hw hj] at hx;subst hx;have k_:¬h.aq[w]<0:=by rw[hn]; omega
   have ok:0≤(w:Int)∧(w:Int)<((bH h h.aq[w]).1.aq.length:Int):=by rw[Ml hg]; exact oj
   refine aF au Tryz.func227 rfl rfl (fr:=true) (fun _=>by kernel_rfl) fun P hP hA=> ?_;cbv;refine af.by hP (kg h hs) ?_;cbv;refine af.by hP (iY h (eW (w:Int)) hs 0 hc) ?_;cbv;refine Br.split (fun k0=> ?_) (fun k0=> ?_) <;> cbv
   · have k0:((0:Int) != 0)=true:=k0;cases k0
   refine Ix.mk h.aq[w] (Int.natCast_nonneg w) FJ ?_;cbv;refine Br.dec (fun k1=> ?_) (fun k1=> ?_) <;> cbv
   · exact absurd k1 k_
   refine af.by hP (Bv h h.aq[w] hs (bH h h.aq[w]).1 rfl (bH h h.aq[w]).2 rfl) ?_;cbv
   repeat' first
     | exact trivial
     | (refine Ob.mk (ok) ?_; cbv)
     | (refine Sv.mk (fun _=>(bH h h.aq[w]).1.aq.set w (-1)) (Bf (bH h h.aq[w]).1.aq w (-1)) ?_; cbv)
     | (refine Pz.mk ?_; cbv) | (refine aW.mk ?_ (by kernel_rfl) ?_; rotate_left; cbv; rotate_right) | refine⟨rfl, ?_⟩ | refine And.intro ?_ ?_ | exact rfl | fail
set_option maxHeartbeats 4000000 in
theorem FL (h:ai) (who:Int) (hs:a_ h) (x:ai) (hx:x=eG h who) (c:Int) (hc:c=aU h (eW who)) (y:List Int) (hy:y=iK h who):Spec Tryz.prog 34 [cG h,iA who] (aG (.aS [(true,fb fun _=>x),(false,[.int .i64 fun _=>c]),(false,[.own .int fun _=>y])])):=by
 by_cases hv:aU h (eW who)=0
 rotate_left
 · obtain rfl:x=h:=hx.trans (if_neg hv);obtain rfl:y = []:=hy.trans (if_neg hv);have k1:(c != 0)=true:=by rw[hc]; simpa using hv
   refine aF au Tryz.func34 rfl rfl (fr:=true) (fun _=>by kernel_rfl) fun P hP hA=> ?_;cbv;refine af.by hP (jI x hs) ?_;cbv;refine af.by hP (jH x (eW who) hs c hc) ?_;cbv;refine Br.split (fun k0=> ?_) (fun k0=> ?_) <;> cbv
   · repeat' first | exact trivial | refine⟨rfl, ?_⟩ | fail
   · have k0:(c != 0)=false:=k0;rw[k1] at k0; cases k0
 have hx:=hx.trans (if_pos hv);obtain rfl:c=0:=hc.trans hv;obtain⟨hg,w,rfl,hw,_,e1,e2⟩:=sZ hv;have FJ:=get_cast h.aq hw;have oj:0≤(w:Int)∧(w:Int)<(h.aq.length:Int):=by omega
 have s4:h.todo.length≤1048576:=hs.2.2.2.1
 by_cases hj:h.aq[w] = -1
 · obtain⟨t,ts,ht⟩:=e1 hj;obtain rfl:y = []:=hy.trans (Mj hw hj);have e3:h.todo.drop 1=ts:=by rw[ht]; rfl
   have pJ:h.todo[((0:Int)).toNat]? = some t:=by rw[ht]; rfl
   have o1:0≤(1:Int)∧(1:Int)≤(h.todo.length:Int)∧(h.todo.length:Int)≤h.todo.length:=by rw[ht,List.length_cons]; omega
   have o2:0≤(0:Int)∧(0:Int)<(h.todo.length:Int):=by omega
   have o3:(0+((h.todo.take (((h.todo.length:Nat):Int)).toNat).drop ((1:Int)).toNat).length)*8≤140737488355328:=by rw[drop_one,List.length_drop]; omega
   rw[Mh hw hj ht,←e3] at hx;subst hx;refine aF au Tryz.func34 rfl rfl (fr:=true) (fun _=>by kernel_rfl) fun P hP hA=> ?_;cbv;refine af.by hP (jI h hs) ?_;cbv;refine af.by hP (jH h (eW (w:Int)) hs 0 hc) ?_;cbv;refine Br.split (fun k0=> ?_) (fun k0=> ?_) <;> cbv
   · have k0:((0:Int) != 0)=true:=k0;cases k0
   refine Ob.mk oj ?_;cbv;refine Br.split (fun k1=> ?_) (fun k1=> ?_) <;> cbv
   rotate_left
   · have k1:(h.aq.getD ((w:Int)).toNat default == -1)=false:=k1;rw[sP hw,hj] at k1; cases k1
   repeat' first
     | exact trivial
     | (refine Ix.mk (t) (Int.le_refl 0) (pJ) ?_; cbv)
     | (refine Ob.mk (oj) ?_; cbv)
     | (refine Ob.mk (o2) ?_; cbv)
     | (refine Sv.mk (fun _=>h.aq.set w t) ((by show h.aq.set ((w:Int)).toNat (h.todo.getD ((0:Int)).toNat default)=h.aq.set w t; rw[Bf,List.getD_eq_getElem?_getD,pJ]; rfl)) ?_; cbv)
     | (refine Ob.mk (o1) ?_; cbv)
     | (refine⟨drop_one h.todo, ?_⟩)
     | (refine Pz.mk ?_; cbv) | (refine aW.mk ?_ (by kernel_rfl) ?_; rotate_left; cbv; rotate_right) | refine⟨rfl, ?_⟩ | refine And.intro ?_ ?_ | exact rfl | fail
 · obtain⟨n,hn,FK⟩:=e2 hj;obtain rfl:y=(bH h h.aq[w]).2:=hy.trans (Mk hv hw hj);rw[Mi hw hj] at hx;subst hx;have ok:0≤(w:Int)∧(w:Int)<((bH h h.aq[w]).1.aq.length:Int):=by rw[Ml hg]; exact oj
   refine aF au Tryz.func34 rfl rfl (fr:=true) (fun _=>by kernel_rfl) fun P hP hA=> ?_;cbv;refine af.by hP (jI h hs) ?_;cbv;refine af.by hP (jH h (eW (w:Int)) hs 0 hc) ?_;cbv;refine Br.split (fun k0=> ?_) (fun k0=> ?_) <;> cbv
   · have k0:((0:Int) != 0)=true:=k0;cases k0
   refine Ob.mk oj ?_;cbv;refine Br.split (fun k1=> ?_) (fun k1=> ?_) <;> cbv
   · have k1:(h.aq.getD ((w:Int)).toNat default == -1)=true:=k1;rw[sP hw] at k1; exact absurd (by simpa using k1) hj
   refine Ob.mk oj ?_;cbv;refine af.lg hP (Bu h h.aq[w] hs (bH h h.aq[w]).1 rfl (bH h h.aq[w]).2 rfl) ?_ ?_
   · show[cG h,iA (h.aq.getD ((w:Int)).toNat default)]=_;rw[sP hw]
   cbv
   repeat' first
     | exact trivial
     | (refine Ob.mk (ok) ?_; cbv)
     | (refine Sv.mk (fun _=>(bH h h.aq[w]).1.aq.set w (-1)) (Bf (bH h h.aq[w]).1.aq w (-1)) ?_; cbv)
     | (refine Pz.mk ?_; cbv) | (refine aW.mk ?_ (by kernel_rfl) ?_; rotate_left; cbv; rotate_right) | refine⟨rfl, ?_⟩ | refine And.intro ?_ ?_ | exact rfl | fail
end Go.Proofs.YtpklefhdkkegiaaGreat

