/- Parts of a proof. No conditions. -/

import Derived.Test.YtpklefhdkkegiaaGreatG35
set_option linter.unusedSimpArgs false
set_option linter.unusedVariables false
namespace Go.Proofs.YtpklefhdkkegiaaGreat
open Go
set_option maxRecDepth 100000
theorem FN {n:Int} {l:List Int} {k:Int} (h1:∀x∈l,ak x 0 (n - 1)=true) (h2:l.Pairwise fun a b=>a≠b) (hk:ak k 0 (n - 1)=true):(∀x∈eD l k,ak x 0 (n - 1)=true)∧(eD l k).Pairwise fun a b=>a≠b:=by
 unfold eD;cases hb:hasB l k with
 | true=>exact⟨h1,h2⟩
 | false=>
   rw[if_neg (by simp)];refine⟨fun x hx=> ?_,List.pairwise_append.2 ⟨h2,List.pairwise_singleton _ _,fun a ha b fF=> ?_⟩⟩
   · rcases List.mem_append.1 hx with q | q
     · exact h1 x q
     · cases List.mem_singleton.1 q; exact hk
   · cases List.mem_singleton.1 fF;have:=List.any_eq_false.1 hb a ha;simpa using this
theorem HG.UA {h:ai} (hg:HG h) {l:List Int} (hj:pC h.cabins.length l h.aq):HG {h with todo:=l}:=⟨hg.rules,hg.now,hg.aA,hg.dj,hg.fL,hg.ae,hj,hg.bm,hg.ag⟩
theorem HG.UB {h:ai} (hg:HG h) {l:List Int} (hl:l.length=h.aq.length) (hj:pC h.cabins.length h.todo l):HG {h with aq:=l}:=⟨hg.rules,hg.now,hg.aA,hg.dj,hg.fL,hg.ae,hj,by show((l.length:Nat):Int)=_; rw[hl]; exact hg.bm,hg.ag⟩
theorem HG.put {h:ai} (hg:HG h) {k:Int} (hk:0≤k∧k<(h.cabins.length:Int)):HG {h with todo:=eD h.todo k}:=by
 have:=FN hg.aq.todo hg.aq.once (k:=k) (by simp only[ak,Bool.and_eq_true,decide_eq_true_eq]; omega);exact hg.UA ⟨this.1,this.2,hg.aq.aq⟩
theorem UC (h:ai) (p:ax) (l:List Int):cW {h with todo:=l} p = {cW h p with todo:=l}:=by
 unfold cW ka
 split
 · rfl
 · rfl
theorem UD {x:bA} (h:aX x=true) {n:Int} (hn:0≤n∧n≤60) (hh:n≤x.held):bz x n 0 (-1) 1 0=⟨x.total,x.free,x.held - n,x.bp+n,x.tied⟩∧aX (bz x n 0 (-1) 1 0)=true:=by
 obtain⟨a,b,c,d,e,f⟩:=lZ.1 h;have h2:aX ⟨x.total,x.free,x.held - n,x.bp+n,x.tied⟩=true:=lZ.2 ⟨a,b,by constructor <;> simp only <;> omega,by constructor <;> simp only <;> omega,by simp only; omega,by constructor <;> simp only <;> omega⟩
 have e1:bG x n 0 (-1) 1 0=true:=by
  rw[bG,AT,h,h2]; simp[ak,hn.1,hn.2]
 rw[bz,if_pos e1,AT];exact⟨rfl,h2⟩
theorem UE {x:bA} (h:aX x=true) {n:Int} (hn:0≤n∧n≤60) (hh:n≤x.bp - x.tied):bz x n 1 0 (-1) 0=⟨x.total,x.free+n,x.held,x.bp - n,x.tied⟩∧aX (bz x n 1 0 (-1) 0)=true:=by
 obtain⟨a,b,c,d,e,f⟩:=lZ.1 h;have h2:aX ⟨x.total,x.free+n,x.held,x.bp - n,x.tied⟩=true:=lZ.2 ⟨a,by constructor <;> simp only <;> omega,c,by constructor <;> simp only <;> omega,by simp only; omega,by constructor <;> simp only <;> omega⟩
 have e1:bG x n 1 0 (-1) 0=true:=by
  rw[bG,AU,h,h2]; simp[ak,hn.1,hn.2]
 rw[bz,if_pos e1,AU];exact⟨rfl,h2⟩
theorem UF {x:bA} (h:aX x=true) {n:Int} (hn:0≤n∧n≤60) (hh:n≤x.bp - x.tied):bz x n 0 0 0 1=⟨x.total,x.free,x.held,x.bp,x.tied+n⟩∧aX (bz x n 0 0 0 1)=true:=by
 obtain⟨a,b,c,d,e,f⟩:=lZ.1 h;have h2:aX ⟨x.total,x.free,x.held,x.bp,x.tied+n⟩=true:=lZ.2 ⟨a,b,c,d,e,by constructor <;> simp only <;> omega⟩
 have e1:bG x n 0 0 0 1=true:=by
  rw[bG,AV,h,h2]; simp[ak,hn.1,hn.2]
 rw[bz,if_pos e1,AV];exact⟨rfl,h2⟩
section
variable {h : ai} {i k : Nat} {p : ax} {c : ba}
theorem FO (o:b_ h i k p c) {c':ba} {j:Nat} {c1:ba} (hj:(cW (bN h (k:Int) c') p).cabins[j]? = some c1) :
   ∃ c0,h.cabins[j]? = some c0∧((j=k∧c0=c∧c1=c')∨(j≠k∧p.al=(j:Int)∧c1=j_ c0 p.aj)∨(j≠k∧p.al≠(j:Int)∧c1=c0)):=by
 have hk:=bC o.hk;have pn:=iH o.ok;have hne:p.al≠(k:Int):=by rw[←o.ag]; exact pn.ne
 have base:∀{c1},(h.cabins.set k c')[j]? = some c1→∃c0,h.cabins[j]? = some c0∧((j=k∧c0=c∧c1=c')∨(j≠k∧c1=c0)):=fun {c1} hj=>by
   rw[List.getElem?_set] at hj
   by_cases ej:k=j
   · subst ej;rw[if_pos rfl,if_pos hk] at hj;cases hj;exact⟨c,o.hk, .inl ⟨rfl,rfl,rfl⟩⟩
   · rw[if_neg ej] at hj;exact⟨c1,hj, .inr ⟨fun e=>ej e.symm,rfl⟩⟩
 rw[cW,ka] at hj
 by_cases hf:p.al = -1
 · rw[if_pos hf] at hj;have hj:(h.cabins.set ((k:Int)).toNat c')[j]? = some c1:=hj;rw[Int.toNat_natCast] at hj;obtain⟨c0,h1,h2⟩:=base hj;refine⟨c0,h1, ?_⟩;rcases h2 with h2 | ⟨h2,h3⟩
   · exact .inl h2
   · exact .inr (.inr ⟨h2,by omega,h3⟩)
 · rw [if_neg hf] at hj;have fr:=pn.al;obtain⟨f,ef⟩:∃f:Nat,p.al=(f:Int):=⟨p.al.toNat,by omega⟩;rw[ef] at hj hne;have hne:k≠f:=fun e=>hne (by rw[e]);have hj:((h.cabins.set ((k:Int)).toNat c').set ((f:Int)).toNat (j_ (aB (bN h (k:Int) c') (f:Int)) p.aj))[j]? = some c1:=hj;rw[Int.toNat_natCast,Int.toNat_natCast,Fy hne,List.getElem?_set] at hj
   by_cases ej:f=j
   · subst ej;rw[if_pos rfl] at hj
     split at hj
     · rename_i hl;rw[List.length_set] at hl;cases hj;refine⟨h.cabins[f],List.getElem?_eq_getElem hl, .inr (.inl ⟨fun e=>hne e.symm,ef, ?_⟩)⟩;rw[jt (List.getElem?_eq_getElem hl)]
     · cases hj
   · rw[if_neg ej] at hj;obtain⟨c0,h1,h2⟩:=base hj;refine⟨c0,h1, ?_⟩;rcases h2 with h2 | ⟨h2,h3⟩
     · exact .inl h2
     · exact .inr (.inr ⟨h2,by omega,h3⟩)
theorem b_.leave (o:b_ h i k p c) {c':ba} (t:c'.seats.total=c.seats.total) (ld:aX c'.seats=true) (rs:c'.row.Pairwise fun a b=>bd a b=true) (rm:∀y,y∈c'.row↔y∈c.row∧y.aZ≠p.id)
   (wk:bw c'.spoke=true) (wm:∀q,q∈bf c'.spoke↔q∈bf c.spoke∧q.pid≠p.id) (hh:c'.seats.held+((cz (k:Int) p:Nat):Int)=c.seats.held) (ht:c'.seats.tied=c.seats.tied):HG (cW (bN h (k:Int) c') p):=by
 obtain⟨hi,ei⟩:=o.lt;have hk:=bC o.hk;have g:=o.hg.fV o.hk;have hd:=lX o.hg.ae;have sz:=o.aj;have pn:=iH o.ok
 have ep:(cW (bN h (k:Int) c') p).ae=h.ae.take i++h.ae.drop (i+1):=by
   refine(ju _ _).2.2.2.1.trans ?_;exact AZ o.at_
 have cS:dq h.rules h.now h.aA (h.ae.take i++h.ae.drop (i+1)):=o.hg.ae.cut i;have hm:∀z,z∈h.ae.take i++h.ae.drop (i+1)↔z∈h.ae∧z.id≠p.id:=fun z=>by rw[yE hd hi,ei]
 refine o.hg.next (ju _ _).1 (ju _ _).2.1 (ju _ _).2.2.1 ?_ ?_ (ju _ _).2.2.2.2.1 (ju _ _).2.2.2.2.2 (by rw[ep]; exact cS) fun j c1 hj=> ?_
 · rw[ep,List.length_append,List.length_take,List.length_drop];have:=o.hg.dj; omega
 · exact(wc _ _).trans (iZ _ _ _)
 rw[ep];obtain⟨c0,dZ,h5⟩:=FO o hj;have gj:=o.hg.fV dZ;have s1:=pO (bK (j:Int)) hi;have s2:=pO (cz (j:Int)) hi;have s3:=pO (cC (j:Int)) hi;rcases h5 with⟨rfl,rfl,rfl⟩ | ⟨hO,hf,rfl⟩ | ⟨hO,hf,rfl⟩
 · rw [ei] at s2;rw[ei,wb (by rw[←o.ag]; exact pn.ne)] at s3;refine⟨t.trans g.total, ?_,ld, ?_,wk, ?_, ?_, ?_⟩
   · have:=g.room; omega
   · refine uh cS rs fun y=> ?_;rw[rm,o.row]
     constructor
     · rintro⟨⟨z,hz,hc,hs,rfl⟩,hn⟩
       exact⟨z,(hm z).2 ⟨hz,hn⟩,hc,hs,rfl⟩
     · rintro⟨z,hz,hc,hs,rfl⟩
       have:=(hm z).1 hz;exact⟨⟨z,this.1,hc,hs,rfl⟩,this.2⟩
   · refine Be cS wk fun y=> ?_;rw[wm,o.pins]
     constructor
     · rintro⟨⟨z,hz,hc,hs,rfl⟩,hn⟩
       exact⟨z,(hm z).2 ⟨hz,hn⟩,hc,hs,rfl⟩
     · rintro⟨z,hz,hc,hs,rfl⟩
       have:=(hm z).1 hz;exact⟨⟨z,this.1,hc,hs,rfl⟩,this.2⟩
   · have:=g.held; omega
   · have:=g.tied; omega
 · have hne:(k:Int)≠(j:Int):=by omega
   rw[ei,nq (.inr (by rw[o.ag]; exact hne))] at s2;rw[ei,yG hf sz] at s3;have t1:=gj.tied;have t2:=Bi gj.gn (n:=p.aj) (by omega) (by omega);refine gj.other o.hg.ae cS rfl rfl (by show(bz c0.seats p.aj 0 0 0 (-1)).total=_; rw[t2.1]) t2.2 (fun z hz=> ?_) (by omega) ?_ ?_
   · rw[hm];exact⟨fun h=>h.1,fun h=>⟨h,o.one h fun e=>hne (by rw[←o.ag,←e]; exact hz)⟩⟩
   · show(bz c0.seats p.aj 0 0 0 (-1)).held=_;rw[t2.1];have:=gj.held;show c0.seats.held=_;omega
   · show(bz c0.seats p.aj 0 0 0 (-1)).tied=_;rw[t2.1];show c0.seats.tied - p.aj=_;omega
 · have hne:(k:Int)≠(j:Int):=by omega
   rw[ei,nq (.inr (by rw[o.ag]; exact hne))] at s2;rw[ei,wb hf] at s3;refine gj.other o.hg.ae cS rfl rfl rfl gj.gn (fun z hz=> ?_) (by omega) (by have:=gj.held; omega) (by have:=gj.tied; omega);rw[hm];exact⟨fun h=>h.1,fun h=>⟨h,o.one h fun e=>hne (by rw[←o.ag,←e]; exact hz)⟩⟩
theorem b_.Mn (o:b_ h i k p c) (h2:p.st=2):(∀q,q∈bf (ik c.spoke (dG p))↔q∈bf c.spoke∧q.pid≠p.id)∧∀y,y∈c.row↔y∈c.row∧y.aZ≠p.id:=by
 have dr:=o.drop h2;refine⟨fun q=> ?_,fun y=>⟨fun hy=>⟨hy, ?_⟩,fun hy=>hy.1⟩⟩
 · have e:=dr.2.2.2 q;have e:q∈bf (ik c.spoke (dG p))↔q∈bf c.spoke∧q≠dG p:=e;rw[e]
   constructor
   · rintro⟨hq,hn⟩
     refine⟨hq,fun e=> ?_⟩;obtain⟨z,hz,hc,hs,rfl⟩:=o.pins.1 hq;exact o.one hz (fun e=>hn (by rw[e])) e
   · rintro⟨hq,hn⟩
     exact⟨hq,fun e=>hn (congrArg aC.pid e)⟩
 · obtain⟨z,hz,hc,hs,rfl⟩:=o.row.1 hy;exact o.one hz fun e=>by rw[e,h2] at hs; cases hs
theorem b_.cancel (o:b_ h i k p c):HG (qP h p):=by
 have g:=o.hg.fV o.hk;have r:=qN o.hg o.hk;have sz:=o.aj;unfold qP
 split
 · rename_i h2;have dr:=o.drop h2;have po:=o.Mn h2;have e:l5 h p = {bN h (k:Int) (fC c p) with todo:=eD h.todo p.ag}:=by rw[l5,c_,o.iJ,o.ag]
   rw[e,UC]
   have hl:HG (cW (bN h (k:Int) (fC c p)) p):=by
     refine o.leave (by rw[dr.1]) dr.2.1 (by show c.row.Pairwise _; rw[g.row]; exact pL o.hg.ae _) po.2 dr.2.2.1 po.1 ?_ (by rw[dr.1]);rw[dr.1,wa h2 o.ag sz];show c.seats.held - p.aj+_=_;omega
   have:=hl.put (k:=p.ag) (by rw[show(cW (bN h (k:Int) (fC c p)) p).cabins.length=h.cabins.length from(wc _ _).trans (iZ _ _ _)]; exact o.lY);rw[L3] at this;exact this
 · rename_i h2;have h1:p.st=1:=(iH o.ok).st.resolve_right h2;have e:kO h p=bN h (k:Int) (FD c p.id):=by rw[kO,o.iJ,o.ag]
   rw[e];refine o.leave rfl g.gn (r.pre.lt.sublist (yI _ _)) (fun y=>LR r.pre.ne) g.jZ (fun q=>⟨fun hq=>⟨hq, ?_⟩,fun hq=>hq.1⟩) ?_ rfl
   · obtain⟨z,hz,hc,hs,rfl⟩:=o.pins.1 hq;exact o.one hz fun e=>by rw[e,h1] at hs; cases hs
   · rw[nq (.inl h2)]; simp[FD]
theorem HG.free (hg:HG h) {c:ba} (hk:h.cabins[k]? = some c) {n:Int} (hn:0≤n∧n≤60) (hl:n≤gd c):HG (lp h (k:Int) n):=by
 have g:=hg.fV hk;have UG:=bC hk;have ld:=UE g.gn hn hl
 have h1:HG (bN h (k:Int) {c with seats:=bz c.seats n 1 0 (-1) 0}):=by
  refine hg.next rfl rfl rfl hg.dj (iZ _ _ _) rfl rfl hg.ae fun j c1 hj=> ?_;have hj:(h.cabins.set ((k:Int)).toNat {c with seats:=bz c.seats n 1 0 (-1) 0})[j]? = some c1:=hj;rw[Int.toNat_natCast,List.getElem?_set] at hj
  by_cases ej:k=j
  · subst ej;rw[if_pos rfl,if_pos UG] at hj;cases hj;refine⟨?_,g.room,ld.2,g.row,g.jZ,g.pins, ?_, ?_⟩
    · show(bz c.seats n 1 0 (-1) 0).total=_;rw[ld.1]; exact g.total
    · show(bz c.seats n 1 0 (-1) 0).held=_;rw[ld.1]; exact g.held
    · show(bz c.seats n 1 0 (-1) 0).tied=_;rw[ld.1]; exact g.tied
  · rw[if_neg ej] at hj;exact hg.fV hj
 have e:lp h (k:Int) n = {bN h (k:Int) {c with seats:=bz c.seats n 1 0 (-1) 0} with todo:=eD h.todo (k:Int)}:=by
  rw[lp,L4,jt hk]; rfl
 rw[e];exact h1.put (k:=(k:Int)) (by rw[iZ]; omega)
theorem b_.accept (o:b_ h i k p c) (h2:p.st=2):HG (sW h p):=by
 have g:=o.hg.fV o.hk;have sz:=o.aj;have dr:=o.drop h2;have po:=o.Mn h2;have ls:=UD g.gn (n:=p.aj) (by omega) (o.held h2);have e:eV h p=bN h (k:Int) (L9 c p):=by rw[eV,o.iJ,o.ag]
 have hl:HG (cW (eV h p) p):=by
   rw[e];refine o.leave ?_ ls.2 (by show c.row.Pairwise _; rw[g.row]; exact pL o.hg.ae _) po.2 dr.2.2.1 po.1 ?_ ?_
   · show(bz c.seats p.aj 0 (-1) 1 0).total=_;rw[ls.1]
   · show(bz c.seats p.aj 0 (-1) 1 0).held+_=_;rw[ls.1,wa h2 o.ag sz];show c.seats.held - p.aj+_=_;omega
   · show(bz c.seats p.aj 0 (-1) 1 0).tied=_;rw[ls.1]
 unfold sW
 split
 · exact hl
 · rename_i hf;obtain⟨f,ef⟩:=o.al.resolve_left hf;have hlen:(cW (eV h p) p).cabins.length=h.cabins.length:=(wc _ _).trans (iZ _ _ _);have kq:f<(cW (eV h p) p).cabins.length:=by rw[hlen]; exact ef.lt
   obtain⟨cf,dY⟩:∃cf,(cW (eV h p) p).cabins[f]? = some cf:=⟨_,List.getElem?_eq_getElem kq⟩;have tu:=dY;rw[e] at tu;obtain⟨c0,dZ,h5⟩:=FO o tu;have hne:f≠k:=fun q=>(iH o.ok).ne (by rw[ef.eq,o.ag,q]);have gj:=o.hg.fV dZ;have s3:=pO (cC (f:Int)) o.lt.1;rw[o.lt.2,yG ef.eq sz] at s3;have t1:=gj.tied;have t2:=Bi gj.gn (n:=p.aj) (by omega) (by omega);have t3:=(lZ.1 gj.gn).tied;rw[ef.eq];refine hl.free dY (by omega) ?_;rcases h5 with⟨q,_⟩ | ⟨_,_,q⟩ | ⟨_,q,_⟩
   · exact(hne q).elim
   · rw[q];show p.aj≤(bz c0.seats p.aj 0 0 0 (-1)).bp - (bz c0.seats p.aj 0 0 0 (-1)).tied;rw[t2.1];show p.aj≤c0.seats.bp - (c0.seats.tied - p.aj);omega
   · exact(q ef.eq).elim
end
theorem HG.build {E:ai} (h1:ca E.rules=true) (h2:ak E.now 0 1000000=true) (h3:ak E.aA 1 1000001=true) (h4:E.ae.length≤40) (h5:E.cabins.length=E.rules.seats.length) (hp:dq E.rules E.now E.aA E.ae)
  (h6:pC E.cabins.length E.todo E.aq) (h7:((E.aq.length:Nat):Int)=E.rules.bm) (hc:∀(j:Nat) c,E.cabins[j]? = some c→mv E.rules E.now E.ae j c):HG E:=
 ⟨h1,h2,h3,h4,h5,hp,h6,h7,fun j c hj=>mv.at_ h1 hp (hc j c hj)⟩
def nt (f:Nat→Nat):Nat→Nat
 | 0=>0
 | n+1=>nt f n+f n
theorem Mo (f g:Nat→Nat):∀n,nt (fun j=>f j+g j) n=nt f n+nt g n
 | 0=>rfl
 | n+1=>by simp only[nt,Mo f g n]; omega
theorem Mp (f:Nat→Nat) {j:Nat}:∀{n},j<n→f j≤nt f n
 | n + 1,h=>by
   rcases Nat.lt_or_ge j n with q | q
   · have:=Mp f q; simp only[nt]; omega
   · obtain rfl:j=n:=by omega
     simp only[nt]; omega
theorem Mq (f:Nat→Nat) {c:Nat}:∀{n},(∀j,j<n→f j≤c)→nt f n≤n*c
 | 0,_=>by simp[nt]
 | n + 1,h=>by
   have h1:=Mq f (n:=n) fun j hj=>h j (by omega);have h2:=h n (by omega);simp only[nt,Nat.add_mul]; omega
theorem Mr (n:Nat):∀{l:List ax},(∀z∈l,0≤z.ag∧z.ag<(n:Int))→l.length≤nt (fun j=>aV (bK (j:Int)) l) n
 | [],_=>Nat.zero_le _
 | z ::l,h=>by
   have ih:=Mr n (l:=l) fun x hx=>h x (List.mem_cons_of_mem _ hx);have hz:=h z List.mem_cons_self;have e:(fun j:Nat=>aV (bK (j:Int)) (z::l))=fun j:Nat=>bK (j:Int) z+aV (bK (j:Int)) l:=rfl;rw[e,Mo];have h1:=Mp (fun j:Nat=>bK (j:Int) z) (j:=z.ag.toNat) (n:=n) (by omega)
   have h2:bK ((z.ag.toNat:Nat):Int) z=1:=by
    rw[bK,if_pos];rw[beq_iff_eq]; omega
   rw[List.length_cons];simp only[h2] at h1;omega
theorem UH {α:Type} (f:α→Nat) (l:List α) (m:Nat) (q:α):aV f (l.take m++q::l.drop m)=aV f l+f q:=by
 have e:aV f l=aV f (l.take m)+aV f (l.drop m):=by rw[←sv,List.take_append_drop]
 rw[sv,e];show aV f (l.take m)+(f q+aV f (l.drop m))=_;omega
section
variable {h : ai} {p : ax} {k : Nat} {c : ba}
theorem UI {l:List ax} {q:ax} (h:br l q.id<0):ff l q=l.take (putAt l q.id)++q::l.drop (putAt l q.id):=if_neg (by omega)
theorem UJ {l:List ax} (hs:l.Pairwise fun a b=>a.id<b.id) {id:Int} (hn:∀z∈l,z.id≠id):(∀z∈l.take (putAt l id),z.id<id)∧∀z∈l.drop (putAt l id),id<z.id:=by
 rcases iC (fun q:ax=>decide (q.id>id)) l with⟨e,hx⟩ | ⟨j,hj,e,e1,hb⟩
 · have e:kH l id = -1:=e;rw[putAt,e,if_pos (by omega),List.take_length,List.drop_length];refine⟨fun z hz=> ?_,fun z hz=>by cases hz⟩;have h1:=of_decide_eq_false (hx z hz);have h2:=hn z hz;omega
 · have e:kH l id=(j:Int):=e;have e1:l[j].id>id:=of_decide_eq_true e1;rw[putAt,e,if_neg (by omega),Int.toNat_natCast];refine⟨fun z hz=> ?_,fun z hz=> ?_⟩
   · obtain⟨m,hm⟩:=List.mem_iff_getElem?.1 hz;rw[List.getElem?_take] at hm
     split at hm
     · rename_i Ew;have h1:=of_decide_eq_false (hb m z Ew hm);have h2:=hn z (List.mem_of_getElem? hm);omega
     · cases hm
   · obtain⟨m,hm⟩:=List.mem_iff_getElem?.1 hz;rw[List.getElem?_drop] at hm;have hl:=bC hm;rw[List.getElem?_eq_getElem hl] at hm;cases hm;rcases Nat.eq_zero_or_pos m with q | q
     · subst q; exact e1
     · have:=(List.pairwise_iff_getElem.1 hs) j (j+m) hj hl (by omega);omega
theorem Ms {α:Type} {R:α→α→Prop} {l:List α} (h:l.Pairwise R) {m:Nat} {q:α} (h1:∀x∈l.take m,R x q) (h2:∀x∈l.drop m,R q x):(l.take m++q::l.drop m).Pairwise R:=by
 have h3:(l.take m++l.drop m).Pairwise R:=by rw[List.take_append_drop]; exact h
 obtain⟨a,b,d⟩:=List.pairwise_append.1 h3;refine List.pairwise_append.2 ⟨a,List.pairwise_cons.2 ⟨h2,b⟩,fun x hx y hy=> ?_⟩;rcases List.mem_cons.1 hy with rfl | hy
 · exact h1 x hx
 · exact d x hx y hy
theorem Mt {α:Type} {l:List α} {m:Nat} {q z:α}:z∈l.take m++q::l.drop m↔z=q∨z∈l:=by
 have e:z∈l↔z∈l.take m∨z∈l.drop m:=by rw[←List.mem_append,List.take_append_drop]
 rw[List.mem_append,List.mem_cons,e]
 constructor
 · rintro(h | h | h)
   · exact .inr (.inl h)
   · exact .inl h
   · exact .inr (.inr h)
 · rintro(h | h | h)
   · exact .inr (.inl h)
   · exact .inl h
   · exact .inr (.inr h)
theorem jK.aE (o:jK h p k c) (hs:p.since=h.now):dq h.rules h.now (h.aA+1) (ff h.ae p)∧(∀z,z∈ff h.ae p↔z=p∨z∈h.ae)∧∀f:ax→Nat,aV f (ff h.ae p)=aV f h.ae+f p:=by
 rw[UI o.new];have pp:=UJ o.hg.ae.fT (id:=p.id) fun z hz=>(o.none hz).1;have tk:∀{z},z∈h.ae.take (putAt h.ae p.id)→z∈h.ae:=fun {z} hz=>List.mem_of_mem_take hz;have dp:∀{z},z∈h.ae.drop (putAt h.ae p.id)→z∈h.ae:=fun {z} hz=>List.mem_of_mem_drop hz
 have key:∀z∈h.ae,z.aA<p.aA∧z.since≤p.since:=fun z hz=>by
   have h1:=o.hg.ae.ok z hz;have h2:=(m_ h1.1).since;rw[o.aA,hs];exact⟨h1.2,h2.2⟩
 refine⟨⟨fun z hz=> ?_,Ms o.hg.ae.fT pp.1 pp.2,Ms o.hg.ae.fair (fun z hz=> ?_) (fun z hz=> ?_)⟩,fun z=>Mt,fun f=>UH f _ _ _⟩
 · rcases Mt.1 hz with rfl | hz
   · exact⟨o.ok,by rw[o.aA]; omega⟩
   · have:=o.hg.ae.ok z hz;exact⟨this.1,by omega⟩
 · have:=key z (tk hz);simp only[gI,Bool.not_eq_true',Bool.or_eq_false_iff,Bool.and_eq_false_iff,beq_eq_false_iff_ne,decide_eq_false_iff_not];omega
 · have:=key z (dp hz);simp only[gI,Bool.not_eq_true',Bool.or_eq_false_iff,Bool.and_eq_false_iff,beq_eq_false_iff_ne,decide_eq_false_iff_not];omega
theorem UK (o:jK h p k c) {j:Nat} {c1:ba} (hj:(il h p).cabins[j]? = some c1) :
   ∃ c0,h.cabins[j]? = some c0∧((j=k∧c0=c∧c1=kb c (cD h.rules p h.now))∨(j≠k∧p.al=(j:Int)∧c1=uo c0 p.aj)∨(j≠k∧p.al≠(j:Int)∧c1=c0)):=by
 have hk:=bC o.hk;have pn:=iH o.ok;have hne:p.al≠(k:Int):=by rw[←o.ag]; exact pn.ne
 have base:∀{c1},(h.cabins.set k (kb c (cD h.rules p h.now)))[j]? = some c1→∃c0,h.cabins[j]? = some c0∧((j=k∧c0=c∧c1=kb c (cD h.rules p h.now))∨(j≠k∧c1=c0)):=fun {c1} hj=>by
   rw[List.getElem?_set] at hj
   by_cases ej:k=j
   · subst ej;rw[if_pos rfl,if_pos hk] at hj;cases hj;exact⟨c,o.hk, .inl ⟨rfl,rfl,rfl⟩⟩
   · rw[if_neg ej] at hj;exact⟨c1,hj, .inr ⟨fun e=>ej e.symm,rfl⟩⟩
 have ec:aB (oq h p) p.ag=c:=o.iJ
 have er:fD h p=bN (oq h p) (k:Int) (kb c (cD h.rules p h.now)):=by
   show bN (oq h p) p.ag (kb (aB (oq h p) p.ag) (cD h.rules p h.now))=_;rw[ec,o.ag]
 have hj:(my (fD h p) p).cabins[j]? = some c1:=hj;rw[er] at hj;unfold my at hj
 by_cases hf:p.al = -1
 · rw[if_pos hf] at hj;have hj:(h.cabins.set ((k:Int)).toNat (kb c (cD h.rules p h.now)))[j]? = some c1:=hj;rw[Int.toNat_natCast] at hj;obtain⟨c0,h1,h2⟩:=base hj;refine⟨c0,h1, ?_⟩;rcases h2 with h2 | ⟨h2,h3⟩
   · exact .inl h2
   · exact .inr (.inr ⟨h2,by omega,h3⟩)
 · rw [if_neg hf] at hj;have fr:=pn.al;obtain⟨f,ef⟩:∃f:Nat,p.al=(f:Int):=⟨p.al.toNat,by omega⟩;rw[ef] at hj hne;have hne:k≠f:=fun e=>hne (by rw[e]);have hj:((h.cabins.set ((k:Int)).toNat (kb c (cD h.rules p h.now))).set ((f:Int)).toNat (uo (aB (bN (oq h p) (k:Int) (kb c (cD h.rules p h.now))) (f:Int)) p.aj))[j]? = some c1:=hj;rw[Int.toNat_natCast,Int.toNat_natCast,Fy hne,List.getElem?_set] at hj
   by_cases ej:f=j
   · subst ej;rw[if_pos rfl] at hj
     split at hj
     · rename_i hl;rw[List.length_set] at hl;cases hj;refine⟨h.cabins[f],List.getElem?_eq_getElem hl, .inr (.inl ⟨fun e=>hne e.symm,ef, ?_⟩)⟩;rw[show aB (oq h p) (f:Int)=aB h (f:Int) from rfl,jt (List.getElem?_eq_getElem hl)]
     · cases hj
   · rw[if_neg ej] at hj;obtain⟨c0,h1,h2⟩:=base hj;refine⟨c0,h1, ?_⟩;rcases h2 with h2 | ⟨h2,h3⟩
     · exact .inl h2
     · exact .inr (.inr ⟨h2,by omega,h3⟩)
theorem Mu (h:ai) (p:ax):(il h p).rules=h.rules∧(il h p).now=h.now∧(il h p).aA=h.aA+1∧(il h p).ae=ff h.ae p∧(il h p).todo=eD h.todo p.ag∧(il h p).aq=h.aq∧(il h p).cabins.length=h.cabins.length:=by
 unfold il my
 split
 · exact⟨rfl,rfl,rfl,rfl,rfl,rfl,iZ _ _ _⟩
 · exact⟨rfl,rfl,rfl,rfl,rfl,rfl,(iZ _ _ _).trans (iZ _ _ _)⟩
theorem jK.Mv (o:jK h p k c) (UL:p.since=h.now):HG (il h p):=by
 obtain⟨k1,k2,k3,k4,k5,k6,k7⟩:=Mu h p;obtain⟨cS,hm,hZ⟩:=o.aE UL;have g:=o.hg.fV o.hk;have r:=qN o.hg o.hk;have pn:=iH o.ok;have hr:=eB o.hg.rules
 have sz:1≤p.aj∧p.aj≤6:=by
  have h1:=(m_ o.ok).aj;have h2:=hr.size;omega
 have ee:cD h.rules p h.now=gM h.rules p h.now:=ud o.ok o.st
 have hc : ∀(j:Nat) c1,(il h p).cabins[j]? = some c1→mv h.rules h.now (ff h.ae p) j c1:=fun j c1 hj=>by
  obtain⟨c0,dZ,h5⟩:=UK o hj;have gj:=o.hg.fV dZ;have s1:=hZ (bK (j:Int));have s2:=hZ (cz (j:Int));have s3:=hZ (cC (j:Int));rw[nq (.inl (by rw[o.st]; decide))] at s2;have cj:j≠k→p.ag≠(j:Int):=fun q e=>q (by rw[o.ag] at e; omega)
  have Mw:j≠k→bK (j:Int) p=0:=fun q=>by
    rw[bK,if_neg];rw[beq_iff_eq]; exact cj q
  have pG:j≠k→∀z,z.ag=(j:Int)→(z∈ff h.ae p↔z∈h.ae):=fun q z hz=>by
    rw[hm]
    constructor
    · rintro(rfl | h)
      · exact(cj q hz).elim
      · exact h
    · exact .inr
  have UM:dq h.rules h.now (h.aA+1) h.ae:=⟨fun z hz=>⟨(o.hg.ae.ok z hz).1,by have:=(o.hg.ae.ok z hz).2; omega⟩,o.hg.ae.fT,o.hg.ae.fair⟩;rcases h5 with⟨rfl,rfl,rfl⟩ | ⟨hO,hf,rfl⟩ | ⟨hO,hf,rfl⟩
  · rw [wb (by rw[←o.ag]; exact pn.ne)] at s3
    have s4:bK (j:Int) p=1:=by
      rw[bK,if_pos];rw[beq_iff_eq]; exact o.ag
    refine⟨g.total, ?_,g.gn, ?_,g.jZ, ?_, ?_, ?_⟩
    · have h1:=o.room;have h2:jG h (j:Int)=((aV (bK (j:Int)) h.ae:Nat):Int):=rfl;omega
    · rw [ee];refine uh cS (Bc oJ (by show(c0.row).Pairwise _; rw[g.row]; exact pL o.hg.ae _) fun y hy hl=>A_ hl fun e=> ?_) fun y=> ?_
      · obtain⟨z,hz,_,_,_,e1⟩:=r.of y hy;exact(o.none hz).2 (by rw[←e1]; exact e)
      · show y∈bP bd (gM h.rules p h.now) c0.row↔_;rw[rj,g.row,pM o.hg.ae]
        constructor
        · rintro(rfl | ⟨z,hz,hc,hs,rfl⟩)
          · exact⟨p,(hm p).2 (.inl rfl),o.ag,o.st,rfl⟩
          · exact⟨z,(hm z).2 (.inr hz),hc,hs,rfl⟩
        · rintro⟨z,hz,hc,hs,rfl⟩
          rcases(hm z).1 hz with rfl | hz
          · exact .inl rfl
          · exact .inr ⟨z,hz,hc,hs,rfl⟩
    · show bB c0.spoke=_;rw[g.pins];refine v5 jQ (ug o.hg.ae _) (ug cS _) fun y=> ?_;rw[mr,mr]
      constructor
      · rintro⟨z,hz,hc,hs,rfl⟩
        exact⟨z,(hm z).2 (.inr hz),hc,hs,rfl⟩
      · rintro⟨z,hz,hc,hs,rfl⟩
        rcases(hm z).1 hz with rfl | hz
        · rw[o.st] at hs; cases hs
        · exact⟨z,hz,hc,hs,rfl⟩
    · show c0.seats.held=_;have:=g.held; omega
    · show c0.seats.tied=_;have:=g.tied; omega
  · rw[yG hf sz] at s3;have q1:=Mw hO;have lo:=o.loose (by omega);have ec:aB h p.al=c0:=by rw[hf]; exact jt dZ
    rw[ec] at lo;have lt:=UF gj.gn (n:=p.aj) (by omega) lo;refine⟨?_,by have:=gj.room; omega,lt.2, ?_,gj.jZ, ?_, ?_, ?_⟩
    · show(bz c0.seats p.aj 0 0 0 1).total=_;rw[lt.1]; exact gj.total
    · refine uh cS (by show(c0.row).Pairwise _; rw[gj.row]; exact pL o.hg.ae _) fun y=> ?_;show y∈c0.row↔_;rw[gj.row,pM o.hg.ae];exact⟨fun⟨z,a,b,d⟩=>⟨z,(pG hO z b).2 a,b,d⟩,fun⟨z,a,b,d⟩=>⟨z,(pG hO z b).1 a,b,d⟩⟩
    · show bB c0.spoke=_;rw[gj.pins];refine v5 jQ (ug o.hg.ae _) (ug cS _) fun y=> ?_;rw[mr,mr];exact⟨fun⟨z,a,b,d⟩=>⟨z,(pG hO z b).2 a,b,d⟩,fun⟨z,a,b,d⟩=>⟨z,(pG hO z b).1 a,b,d⟩⟩
    · show(bz c0.seats p.aj 0 0 0 1).held=_;rw[lt.1];have:=gj.held;show c0.seats.held=_;omega
    · show(bz c0.seats p.aj 0 0 0 1).tied=_;rw[lt.1];have:=gj.tied;show c0.seats.tied+p.aj=_;omega
  · rw[wb hf] at s3;have q1:=Mw hO;exact gj.other UM cS rfl rfl rfl gj.gn (pG hO) (by omega) (by have:=gj.held; omega) (by have:=gj.tied; omega)
 have dj:(ff h.ae p).length≤40:=by
  have h1:=Mr h.cabins.length (l:=ff h.ae p) fun z hz=>by
    have:=(iH (cS.ok z hz).1).ag;have:=o.hg.fL;omega
  have h2:=Mq (fun j:Nat=>aV (bK (j:Int)) (ff h.ae p)) (c:=10) (n:=h.cabins.length) fun j hj=>by
    have cQ:j<(il h p).cabins.length:=by rw[k7]; exact hj
    have:=(hc j _ (List.getElem?_eq_getElem cQ)).room;have:=hr.room;show aV (bK (j:Int)) (ff h.ae p)≤10;omega
  have h3:=o.hg.fL;have h4:=hr.len;omega
 have tp:=FN o.hg.aq.todo o.hg.aq.once (k:=p.ag) (by
  have:=o.lY;simp only[ak,Bool.and_eq_true,decide_eq_true_eq]; omega)
 refine HG.build (by rw[k1]; exact o.hg.rules) (by rw[k2]; exact o.hg.now) ?_ (by rw[k4]; exact dj) (by rw[k7,k1]; exact o.hg.fL) (by rw[k1,k2,k3,k4]; exact cS) (by rw[k7,k5,k6]; exact⟨tp.1,tp.2,o.hg.aq.aq⟩) (by rw[k6,k1]; exact o.hg.bm) (fun j c1 hj=>by rw[k1,k2,k4]; exact hc j c1 hj);rw[k3];have:=o.FE;simp only[ak,Bool.and_eq_true,decide_eq_true_eq];omega
end
theorem UN {R:bn} {p:ax} {now:Int} (h:bF R p now=true) (hn:now+1≤1000000):bF R p (now+1)=true:=by
 have hr:=eB (m_ h).rules;have q1:=hr.rest;have q2:=hr.bE;have h4:=h;simp only[bF,Bool.and_eq_true,Bool.or_eq_true] at h4 ⊢;obtain⟨a1,a2,a3,a4,a5,a6,a7,a8,a9,pw,Bg,Fz⟩:=h4;have WN:=bD a2;have WO:=bD a9;refine⟨a1, ?_,a3,a4,a5,a6,a7,a8, ?_,pw,Bg, ?_⟩
 · simp only[ak,Bool.and_eq_true,decide_eq_true_eq]; omega
 · simp only[ak,Bool.and_eq_true,decide_eq_true_eq]; omega
 · rcases Fz with⟨b1,b2⟩ | ⟨b1,b2⟩
   · have b2:=bD b2;exact .inl ⟨b1,by simp only[ak,Bool.and_eq_true,decide_eq_true_eq]; omega⟩
   · have b2:=bD b2;exact .inr ⟨b1,by simp only[ak,Bool.and_eq_true,decide_eq_true_eq]; omega⟩
theorem Mx {h:ai} (hg:HG h):∀i,i≤h.cabins.length→(∀x∈i_ h i,ak x 0 ((h.cabins.length:Int) - 1)=true)∧(i_ h i).Pairwise fun a b=>a≠b
 | 0,_=>⟨hg.aq.todo,hg.aq.once⟩
 | i + 1,hi=>by
   have ih:=Mx hg i (by omega);rw[i_]
   split
   · exact FN ih.1 ih.2 (by simp only[ak,Bool.and_eq_true,decide_eq_true_eq]; omega)
   · exact ih
theorem HG.tick {h:ai} (hg:HG h) (hn:h.now+1≤1000000):HG (wg h h.cabins.length):=by
 have Mf:=bD hg.now;have hp:dq h.rules (h.now+1) h.aA h.ae:=⟨fun p hp=>⟨UN (hg.ae.ok p hp).1 hn,(hg.ae.ok p hp).2⟩,hg.ae.fT,hg.ae.fair⟩;have tt:=Mx hg h.cabins.length (Nat.le_refl _);have hl:(wg h h.cabins.length).cabins.length=h.cabins.length:=pQ _ _;refine HG.build (E:=wg h h.cabins.length) hg.rules ?_ hg.aA hg.dj (hl.trans hg.fL) hp (by rw[hl]; exact⟨tt.1,tt.2,hg.aq.aq⟩) hg.bm fun j c1 hj=> ?_
 · show ak (h.now+1) 0 1000000=true;simp only[ak,Bool.and_eq_true,decide_eq_true_eq]; omega
 · have hj:(fW h h.cabins.length)[j]? = some c1:=hj;simp only[fW,List.getElem?_mapIdx] at hj;cases q:h.cabins[j]? with
   | none=>rw[q] at hj; cases hj
   | some c=>
     rw[q] at hj;simp only[Option.map_some,if_pos (bC q),Option.some.injEq] at hj;subst hj;have g:=hg.fV q;exact⟨g.total,g.room,g.gn,rfl,g.jZ,g.pins,g.held,g.tied⟩
theorem HG.eF (k:Int):∀(n:Nat) {E:ai} {ids:List Int},HG E→HG (eF n k E ids).1
 | 0,_,_,h=>h
 | n + 1,E,ids,h=>by
   unfold Go.Proofs.YtpklefhdkkegiaaGreat.eF
   split
   · exact h
   · rename_i hv;exact HG.eF k n (nr hv).2.1
theorem HG.expire {h:ai} (hg:HG h) (k:Int):HG (cK h k):=by
 cases hv:cu h k with
 | false=>rw[cK,we hv]; exact hg
 | true=>
   obtain⟨_,n,c,hk,rfl⟩:=sS hv;exact(pP hg (bC hk)).hg
theorem HG.scan {h:ai} (hg:HG h) (k:Int):HG (bH h k).1:=HG.eF k _ (hg.expire k)
theorem My {n:Int} {l:List Int} {w:Nat} {x:Int} (h:∀y∈l,ak y (-1) (n - 1)=true) (hx:ak x (-1) (n - 1)=true):∀y∈l.set w x,ak y (-1) (n - 1)=true:=fun y hy=>by
 rcases List.mem_or_eq_of_mem_set hy with q | rfl
 · exact h y q
 · exact hx
theorem FP {h:ai} {who:Int} (hg:HG h):HG (eG h who):=by
 unfold eG; split
 · rename_i hv;obtain⟨_,w,rfl,hw,ej,h1,h2⟩:=sZ hv;unfold ns; split
   · rename_i hj;obtain⟨t,ts,ht⟩:=h1 (by rw[←ej]; exact hj);have e:yO h (w:Int) = {h with aq:=h.aq.set w t,todo:=ts}:=by rw[yO,ht,Int.toNat_natCast]; rfl
     rw[e];have j1:=hg.aq;rw[ht] at j1;obtain⟨t1,t2⟩:=List.pairwise_cons.1 j1.once
     have j2:pC h.cabins.length ts (h.aq.set w t):=⟨fun x hx=>j1.todo x (List.mem_cons_of_mem _ hx),t2,My j1.aq (by
      have:=bD (j1.todo t List.mem_cons_self);simp only[ak,Bool.and_eq_true,decide_eq_true_eq]; omega)⟩
     exact⟨hg.rules,hg.now,hg.aA,hg.dj,hg.fL,hg.ae,j2,by show(((h.aq.set w t).length:Nat):Int)=_; rw[List.length_set]; exact hg.bm,hg.ag⟩
   · have g:=hg.scan (gv h (w:Int));obtain⟨q1,q2,q3,q4,q5⟩:=FH hg (gv h (w:Int));unfold uq;refine g.UB (List.length_set ..) ⟨g.aq.todo,g.aq.once,My g.aq.aq ?_⟩;simp only[ak,Bool.and_eq_true,decide_eq_true_eq]; omega
 · exact hg
theorem UO {h:ai} (hg:HG h) (k n:Int):HG (ot h k n):=by
 unfold ot; split
 · rename_i hv;obtain⟨i,hi,rfl⟩:=FC hv;obtain⟨h0,h1,h2⟩:=l4 hv;rw[Ba h0 h2 rfl,yz] at hv;have hk:=List.getElem?_eq_getElem hi;have a1:iI h (kN (i:Int) n).ag=true:=Fm (by show 0≤(i:Int); omega) (by show(i:Int)<_; omega);rw[a1,if_neg (by simp)] at hv
   have a2:ak n 1 60=true:=by
    cases q:ak n 1 60 with
    | true=>rfl
    | false=>rw[show(kN (i:Int) n).aj=n from rfl,q,if_pos rfl] at hv; cases hv
   rw[show(kN (i:Int) n).aj=n from rfl,a2,if_neg (by simp)] at hv
   have a3:¬gd (aB h (i:Int))<n:=fun q=>by
    have hv:(if gd (aB h (i:Int))<n then(12:Int) else 0)=0:=hv;rw[if_pos q] at hv; cases hv
   rw[jt hk] at a3;have a2:=bD a2;exact hg.free hk (by omega) (by omega)
 · exact hg
theorem UP {h:ai} (hg:HG h) (id:Int):HG (oe h id):=by
 unfold oe; split
 · rename_i hv;obtain⟨i,k,p,c,o,fI,ep⟩:=Bl hv;rw[ep]; exact o.cancel
 · exact hg
theorem UQ {h:ai} (hg:HG h) (id:Int):HG (oh h id):=by
 unfold oh; split
 · rename_i hv;obtain⟨i,k,p,c,o,fI,ep,st⟩:=sV (q:=kd id) (.inl rfl) hv;have ep:cN h id=p:=ep;rw[ep]; exact o.accept st
 · exact hg
theorem UR {h:ai} (hg:HG h) (id:Int):HG (om h id):=by
 unfold om; split
 · rename_i hv;obtain⟨i,k,p,c,o,fI,ep,st⟩:=sV (q:=ke id) (.inr rfl) hv;have ep:cN h id=p:=ep;rw[ep];have g:=o.FA st;exact g.put (k:=p.ag) (by rw[o.iv.2.2.1]; exact o.lY)
 · exact hg
theorem US {h:ai} (hg:HG h) (id ag al aj aO:Int):HG (oo h id ag al aj aO):=by
 unfold oo; split
 · rename_i hv;obtain⟨k,c,o⟩:=Bm hv;exact o.Mv rfl
 · exact hg
theorem UT {h:ai} (hg:HG h):HG (ov h):=by
 unfold ov; split
 · rename_i hv;obtain⟨h0,h1,h2⟩:=l4 hv;rw[Fl h0 h2 rfl] at hv;have hn:=bD hg.now;have:¬h.now=1000000:=fun q=>by rw[if_pos q] at hv; cases hv
   exact hg.tick (by omega)
 · exact hg
theorem By {h:ai} (hg:HG h) (q:bS):HG (jL h q):=by
 unfold jL stepOf
 repeat' split
 · exact US hg _ _ _ _ _
 · exact UP hg _
 · exact UO hg _ _
 · exact UQ hg _
 · exact UR hg _
 · exact UT hg
 · exact FP hg
 · exact hg
end Go.Proofs.YtpklefhdkkegiaaGreat

