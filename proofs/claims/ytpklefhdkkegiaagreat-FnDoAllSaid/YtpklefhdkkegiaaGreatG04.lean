/- Parts of a proof. No conditions. -/

import Derived.Test.YtpklefhdkkegiaaGreatG03
set_option linter.unusedSimpArgs false
set_option linter.unusedVariables false
namespace Go.Proofs.YtpklefhdkkegiaaGreat
open Go
theorem Ps {bs:List (Nat × an)} (hn:(bs.map (·.1)).Nodup) {k:Nat} {B:an} (h:(k,B)∈bs):aP bs k=some B:=by
 induction bs with
 | nil=>cases h
 | cons p r ih=>
   simp only[List.map_cons,List.nodup_cons] at hn;simp only[aP];cases h with
   | head=>simp
   | tail _ h=>
     rw[if_neg fun he=>hn.1 (by rw[he]; exact List.mem_map.2 ⟨_,h,rfl⟩)];exact ih hn.2 h
theorem ID {m:List (Nat × Nat)} {k k':Nat} (h:lk m k=some k'):(k,k')∈m:=by
 induction m with
 | nil=>cases h
 | cons p r ih=>
   simp only[lk] at h
   split at h
   · rename_i hp; cases h; subst hp; exact List.mem_cons_self
   · exact List.mem_cons_of_mem _ (ih h)
def inv:List (Nat × Nat)→Nat→Nat
 | [],_=>0
 | p::r,k=>if p.2=k then p.1 else inv r k
theorem Pt {m:List (Nat × Nat)} (h:eX (m.map (·.2))=true) {k k':Nat} (hm:(k,k')∈m):inv m k'=k:=by
 induction m with
 | nil=>cases hm
 | cons p r ih=>
   simp only[List.map_cons] at h;obtain⟨h1,h2⟩:=wQ h;simp only[inv];cases hm with
   | head=>simp
   | tail _ hm=>
     rw[if_neg fun he=>h1 (by rw[he]; exact List.mem_map.2 ⟨_,hm,rfl⟩)];exact ih h2 hm
theorem Pu {l:List Nat} (h:eX l=true):l.Nodup:=by
 induction l with
 | nil=>simp
 | cons x l ih=>obtain⟨h1,h2⟩:=wQ h; exact List.nodup_cons.2 ⟨h1,ih h2⟩
theorem IE {bs:List (Nat × an)} {m:List (Nat × Nat)}:∀{l:List (Nat × Nat)} {out:List (Nat × an)},oX bs m l=some out→
   out.map (·.1)=l.map (·.2)∧(∀q,q∈out→∃k B,(k,q.1)∈l∧aP bs k=some B∧q.2=B.d_ m∧(B.zO m=true→False))∧(∀p∈l,∃B,aP bs p.1=some B)
 | [],out,h=>by simp only[oX,Option.some.injEq] at h; subst h; exact⟨rfl,(fun q hq=>by cases hq),(fun p hp=>by cases hp)⟩
 | p :: l,out,h=>by
   simp only[oX] at h
   split at h
   · rename_i B l' hB hl
     split at h
     · cases h
     rename_i ck;cases h;obtain⟨h1,h2,h3⟩:=IE hl;refine⟨by simp[h1],fun q hq=> ?_,fun q hq=> ?_⟩
     · cases hq with
       | head=>exact⟨p.1,B,List.mem_cons_self,hB,rfl,ck⟩
       | tail _ hq=>obtain⟨k,A,g1,g2,g3⟩:=h2 q hq; exact⟨k,A,List.mem_cons_of_mem _ g1,g2,g3⟩
     · cases hq with
       | head=>exact⟨B,hB⟩
       | tail _ hq=>exact h3 q hq
   · cases h
section
variable {H : Hp} {ρ ρ' : aK} {D D' : Nat → Prop} {m : List (Nat × Nat)} (hm : ∀ k k', lk m k = some k' → D' k' ∧ (ρ' k').1 = (ρ k).1)
include hm
theorem RC.d_ {c:C} {v:Value} (h:RC H ρ D c v):RC H ρ' D' (c.d_ m) v:=by
 cases c with
 | lf l=>exact h
 | bl b=>exact h
 | nil=>exact h
 | own k=>
   simp only[C.d_]
   split
   · rename_i k' hk; obtain⟨_,h1⟩:=h; exact⟨(hm k k' hk).1,by rw[(hm k k' hk).2]; exact h1⟩
   · trivial
 | ptr k off=>
   simp only[C.d_]
   split
   · rename_i k' hk; obtain⟨_,b,h1,h2⟩:=h; exact⟨(hm k k' hk).1,b,by rw[(hm k k' hk).2]; exact h1,h2⟩
   · trivial
 | el E x off=>exact h
 | cg ls off=>exact h
 | fx k E i off=>
   simp only[C.d_]
   split
   · rename_i k' hk; obtain⟨_,b,o,n,c,h1,h2⟩:=h; exact⟨(hm k k' hk).1,b,o,n,c,by rw[(hm k k' hk).2]; exact h1,h2⟩
   · trivial
 | fn f l8=>
   simp only[C.d_]
   split
   · rename_i hc;obtain⟨vs,h1,h2,h3⟩:=h;refine⟨vs,h1,h2,fun j c hj=> ?_⟩;have ia:=List.all_eq_true.1 hc c (List.mem_of_getElem? hj);have:=h3 j c hj;cases c with
     | ptr k off=>cases ia
     | el E x off=>exact this
     | cg ls off=>exact this
   · trivial
 | undef=>trivial
omit hm in
theorem IF:∀{cs:List C} {j:Nat} {c:C},(mT m cs)[j]? = some c→∃c0,cs[j]? = some c0∧c=c0.d_ m
 | [],j,c,h=>by simp[mT] at h
 | c0::cs,0,c,h=>by simp[mT] at h; exact⟨c0,rfl,h.symm⟩
 | c0::cs,j+1,c,h=>by simp only[mT,List.getElem?_cons_succ] at h ⊢; exact IF h
omit hm in
theorem IG:∀{cs:List C},(mT m cs).length=cs.length
 | []=>rfl
 | c::cs=>by simp[mT,IG (cs:=cs)]
theorem db.d_ {cs:List C} {vs:Array Value} (h:db H ρ D cs vs):db H ρ' D' (mT m cs) vs:=by
 refine⟨by rw[IG]; exact h.1,fun j c hj=> ?_⟩;obtain⟨c0,h1,rfl⟩:=IF hj;exact(h.2 j c0 h1).d_ hm
theorem RV.d_ {c:V} {v:Value} (h:RV H ρ D c v):RV H ρ' D' (c.d_ m) v:=by
 cases c with
 | c x=>exact RC.d_ hm h
 | agg cs=>obtain⟨vs,h1,h2⟩:=h; exact⟨vs,h1,h2.d_ hm⟩
 | aS cs=>
   cases cs with
   | nil=>obtain⟨vs,h1,h2,h3⟩:=h; exact⟨vs,h1,h2,fun j p hj=>by simp at hj⟩
   | cons p ps=>trivial
omit hm in
theorem IH {L:List Nat}:∀{vs:List V} {i j:Nat} {c:V},(qq L m i vs)[j]? = some c→c = .c .undef∨∃c0,vs[j]? = some c0∧c=c0.d_ m
 | [],i,j,c,h=>by simp[qq] at h
 | v ::vs,i,0,c,h=>by
   simp only[qq,List.getElem?_cons_zero,Option.some.injEq] at h
   split at h
   · exact .inr ⟨v,rfl,h.symm⟩
   · exact .inl h.symm
 | v::vs,i,j+1,c,h=>by simp only[qq,List.getElem?_cons_succ] at h ⊢; exact IH h
omit hm in
theorem II {L:List Nat}:∀{vs:List V} {i:Nat},(qq L m i vs).length=vs.length
 | [],i=>rfl
 | v::vs,i=>by simp[qq,II (vs:=vs)]
end
theorem IJ {ρ ρ':aK} {x:Nat}:∀{l:List (Nat × Nat)} {out:List (Nat × an)},out.map (·.1)=l.map (·.2)→(∀p∈l,ρ' p.2=ρ p.1)→aT ρ' out x=bW ρ (l.map (·.1)) x
 | [],out,h,_=>by
   have:out = []:=by simpa using h
   subst this; rfl
 | p ::l,out,h,hp=>by
   cases out with
   | nil=>simp at h
   | cons q out=>
     simp only[List.map_cons,List.cons.injEq] at h;simp only[aT,List.map_cons,bW];rw[h.1,hp p List.mem_cons_self,IJ h.2 fun q hq=>hp q (List.mem_cons_of_mem _ hq)]
theorem gk.d_ {B:an} {m:List (Nat × Nat)} {p:Value × (Nat→Nat)} {x:Nat} (h:gk (B.d_ m) p x):gk B p x:=by
 cases B with
 | dead=>exact h
 | box cs=>exact h
 | own E xs l=>exact h
 | view E xs=>exact h
 | mp m=>exact h
 | ck E xs i fs=>exact h
theorem Pv {m:List (Nat × Nat)}:∀{fs:List (Option Nat)},oW m fs=true→∀(i q j:Nat),(filled fs i q j=none∧filled (mU m fs) i q j=none)∨∃k k',filled fs i q j=some k∧filled (mU m fs) i q j=some k'∧lk m k=some k':=by
 have key :∀{fs:List (Option Nat)},oW m fs=true→∀j:Nat,((∀k,fs[j]? ≠some (some k))∧∀k,(mU m fs)[j]? ≠some (some k))∨∃k k',fs[j]? = some (some k)∧(mU m fs)[j]? = some (some k')∧lk m k=some k':=by
   intro fs
   induction fs with
   | nil=>intro _ j; exact .inl ⟨by simp,by simp[mU]⟩
   | cons f fs ih=>
     intro h j;cases f with
     | none=>
       simp only[oW] at h;cases j with
       | zero=>exact .inl ⟨by simp,by simp[mU]⟩
       | succ j=>simpa [mU] using ih h j
     | some k=>
       simp only[oW] at h
       split at h
       · rename_i k' hk;cases j with
         | zero=>exact .inr ⟨k,k',by simp,by simp[mU,hk],hk⟩
         | succ j=>simpa [mU] using ih h j
       · cases h
 intro fs h i q j;unfold filled
 split
 · rcases key h j with⟨h1,h2⟩ | ⟨k,k',h1,h2,h3⟩
   · refine .inl ⟨?_, ?_⟩
     · split
       · rename_i k hk; exact(h1 k hk).elim
       · rfl
     · split
       · rename_i k hk; exact(h2 k hk).elim
       · rfl
   · exact .inr ⟨k,k',by rw[h1],by rw[h2],h3⟩
 · exact .inl ⟨rfl,rfl⟩
section
variable {Γ : Ctx} {σ az : SS} {a : Act} {w : World}
theorem gw.iv {h:Array Obj} {H0 H:Hp} {ρ:aK} {bl:List (Nat × an)} {m:List (Nat × Nat)} {bs:List (Nat × an)} (hb:oX bl m m=some bs) (h1:eX (m.map (·.1))=true) (h2:eX (m.map (·.2))=true)
   (r:gw h H0 H ρ bl):gw h H0 H (fun k=>ρ (inv m k)) bs∧(∀k k',lk m k=some k'→ay bs k'∧(ρ (inv m k')).1=(ρ k).1)∧∀k k',(k,k')∈m→ay bs k'∧ρ (inv m k')=ρ k:=by
 obtain⟨g1,g2,g3⟩:=IE hb
 let ρ':aK:=fun k=>ρ (inv m k)
 have jP:∀k k',(k,k')∈m→ρ' k'=ρ k:=fun k k' hk=>by simp only[ρ',Pt h2 hk]
 have lr:∀k k',(k,k')∈m→ay bs k':=fun k k' hk=>by
   unfold ay; rw[g1]; exact List.mem_map.2 ⟨_,hk,rfl⟩
 have hm:∀k k',lk m k=some k'→ay bs k'∧(ρ' k').1=(ρ k).1:=fun k k' hk=>⟨lr k k' (ID hk),by rw[jP k k' (ID hk)]⟩
 have hq:∀k' B',(k',B')∈bs→∃k B,(k,B)∈bl∧ρ' k'=ρ k∧B'=B.d_ m∧(B.zO m=true→False):=fun k' B' hk=>by
   obtain⟨k,B,f1,f2,f3,f4⟩:=g2 _ hk;exact⟨k,B,dk f2,jP k k' f1,f3,f4⟩
 refine⟨⟨?_,by rw[g1]; exact Pu h2,r.h0,r.hh, ?_, ?_, ?_, ?_⟩,hm,fun k k' hk=>⟨lr k k' hk,jP k k' hk⟩⟩
 · intro k hk;obtain⟨⟨k',B'⟩,f1,rfl⟩:=List.mem_map.1 hk;obtain⟨k,B,f2,f3,_⟩:=hq _ _ f1;have f3:ρ (inv m k')=ρ k:=f3;simp only;rw[f3]; exact r.oc k (rk f2)
 · intro k' B' hk;obtain⟨k,B,f2,f3,rfl,f4⟩:=hq _ _ hk;have f3:ρ (inv m k')=ρ k:=f3;rw[f3];have:=r.ah k B f2;cases B with
   | dead=>exact this
   | box cs=>obtain⟨b,vs,e,fz,e1,e2,e3,e4,e5⟩:=this; exact⟨b,vs,e,fz,e1,e2,e3,e4,e5.d_ hm⟩
   | own E xs l=>exact this
   | view E xs=>exact this
   | mp m=>exact this
   | ck E xs i fs=>
     have fk:oW m fs=true:=by
       cases ha:oW m fs with
       | true=>rfl
       | false=>exact(f4 (by simp[an.zO,ha])).elim
     obtain⟨b,o,c,cs,e,fz,S,e1,e2,e3,e4,e5,e6,e7,e8,e9⟩:=this;refine⟨b,o,c,cs,e,fz,S,e1,e2,e3,e4,e5,e6,e7,e8,fun q x hx j l hj=> ?_⟩;have z8:=e9 q x hx j l hj;rcases Pv fk (i ()) q j with⟨f5,f6⟩ | ⟨k,k',f5,f6,f7⟩
     · rw[f5] at z8;rw[f6];exact z8
     · rw[f5] at z8;rw[f6];obtain⟨Wm,xw,Pw⟩:=z8;exact⟨(hm k k' f7).1,by rw[(hm k k' f7).2]; exact xw,Pw⟩
 · intro x;rw[IJ (ρ:=ρ) (ρ':=ρ') g1 fun p hp=>jP p.1 p.2 hp]
   exact Nat.le_trans (mI _ h1 (fun k hk=>by
     obtain⟨p,hp,rfl⟩:=List.mem_map.1 hk;obtain⟨B,hB⟩:=g3 p hp;exact fP hB) x) (r.sum x)
 · intro k' B' hk x hx;obtain⟨k,B,f2,f3,_⟩:=hq _ _ hk;have f3:ρ (inv m k')=ρ k:=f3;rw[f3] at hx;exact r.fresh k B f2 x hx
 · intro k' B' hk x hx;obtain⟨k,B,f2,f3,rfl,_⟩:=hq _ _ hk;have f3:ρ (inv m k')=ρ k:=f3;rw[f3] at hx;exact r.im k B f2 x hx.d_
theorem Rel.iv (bT:Γ.hd = []) {L:List Nat} {m:List (Nat × Nat)} {bs:List (Nat × an)} (hb:oX σ.ah m m=some bs) (h1:eX (m.map (·.1))=true) (h2:eX (m.map (·.2))=true)
   (iu:∀p∈Γ.hm,lk m p.1=some p.1) (r:Rel Γ σ a w):Rel Γ {env:=qq L m 0 σ.env,ah:=bs} a w:=by
 obtain⟨H,ρ,r⟩:=r;obtain⟨rb,hm,_⟩:=r.b.iv hb h1 h2;refine⟨H,_,⟨rb,⟨by rw[II]; exact r.e.size,fun j c hj=> ?_⟩,r.d,r.n,(by rw[bT]; intro p hp; cases hp),fun p hp=> ?_⟩⟩
 · rcases IH hj with rfl | ⟨c0,f1,rfl⟩
   · trivial
   · exact(r.e.get j c0 f1).d_ hm
 · obtain⟨f1,f2⟩:=hm _ _ (iu p hp);exact⟨f1,by rw[f2]; exact(r.hm p hp).2⟩
theorem Rel.mW (bT:Γ.hd = []) {k:Nat} (r:Rel Γ σ a w):Rel Γ {σ with ah:=Go.Proofs.YtpklefhdkkegiaaGreat.mW σ.ah k} a w:=by
 unfold Go.Proofs.YtpklefhdkkegiaaGreat.mW
 split
 · split
   · rename_i cm hc;obtain⟨H,ρ,r⟩:=r;obtain⟨ρ',r',_⟩:=aM.close bT r hc;exact⟨H,ρ',r'⟩
   · exact r
 · exact r
theorem Rel.closeAll (bT:Γ.hd = []):∀{ks:List Nat} {σ:SS},Rel Γ σ a w→Rel Γ {σ with ah:=Go.Proofs.YtpklefhdkkegiaaGreat.closeAll ks σ.ah} a w
 | [],_,r=>r
 | _::ks,_,r=>Rel.closeAll bT (ks:=ks) (r.mW bT)
theorem Rel.oY (bT:Γ.hd = []) {m:List (Nat × Nat)}:∀{ks:List Nat} {σ:SS},Rel Γ σ a w→Rel Γ {σ with ah:=Go.Proofs.YtpklefhdkkegiaaGreat.oY m ks σ.ah} a w
 | [],_,r=>r
 | k ::ks,σ,r=>by
   unfold Go.Proofs.YtpklefhdkkegiaaGreat.oY
   split
   · exact Rel.oY bT (ks:=ks) r
   · exact Rel.oY bT (ks:=ks) (r.mW bT)
theorem IK {m:List (Nat × Nat)}:∀{ks:List Nat},zP m ks=true→∀k∈ks,lk m k=some k
 | [],_,k,hk=>by cases hk
 | j ::ks,h,k,hk=>by
   simp only[zP,Bool.and_eq_true] at h;cases hk with
   | head=>
     have h1:=h.1
     split at h1
     · rename_i k' bL; rw[bL]; simpa using h1
     · cases h1
   | tail _ hk=>exact IK h.2 k hk
theorem Rel.vg {mt:rR} (h:σ.vg mt=some az) (r:Rel Γ σ a w):Rel Γ az a w:=by
 obtain⟨H,ρ,r⟩:=r
 have nw:∀(k:Nat) (E:av),aP σ.ah k=none→∃ρ',aM Γ H ρ' (σ.new k (.own E (fun _=>[]) false)) a w∧(ρ' k).1 = .slice none 0 0:=fun k E hk=>
   ⟨de ρ k (.slice none 0 0,fun _=>0),r.th (p:=(.slice none 0 0,fun _=>0)) hk (fun _ _ _=>rfl) (fun _ _=>rfl) (Ext.refl _) rfl (fun x hx=>by simp at hx) (fun x=>by simp) (bx.nil rfl) (by simp),by rw[dM]⟩
 cases mt with
 | env s E k=>
   simp only[SS.vg] at h
   split at h
   · rename_i v hv hk
     split at h
     · rename_i hn;cases h;obtain⟨ρ',r1,h1⟩:=nw k E hk
       have Px:v = .c .nil:=by
         unfold H_ at hn
         split at hn
         · rfl
         · cases hn
       subst Px;refine⟨H,ρ',r1.b,⟨by simpa [SS.new] using r1.e.size,fun j c hj=> ?_⟩,r1.d,r1.n,r1.hd,r1.hm⟩;rw[List.getElem?_set] at hj
       split at hj
       · rename_i hs
         split at hj
         · cases hj;have:=r.e.get s _ hv;simp only[RV,RC] at this;subst hs;exact⟨gx.2 (.inl rfl),by rw[this,h1]⟩
         · cases hj
       · exact r1.e.get j c hj
     · cases h
   · cases h
 | box bk c E k=>
   simp only[SS.vg] at h
   split at h
   · rename_i cs oU hk
     split at h
     · rename_i x hx
       split at h
       · rename_i hn;cases h;obtain⟨ρ',r1,h1⟩:=nw k E hk
         have tg:x = .nil:=by
           unfold Ia at hn
           split at hn
           · rfl
           · cases hn
         subst tg;have hg:aP (dA σ.ah k (.own E (fun _=>[]) false)) bk=some (.box cs):=Ps r1.b.nd (wz.2 (.inr (dk oU)));obtain⟨b,vs,e,fz,f1,f2,f3,f4,f5⟩:=r1.b.ah bk _ (dk hg);have f6:=f5.2 c _ hx;simp only[RC] at f6;refine⟨H,ρ',r1.wW (w':=w) hg (fun _ _=>rfl) (Ext.refl _) ⟨b,vs,e,fz,f1,f2,f3,f4,by simpa using f5.1,fun j y hj=> ?_⟩ (fun _ h=>h) (fun _ h=>h)⟩;rw[List.getElem?_set] at hj
         split at hj
         · rename_i Py
           split at hj
           · cases hj;subst Py;exact⟨gx.2 (.inl rfl),by rw[f6,h1]⟩
           · cases hj
         · exact f5.2 j y hj
       · cases h
     · cases h
   · cases h
theorem Rel.qp:∀{ms:List rR} {σ az:SS},σ.qp ms=some az→Rel Γ σ a w→Rel Γ az a w
 | [],σ,az,h,r=>by simp only[SS.qp,Option.some.injEq] at h; subst h; exact r
 | m ::ms,σ,az,h,r=>by
   simp only[SS.qp] at h
   split at h
   · rename_i cX h1; exact Rel.qp h (r.vg h1)
   · cases h
theorem Rel.norm (bT:Γ.hd = []) {pk:List Nat} (iu:∀p∈Γ.hm,p.1∈pk) {N:Norm} (h:σ.norm pk N=some az) (r:Rel Γ σ a w):Rel Γ az a w:=by
 unfold SS.norm at h
 split at h
 · rename_i cX h1
   split at h
   · rename_i bs hb
     split at h
     · rename_i hn;cases h;exact Rel.iv (σ:={cX with ah:=Go.Proofs.YtpklefhdkkegiaaGreat.oY N.nm (cX.ah.map (·.1)) cX.ah}) bT hb hn.1 hn.2.1 (fun p hp=>IK hn.2.2 _ (iu p hp)) ((r.qp h1).oY bT)
     · cases h
   · cases h
 · cases h
end
theorem PA {P:Program} {c:Code} {Q:Exit→Act→World→Prop} (I:Nat→Act→World→Prop)
  (round:∀n a w,I n a w→c.wp P (Exit.then (fun a' w'=>∃m,m<n∧I m a' w') Q) a w) {n:Nat} {a:Act} {w:World} (PB:I n a w):(Code.loop c).wp P Q a w:=by
 intro b k cs
 have key:∀n a w,I n a w→∃e a' w',Q e a' w'∧Arrives P (lone (b.at a (.code c:: .inLoop c::k)) cs w) b k cs e a' w':=by
  intro n
  induction n using Nat.strongRecOn with
  | _ n ih=>
    intro a w hI;obtain⟨e,vo,vp,hq,rX⟩:=round n a w hI b (.inLoop c::k) cs;cases e with
    | normal=>
      obtain⟨m,aQ,PC⟩:=hq;obtain⟨PD,PE,PF,PG,PH⟩:=ih m aQ vo vp PC;exact⟨PD,PE,PF,PG, .of_steps (Steps.trans rX (.one step_inLoop)) PH⟩
    | exit id=>exact⟨_,vo,vp,hq, .pass (x:= .inLoop c) rfl (fun _ _=> .inl (by simp)) rX⟩
    | goto l=>exact⟨_,vo,vp,hq, .pass (x:= .inLoop c) rfl (fun _ _=> .inl (by simp)) rX⟩
    | ret=>exact⟨_,vo,vp,hq, .pass (x:= .inLoop c) rfl (fun _ _=> .inl (by simp)) rX⟩
    | panic ch=>exact⟨_,vo,vp,hq, .pass (x:= .inLoop c) rfl (fun _ _=> .inl (by simp)) rX⟩
    | outgrown=>exact⟨_,vo,vp,hq, .pass (x:= .inLoop c) rfl (fun _ _=> .inl (by simp)) rX⟩
 obtain⟨e,a',w',hq,rX⟩:=key n a w PB;exact⟨e,a',w',hq, .of_steps (.one step_loop) rX⟩
theorem cO.top {h:Array Obj} {H:Hp} {ρ:aK} {D:Nat→Prop} {B:an} {p:Value × (Nat→Nat)} {x:Nat} (hB:cO h H ρ D B p) (ht:gk B p x):0<p.2 x:=by
 cases B with
 | own E xs l=>
   cases l with
   | false=>exact ht
   | true=>
     obtain⟨o,n,c,e⟩:=ht;obtain⟨v,S⟩:=p;simp only at e;subst e;have ho:bx h (.list E xs) (.slice (some ⟨x,o,none⟩) n c) S:=hB;generalize hl:Lf.list E xs=l at ho;generalize hv:Value.slice (some ⟨x,o,none⟩) n c=v at ho;cases ho with
     | list S hb=>cases hv; exact kQ _ _ _ _
     | nil h0=>cases hv
     | int hr=>cases hl
     | bool=>cases hl
     | str hm=>cases hl
 | box cs=>exact ht
 | ck E xs i fs=>exact ht
 | mp m=>exact ht
 | dead=>exact ht.elim
 | view E xs=>exact ht.elim
section
variable {Γ : Ctx} {H : Hp} {a : Act} {w : World}
theorem aM.PI (bT:Γ.hd = []) {ρ:aK} {σ:SS} (r:aM Γ H ρ σ a w) {k:Nat} {E:av} {xs:Unit→List E.α} (hk:aP σ.ah k=some (.own E xs false)):∃H' ρ',aM Γ H' ρ' {σ with ah:=bZ σ.ah k (.view E xs)} a w:=by
 have hm:=dk hk;have ho:bx w.heap (.list E xs) (ρ k).1 (ρ k).2:=r.b.ah k _ hm;have hd:ay (bZ σ.ah k (.view E xs))=ay σ.ah:=Db
 let H':Hp:=fun b=>if 0<(ρ k).2 b then w.heap[b]? else H b
 have IL:∀b o,H b=some o→H' b=some o:=fun b o hb=>by
   show(if 0<(ρ k).2 b then w.heap[b]? else H b)=some o
   split
   · exact r.b.hh b o hb
   · exact hb
 have hv:∀j,(de ρ k ((ρ k).1,fun _=>0) j).1=(ρ j).1:=fun j=>by
   by_cases e:j=k
   · subst e; rw[dM]
   · rw[dm e]
 have g:ki H H' ρ (de ρ k ((ρ k).1,fun _=>0)) (ay σ.ah) (ay σ.ah):=⟨IL,fun j hj=>⟨hj,hv j⟩⟩
 refine⟨H',de ρ k ((ρ k).1,fun _=>0),⟨⟨fun j hj=>by rw[hv]; exact r.b.oc j (hd▸hj),by rw[s9]; exact r.b.nd,fun b o hb=>IL b o (r.b.h0 b o hb),fun b o hb=> ?_,fun j B hj=> ?_,fun x=> ?_,fun j B hj x hx=> ?_,fun j B hj x hx=> ?_⟩,
   ?_,r.d,r.n,fun p hp=>(by rw[bT] at hp; cases hp),fun p hp=> ?_⟩⟩
 · have hb:(if 0<(ρ k).2 b then w.heap[b]? else H b)=some o:=hb
   split at hb
   · exact hb
   · exact r.b.hh b o hb
 · show cO w.heap H' (de ρ k ((ρ k).1,fun _=>0)) (ay (bZ σ.ah k (.view E xs))) B (de ρ k ((ρ k).1,fun _=>0) j);rw[hd];rcases kR r.b.nd hj with⟨rfl,rfl⟩ | ⟨hne,h⟩
   · rw[dM];exact⟨ho.rl fun b h0=>by show(if 0<(ρ j).2 b then w.heap[b]? else H b)=_; rw[if_pos h0],rfl⟩
   · rw[dm hne];exact(r.b.ah j B h).mono g fun _ _=>rfl
 · have h1:=s_ (ρ:=ρ) (ρ':=de ρ k ((ρ k).1,fun _=>0)) r.b.nd (B:= .view E xs) (fP hk) (fun j hj=>dm hj) x;rw[dM] at h1;have h2:=r.b.sum x;show aT (de ρ k ((ρ k).1,fun _=>0)) (bZ σ.ah k (.view E xs)) x≤1;simp only[Nat.add_zero] at h1;omega
 · rcases kR r.b.nd hj with⟨rfl,rfl⟩ | ⟨hne,h⟩
   · rw[dM] at hx; simp at hx
   · rw[dm hne] at hx; exact r.b.fresh j B h x hx
 · rcases kR r.b.nd hj with⟨rfl,rfl⟩ | ⟨hne,h⟩
   · exact hx.elim
   · rw[dm hne] at hx;have h1:=(r.b.ah j B h).top hx;have h2:=tw (ρ:=ρ) (fP hk) (rk h) hne x;have h3:=r.b.sum x;show(if 0<(ρ k).2 x then w.heap[x]? else H x)=none;rw[if_neg (by omega)];exact r.b.im j B h x hx
 · show oC H' (de ρ k ((ρ k).1,fun _=>0)) (ay (bZ σ.ah k (.view E xs))) σ.env a.tmps;rw[hd]; exact r.e.grow g
 · have:=r.hm p hp;exact⟨by show ay (bZ σ.ah k (.view E xs)) p.1; rw[hd]; exact this.1,by rw[hv]; exact this.2⟩
theorem Rel.nI (bT:Γ.hd = []) {E:av}:∀(ks:List Nat) {σ:SS},Rel Γ σ a w→Rel Γ {σ with ah:=Go.Proofs.YtpklefhdkkegiaaGreat.nI E ks σ.ah} a w
 | [],_,r=>r
 | k ::ks,σ,r=>by
   simp only[Go.Proofs.YtpklefhdkkegiaaGreat.nI]
   split
   · rename_i E' xs hk
     split
     · obtain⟨H,ρ,r⟩:=r;exact Rel.nI bT ks (r.PI bT hk)
     · exact Rel.nI bT ks r
   · exact Rel.nI bT ks r
theorem Rel.qw (bT:Γ.hd = []) {n id:Nat}:∀(l:List (Nat × Nat × av)) {σ:SS},Rel Γ σ a w→Rel Γ {σ with ah:=Go.Proofs.YtpklefhdkkegiaaGreat.qw l n id σ.ah} a w
 | [],_,r=>r
 | p ::l,σ,r=>by
   simp only[Go.Proofs.YtpklefhdkkegiaaGreat.qw]
   split
   · exact Rel.qw bT l (Rel.nI bT (E:=p.2.2) (σ.ah.map (·.1)) r)
   · exact Rel.qw bT l r
theorem Rel.tL (bT:Γ.hd = []) {tab:bh} {id:Nat} {σ:SS} (r:Rel Γ σ a w):Rel Γ (σ.tL tab id) a w:=by
 unfold SS.tL
 split
 · exact r
 · exact Rel.qw bT _ r
end
theorem z_ {P:Program} {tab:bh} {fr:Bool} (hT:fy P tab=true) {Γ:Ctx} (bT:Γ.hd = []) {pk:List Nat} (iu:∀p∈Γ.hm,p.1∈pk):∀(c:Code),(fr=true→gF c=true)→∀{σ:SS} {a:Act} {w:World} {K:Exit→SS→Prop} {Q:Exit→Act→World→Prop},mY P tab fr pk c σ K→Rel Γ σ a w→
   (∀e az a' w',K e az→Rel Γ az a' w'→Q e a' w')→c.wp P Q a w:=by
 intro c
 induction c with
 | skip=>intro eZ σ a w K Q h r hQ; exact wp_skip (hQ _ _ _ _ h r)
 | region id ops draw=>
   intro eZ σ a w K Q h r0 hQ;obtain⟨σ,h,r0⟩:=Pe h bT iu r0;have r:=r0.tL bT (tab:=tab) (id:=id);cases draw with
   | false=>exact wp_region_list (xp hT bT _ h r fun az a' w' h' r'=>hQ _ _ _ _ h' r')
   | true=>
     cases fr with
     | true=>exact Pq hT bT (by simpa [gF] using eZ rfl) h r fun az a' w' h' r'=>hQ _ _ _ _ h' r'
     | false=>exact Pj hT bT h r fun az a' w' h' r'=>hQ _ _ _ _ h' r'
 | seq x y Aa Ab=>
   intro eZ σ a w K Q h r hQ;have h2:fr=true→gF x=true∧gF y=true:=fun h=>by have:=eZ h; simpa [gF] using this
   refine wp_seq (Aa (fun h=>(h2 h).1) h r fun e az a' w' h' r'=> ?_);cases e with
   | normal=>exact Ab (fun h=>(h2 h).2) h' r' hQ
   | exit id=>exact hQ _ _ _ _ h' r'
   | goto l=>exact hQ _ _ _ _ h' r'
   | ret=>exact hQ _ _ _ _ h' r'
   | panic ch=>exact hQ _ _ _ _ h' r'
   | outgrown=>exact hQ _ _ _ _ h' r'
 | cond c x y Aa Ab=>
   intro eZ σ a w K Q h r hQ;have h2:fr=true→gF x=true∧gF y=true:=fun h=>by have:=eZ h; simpa [gF] using this
   simp only[mY] at h;have hc:RV _ _ _ (σ.ev c) (a.eval c):=km r.choose_spec.choose_spec.e c
   split at h
   · rename_i hv;rw[hv] at hc;exact wp_cond (t:=true) hc (Aa (fun h=>(h2 h).1) h r hQ)
   · rename_i hv;rw[hv] at hc;exact wp_cond (t:=false) hc (Ab (fun h=>(h2 h).2) h r hQ)
   · rename_i t hv;rw[hv] at hc;have jx:=RL.of_bool hc;obtain⟨h⟩:=h;refine wp_cond jx ?_;cases ht:t () with
     | true=>rw[ht] at h; exact Aa (fun h=>(h2 h).1) h r hQ
     | false=>rw[ht] at h; exact Ab (fun h=>(h2 h).2) h r hQ
   · cases h
 | block id x ih=>
   intro eZ σ a w K Q h r hQ;refine wp_block (ih (fun h=>by have:=eZ h; simpa [gF] using this) h r fun e az a' w' h' r'=> ?_);cases e with
   | exit i=>
     simp only[Exit.inBlock];simp only at h'
     split at h'
     · rename_i hi; rw[if_pos hi]; exact hQ _ _ _ _ h' r'
     · rename_i hi; rw[if_neg hi]; exact hQ _ _ _ _ h' r'
   | normal=>exact hQ _ _ _ _ h' r'
   | goto l=>exact hQ _ _ _ _ h' r'
   | ret=>exact hQ _ _ _ _ h' r'
   | panic ch=>exact hQ _ _ _ _ h' r'
   | outgrown=>exact hQ _ _ _ _ h' r'
 | loop x ih=>
   intro eZ σ a w K Q h r hQ;obtain⟨X,st,φ,m,x0,h0,hs,hr⟩:=h;refine PA (fun n a w=>∃x,φ x∧m x ()=n∧Rel Γ (st x) a w) (fun n a w ⟨x,hx,hm,r⟩=> ?_) (n:=m x0 ()) ⟨x0,h0,rfl,hs Γ a w bT iu r⟩;refine ih (fun h=>by have:=eZ h; simpa [gF] using this) (hr x hx) r fun e az a' w' h' r'=> ?_;cases e with
   | normal=>
     obtain⟨x',wL,tg,PJ⟩:=h';exact⟨m x' (),by rw[←hm]; exact wL,x',tg,rfl,PJ Γ a' w' bT iu r'⟩
   | exit id=>exact hQ _ _ _ _ h' r'
   | goto l=>exact hQ _ _ _ _ h' r'
   | ret=>exact hQ _ _ _ _ h' r'
   | panic ch=>exact hQ _ _ _ _ h' r'
   | outgrown=>exact hQ _ _ _ _ h' r'
 | exit id=>intro eZ σ a w K Q h r hQ; exact wp_exit (hQ _ _ _ _ h r)
 | ret=>intro eZ σ a w K Q h r hQ; exact wp_ret (hQ _ _ _ _ h r)
 | _=>intro eZ σ a w K Q h r hQ; exact h.elim
def deep:(E:av)→E.α→Prop
 | .cE,x=>x.length≤cM
 | .ag,x=>x.row.length≤cM∧x.spoke.length≤cM∧∀s∈x.spoke,s.length≤cM
 | .rep,x=>x.ids.length≤cM
 | .str,x=>x.length≤cM
 | _,_=>True
def IM:Lf→Prop
 | .list E t=>(t ()).length≤cM∧∀x∈t (),deep E x
 | .str t=>(t ()).length≤cM
 | .int .i64 t=> -9223372036854775808≤t ()∧t ()≤9223372036854775807
 | _=>True
def DF:C→Prop
 | .lf l=>IM l
 | _=>True
def Ac:List C→Prop
 | []=>True
 | c::cs=>DF c∧Ac cs
def ky:List V→Prop
 | []=>True
 | .c x::vs=>DF x∧ky vs
 | .agg cs::vs=>Ac cs∧ky vs
 | .aS _::vs=>ky vs
theorem RL.len {H:Hp} {E:av} {t:Unit→List E.α} {v:Value} (h:RL H (.list E t) v):(t ()).length≤cM:=by
 cases h with
 | nil h=>rw[h]; simp[cM]
 | list hb hl hm ho hc=>exact hm
theorem RL.elem {H:Hp} {E:av} {t:Unit→List E.α} {v:Value} (h:RL H (.list E t) v):∀x∈t (),∃f:Nat→Value,∀j l,(bY E fun _=>x)[j]? = some l→RL H l (f j):=by
 cases h with
 | nil h=>intro x hx; rw[h] at hx; cases hx
 | list hb hl hm ho hc=>
   intro x hx;obtain⟨i,hi,rfl⟩:=List.getElem_of_mem hx;exact⟨fun j=>_,fun j l hj=>hc i _ (List.getElem?_eq_getElem hi) j l hj⟩
theorem RL.deep {H:Hp} {E:av} {x:E.α} {f:Nat→Value} (h:∀j l,(bY E fun _=>x)[j]? = some l→RL H l (f j)):Go.Proofs.YtpklefhdkkegiaaGreat.deep E x:=by
 cases E with
 | cE=>exact(h 0 _ rfl).len
 | ag=>
   have h6:=h 6 _ rfl;refine⟨(h 5 _ rfl).len,h6.len,fun s hs=> ?_⟩;obtain⟨g,hg⟩:=h6.elem s hs;exact(hg 0 _ rfl).len
 | rep=>exact(h 1 _ rfl).len
 | str=>exact(RL.l9 (h 0 _ rfl)).2
 | _=>trivial
theorem RL.ok {H:Hp} {l:Lf} {v:Value} (h:RL H l v):IM l:=by
 cases l with
 | int k t=>
   have h2:=(RL.of_int h).2;cases k <;> first | exact tc.1 h2 | trivial
 | bool t=>trivial
 | str t=>exact(RL.l9 h).2
 | list E t=>exact⟨h.len,fun x hx=>by obtain⟨f,hf⟩:=h.elem x hx; exact RL.deep hf⟩
theorem RC.ok {H:Hp} {ρ:aK} {D:Nat→Prop} {c:C} {v:Value} (h:RC H ρ D c v):DF c:=by
 cases c with
 | lf l=>exact RL.ok h
 | _=>trivial
theorem db.ok {H:Hp} {ρ:aK} {D:Nat→Prop} {f:Nat→Value}:∀{cs:List C},(∀(j:Nat) c,cs[j]? = some c→RC H ρ D c (f j))→Ac cs:=by
 intro cs
 induction cs generalizing f with
 | nil=>intro _; trivial
 | cons c cs ih=>intro h; exact⟨(h 0 c rfl).ok,ih (f:=fun j=>f (j+1)) fun j c hj=>h (j+1) c (by simpa using hj)⟩
theorem Ad {H:Hp} {ρ:aK} {D:Nat→Prop} {f:Nat→Value}:∀{as:List V},(∀(j:Nat) c,as[j]? = some c→RV H ρ D c (f j))→ky as:=by
 intro as
 induction as generalizing f with
 | nil=>intro _; trivial
 | cons c cs ih=>
   intro h;have h1:=ih (f:=fun j=>f (j+1)) fun j c hj=>h (j+1) c (by simpa using hj);cases c with
   | c x=>exact⟨RC.ok (h 0 _ rfl),h1⟩
   | agg l=>obtain⟨vs,_,h2⟩:=h 0 _ rfl; exact⟨db.ok (f:=fun j=>vs.getD j Go.undef) h2.2,h1⟩
   | aS l=>exact h1
def start (as:List V) (n:Nat):SS:={env:=as++List.replicate (n - as.length) (.c .undef),ah:=[]}
def SS.shut (σ:SS):SS:={σ with ah:=closeAll (σ.ah.map (·.1)) σ.ah}
def IN (P:Program) (tab:bh) (fr:Bool) (fn:Func) (c:Code) (as:List V) (post:V→List an→Prop):Prop:=
 mY P tab fr [] c (start as fn.ntmps) fun e σ=>match e with
  | .normal=>fin tab fn.results.toList post σ.shut
  | .ret=>fin tab fn.results.toList post σ.shut
  | _=>False
theorem PK {P : Program} {tab : bh} (hT : fy P tab = true) {f : FuncId} {fn : Func} {c : Code} (hf : P.funcs[f]? = some fn) (hb : fn.body = some c) (fB : (fn.name == "runtime.NumGoroutine") = false)
  {fr:Bool} (eZ:fr=true→gF c=true) {as:List V} {post:V→List an→Prop} (h:ky as→IN P tab fr fn c as post):Spec P f as post:=by
 refine⟨⟨fn,hf,fB,by rw[hb]; rfl⟩,fun w vs dN=> ?_⟩;refine calls_of_wp hf hb ?_
 let Γ:Ctx:=⟨fun b=>w.heap[b]?,[],w,[]⟩
 have r:Rel Γ (start as fn.ntmps) {tmps:=vs++Array.replicate (fn.ntmps - vs.size) Go.undef,defers:=[]} w:=by
  refine⟨fun b=>w.heap[b]?,fun _=>default,⟨⟨fun k hk=>by simp[ay,start] at hk,by simp[start],fun _ _ h=>h,fun _ _ h=>h,fun k B hk=>by simp[start] at hk,fun x=>by simp[start,aT],
    fun k B hk=>by simp[start] at hk,fun k B hk=>by simp[start] at hk⟩,⟨by simp[start,dN.1],fun j c hj=> ?_⟩,rfl,Ext.refl _,(fun p hp=>by cases hp),fun p hp=>by cases hp⟩⟩
  have e:ay (start as fn.ntmps).ah=fun _=>False:=by funext k; simp[ay,start]
  rw[e];simp only[start] at hj;rcases Nat.lt_or_ge j as.length with aQ | k_
  · rw[List.getElem?_append_left aQ] at hj;have:=dN.2 j c hj;rw[Array.getD_eq_getD_getElem?,Array.getElem?_append_left (by rw[dN.1]; exact aQ),←Array.getD_eq_getD_getElem?];exact this
  · rw[List.getElem?_append_right k_,List.getElem?_replicate] at hj
    split at hj
    · cases hj; trivial
    · cases hj
 refine z_ hT rfl (fun p hp=>by cases hp) c eZ (h (Ad dN.2)) r fun e az a' w' h' r'=> ?_
 have done:fin tab fn.results.toList post az.shut→∃v,(results fn a'.tmps).run P w' = .ok v w'∧∃v' rv nb H' ρ',Ending.returned v = .returned v'∧post rv nb∧nb.all ownB=true∧gw w'.heap (fun b=>w.heap[b]?) H' ρ' (num 0 nb)∧
    RV fX ρ' (ay (num 0 nb)) rv v'∧Ext w w':=fun hf=>by
  have r':Rel Γ az.shut a' w':=r'.closeAll rfl;obtain⟨H,ρ,r'⟩:=r';obtain⟨v,h1,rv,nb,H',ρ',h2,h3,h4,h5⟩:=NO hT r' (fn:=fn) hf;exact⟨v,h1,v,rv,nb,H',ρ',rfl,h2,h3,h4,h5,r'.n⟩
 have nL:a'.defers = []:=by obtain⟨H,ρ,r'⟩:=r'; exact r'.d
 cases e with
 | normal=>obtain⟨v,h1,h2⟩:=done h'; exact⟨nL,v,h1,h2⟩
 | ret=>obtain⟨v,h1,h2⟩:=done h'; exact⟨nL,v,h1,h2⟩
 | exit id=>cases h'
 | goto l=>cases h'
 | panic ch=>cases h'
 | outgrown=>cases h'
inductive Sh where
 | int (k:IntKind) (x:Unit→Int)
 | bool (x:Unit→Bool)
 | str (x:Unit→List UInt8)
 | own (E:av) (x:Unit→List E.α)
 | any
inductive dg where
 | c (s:Sh)
 | agg (ss:List Sh)
 | aS (ps:List (Bool × List Sh))
def Sh.nb:Sh→Nat
 | .own _ _=>1
 | _=>0
def Sh.cell (k:Nat):Sh→C
 | .int i x=> .lf (.int i x)
 | .bool x=> .lf (.bool x)
 | .str x=> .lf (.str x)
 | .own _ _=> .own k
 | .any=> .undef
def gV:Nat→List Sh→List C
 | _,[]=>[]
 | k,s::ss=>s.cell k::gV (k+s.nb) ss
def gG:List Sh→Nat
 | []=>0
 | s::ss=>s.nb+gG ss
def tN:Nat→List (Bool × List Sh)→List (Bool × List C)
 | _,[]=>[]
 | k,p::ps=>(p.1,gV k p.2)::tN (k+gG p.2) ps
def Sh.ah:Sh→List an
 | .own E x=>[.own E x false]
 | _=>[]
def fo:List Sh→List an
 | []=>[]
 | s::ss=>s.ah++fo ss
def tO:List (Bool × List Sh)→List Sh
 | []=>[]
 | p::ps=>p.2++tO ps
def dg.v:dg→V
 | .c s=> .c (s.cell 0)
 | .agg ss=> .agg (gV 0 ss)
 | .aS ps=> .aS (tN 0 ps)
def dg.bs:dg→List an
 | .c s=>s.ah
 | .agg ss=>fo ss
 | .aS ps=>fo (tO ps)
def rY:(E E':av)→(Unit→List E.α)→(Unit→List E'.α)→Prop
 | .int, .int,x,t=>t ()=x ()
 | .byte, .byte,x,t=>t ()=x ()
 | .str, .str,x,t=>t ()=x ()
 | .aI, .aI,x,t=>t ()=x ()
 | .aJ, .aJ,x,t=>t ()=x ()
 | .aE, .aE,x,t=>t ()=x ()
 | .cE, .cE,x,t=>t ()=x ()
 | .ag, .ag,x,t=>t ()=x ()
 | .da, .da,x,t=>t ()=x ()
 | .rep, .rep,x,t=>t ()=x ()
 | _,_,_,_=>False
theorem DG {E E':av} {x:Unit→List E.α} {t:Unit→List E'.α} {l:Bool} (h:rY E E' x t):an.own E' t l=an.own E x l:=by
 cases E <;> cases E' <;> first
  | (simp only[rY] at h; have h':t=x:=funext fun _=>h; subst h'; rfl)
  | (simp only[rY] at h)
inductive kz (p:Unit→Prop) (q:Prop):Prop where
 | mk (h:p ()) (hq:q)
def mS (s:Sh) (c:C) (k:Nat) (bs:List an) (K:Nat→List an→Prop):Prop:=
 match s,c with
 | .int k' x, .lf (.int i t)=>if i=k' then kz (fun _=>t ()=x ()) (K k bs) else False
 | .bool x, .lf (.bool t)=>kz (fun _=>t ()=x ()) (K k bs)
 | .bool x, .bl b=>kz (fun _=>b=x ()) (K k bs)
 | .str x, .lf (.str t)=>kz (fun _=>t ()=x ()) (K k bs)
 | .own _ x, .nil=>kz (fun _=>x () = []) (K k bs)
 | .own E x, .own j=>if j=k then(match bs with | .own E' t false::bs=>kz (fun _=>rY E E' x t) (K (k+1) bs) | _=>False) else False
 | .any,_=>K k bs
 | _,_=>False
def mL:List Sh→List C→Nat→List an→Prop
 | [],[],_,[]=>True
 | s::ss,c::cs,k,bs=>mS s c k bs fun k bs=>mL ss cs k bs
 | _,_,_,_=>False
def vq:List (Bool × List Sh)→List (Bool × List C)→Bool
 | [],[]=>true
 | p::ps,q::qs=>p.1 == q.1 && p.2.length == q.2.length && vq ps qs
 | _,_=>false
def vt:List (Bool × List C)→List C
 | []=>[]
 | p::ps=>p.2++vt ps
def aG (s:dg) (r:V) (nb:List an):Prop:=
 match s,r with
 | .c s, .c x=>mL [s] [x] 0 nb
 | .agg ss, .agg cs=>mL ss cs 0 nb
 | .aS ps, .aS qs=>if vq ps qs=true then mL (tO ps) (vt qs) 0 nb else False
 | _,_=>False
def dD:List Sh→List C→List (Option Nat)
 | .own _ _::ss, .own j::cs=>some j::dD ss cs
 | .own _ _::ss, .nil::cs=>none::dD ss cs
 | _::ss,_::cs=>dD ss cs
 | _,_=>[]
def rZ (ρ:aK):Option Nat→Value × (Nat→Nat)
 | some j=>ρ j
 | none=>(.slice none 0 0,fun _=>0)
section
variable {ρ ρ' : aK} {D D' : Nat → Prop}
theorem r7 : ∀{ss:List Sh} {cs:List C} {k:Nat} {bs:List an},mL ss cs k bs→(dD ss cs).length=(fo ss).length∧gG ss=(fo ss).length∧
   ∀ (i:Nat) B,(fo ss)[i]? = some B→∃E x,B = .own E x false∧(((dD ss cs)[i]? = some none∧x () = [])∨∃j,(dD ss cs)[i]? = some (some j)∧k≤j∧bs[j - k]? = some (.own E x false))
 | [],cs,k,bs,h=>by
   cases cs <;> cases bs <;> simp only[mL] at h
   exact⟨rfl,rfl,fun i B hi=>by simp[fo] at hi⟩
 | s::ss,[],k,bs,h=>by simp[mL] at h
 | s :: ss, c::cs,k,bs,h=>by
   simp only[mL] at h;unfold mS at h
   split at h
   · split at h
     · obtain⟨_,h⟩:=h; have:=r7 h; simpa [dD,fo,Sh.ah,gG,Sh.nb] using this
     · cases h
   · obtain⟨_,h⟩:=h; have:=r7 h; simpa [dD,fo,Sh.ah,gG,Sh.nb] using this
   · obtain⟨_,h⟩:=h; have:=r7 h; simpa [dD,fo,Sh.ah,gG,Sh.nb] using this
   · obtain⟨_,h⟩:=h; have:=r7 h; simpa [dD,fo,Sh.ah,gG,Sh.nb] using this
   · rename_i E x;obtain⟨hx,h⟩:=h;obtain⟨h1,h2,h3⟩:=r7 h;refine⟨by simp[dD,fo,Sh.ah,h1],by simp[fo,Sh.ah,gG,Sh.nb,h2]; omega,fun i B hi=> ?_⟩;cases i with
     | zero=>simp[fo,Sh.ah] at hi; exact⟨E,x,hi.symm, .inl ⟨by simp[dD],hx⟩⟩
     | succ i=>
       simp[fo,Sh.ah] at hi;obtain⟨E',x',h4,h5⟩:=h3 i B hi;refine⟨E',x',h4, ?_⟩;simpa [dD] using h5
   · rename_i E x j
     split at h
     · rename_i hj;subst hj
       split at h
       · rename_i Wn E' t cm;obtain⟨hx,h⟩:=h;have he:=DG (l:=false) hx;obtain⟨h1,h2,h3⟩:=r7 h;refine⟨by simp[dD,fo,Sh.ah,h1],by simp[fo,Sh.ah,gG,Sh.nb,h2]; omega,fun i B hi=> ?_⟩;cases i with
         | zero=>simp[fo,Sh.ah] at hi; exact⟨E,x,hi.symm, .inr ⟨j,by simp[dD],Nat.le_refl _,by simp[he]⟩⟩
         | succ i=>
           simp[fo,Sh.ah] at hi;obtain⟨E',x',h4,h5⟩:=h3 i B hi;refine⟨E',x',h4, ?_⟩;rcases h5 with h5 | ⟨j',h5,h6,h7⟩
           · exact .inl (by simpa [dD] using h5)
           · refine .inr ⟨j',by simpa [dD] using h5,by omega, ?_⟩;rw[show j' - j=(j' - (j+1))+1 by omega];simpa using h7
       · cases h
     · cases h
   · have:=r7 h; simpa [dD,fo,Sh.ah,gG,Sh.nb] using this
   · cases h
theorem r8 {x:Nat}:∀{ss:List Sh} {cs:List C} {k:Nat} {bs:List an} {k':Nat},mL ss cs k bs→
   (∀(i:Nat) o,(dD ss cs)[i]? = some o→ρ' (k'+i)=rZ ρ o)→aT ρ' (num k' (fo ss)) x=aT ρ (num k bs) x
 | [],cs,k,bs,k',h,hs=>by
   cases cs <;> cases bs <;> simp only[mL] at h
   rfl
 | s::ss,[],k,bs,k',h,hs=>by simp[mL] at h
 | s :: ss, c::cs,k,bs,k',h,hs=>by
   simp only[mL] at h;unfold mS at h
   split at h
   · split at h
     · obtain⟨_,h⟩:=h; simp only[fo,Sh.ah,List.nil_append]; exact r8 (ss:=ss) (cs:=cs) h (by simpa [dD] using hs)
     · cases h
   · obtain⟨_,h⟩:=h; simp only[fo,Sh.ah,List.nil_append]; exact r8 (ss:=ss) (cs:=cs) h (by simpa [dD] using hs)
   · obtain⟨_,h⟩:=h; simp only[fo,Sh.ah,List.nil_append]; exact r8 (ss:=ss) (cs:=cs) h (by simpa [dD] using hs)
   · obtain⟨_,h⟩:=h; simp only[fo,Sh.ah,List.nil_append]; exact r8 (ss:=ss) (cs:=cs) h (by simpa [dD] using hs)
   · obtain⟨_,h⟩:=h;have h0:=hs 0 none (by simp[dD])
     have:=r8 (x:=x) (k':=k'+1) h fun i o hi=>by
       have:=hs (i+1) o (by simpa [dD] using hi)
       rwa [show k'+(i+1)=k'+1+i by omega] at this
     simp only[fo,Sh.ah,List.cons_append,List.nil_append,num,aT,this];rw[Nat.add_zero] at h0;simp[h0,rZ]
   · rename_i E y j
     split at h
     · rename_i hj;subst hj
       split at h
       · obtain⟨_,h⟩:=h;have h0:=hs 0 (some j) (by simp[dD])
         have:=r8 (x:=x) (k':=k'+1) h fun i o hi=>by
          have:=hs (i+1) o (by simpa [dD] using hi)
          rwa [show k'+(i+1)=k'+1+i by omega] at this
         simp only[fo,Sh.ah,List.cons_append,List.nil_append,num,aT,this];rw[Nat.add_zero] at h0;simp[h0,rZ]
       · cases h
     · cases h
   · simp only[fo,Sh.ah,List.nil_append]; exact r8 (ss:=ss) (cs:=cs) h (by simpa [dD] using hs)
   · cases h
theorem DH : ∀{ss:List Sh} {cs:List C} {k:Nat} {bs:List an} {k':Nat},mL ss cs k bs→
   (∀(i:Nat) o,(dD ss cs)[i]? = some o→ρ' (k'+i)=rZ ρ o)→(∀i,i<gG ss→D' (k'+i))→
   (gV k' ss).length=cs.length∧∀(j:Nat) c c',cs[j]? = some c→(gV k' ss)[j]? = some c'→∀v,RC fX ρ D c v→RC fX ρ' D' c' v
 | [],cs,k,bs,k',h,hs,hd=>by
   cases cs <;> cases bs <;> simp only[mL] at h
   exact⟨rfl,fun j c c' hj=>by simp at hj⟩
 | s::ss,[],k,bs,k',h,hs,hd=>by simp[mL] at h
 | s :: ss, c::cs,k,bs,k',h,hs,hd=>by
   have step:∀{s:Sh} {c:C} {k2:Nat} {IP:List an},mL ss cs k2 IP→(∀(i:Nat) o,(dD ss cs)[i]? = some o→ρ' (k'+s.nb+i)=rZ ρ o)→(∀i,i<gG ss→D' (k'+s.nb+i))→
       (∀v,RC fX ρ D c v→RC fX ρ' D' (s.cell k') v)→
       (gV k' (s::ss)).length=(c::cs).length∧∀(j:Nat) c0 c',(c::cs)[j]? = some c0→(gV k' (s::ss))[j]? = some c'→∀v,RC fX ρ D c0 v→RC fX ρ' D' c' v:=by
     intro s c k2 IP h hs hd hc;obtain⟨h1,h2⟩:=DH h hs hd;refine⟨by simp[gV,h1],fun j c0 c' hj cQ v hv=> ?_⟩;cases j with
     | zero=>simp[gV] at hj cQ; subst hj; subst cQ; exact hc v hv
     | succ j=>simp[gV] at hj cQ; exact h2 j c0 c' hj cQ v hv
   simp only[mL] at h;unfold mS at h
   split at h
   · split at h
     · rename_i k1 x1 i1 t1 lI;obtain⟨hx,h⟩:=h;subst lI;refine step h (by simpa [dD,Sh.nb] using hs) (by simpa [gG,Sh.nb] using hd) fun v hv=> ?_;simp only[RC,Sh.cell] at hv ⊢;obtain⟨rfl,h2⟩:=RL.of_int hv;rw[hx] at h2 ⊢;exact RL.int (t:=x1) h2
     · cases h
   · rename_i x1 t1;obtain⟨hx,h⟩:=h;refine step h (by simpa [dD,Sh.nb] using hs) (by simpa [gG,Sh.nb] using hd) fun v hv=> ?_;simp only[RC,Sh.cell] at hv ⊢;have:=RL.of_bool hv;subst this;rw[hx];exact RL.bool (t:=x1)
   · rename_i x1 b1;obtain⟨hx,h⟩:=h;refine step h (by simpa [dD,Sh.nb] using hs) (by simpa [gG,Sh.nb] using hd) fun v hv=> ?_;simp only[RC,Sh.cell] at hv ⊢;subst hv;rw[hx];exact RL.bool (t:=x1)
   · rename_i x1 t1;obtain⟨hx,h⟩:=h;refine step h (by simpa [dD,Sh.nb] using hs) (by simpa [gG,Sh.nb] using hd) fun v hv=> ?_;simp only[RC,Sh.cell] at hv ⊢;obtain⟨rfl,h2⟩:=RL.l9 hv;rw[hx] at h2 ⊢;exact RL.str (t:=x1) h2
   · rename_i E1 x1;obtain⟨hx,h⟩:=h;refine step h (fun i o hi=> ?_) (fun i hi=> ?_) fun v hv=> ?_
     · have:=hs (i+1) o (by simpa [dD] using hi)
       rwa [show k'+(i+1)=k'+1+i by omega] at this
     · have:=hd (i+1) (by simp only[gG,Sh.nb]; omega)
       rwa [show k'+(i+1)=k'+1+i by omega] at this
     · simp only[RC,Sh.cell] at hv ⊢;refine⟨hd 0 (by simp only[gG,Sh.nb]; omega), ?_⟩;rw[hv,show k'=k'+0 from rfl,hs 0 none (by simp[dD])];rfl
   · rename_i E1 x1 j1
     split at h
     · rename_i hj;subst hj
       split at h
       · obtain⟨hx,h⟩:=h;refine step h (fun i o hi=> ?_) (fun i hi=> ?_) fun v hv=> ?_
         · have:=hs (i+1) o (by simpa [dD] using hi)
           rwa [show k'+(i+1)=k'+1+i by omega] at this
         · have:=hd (i+1) (by simp only[gG,Sh.nb]; omega)
           rwa [show k'+(i+1)=k'+1+i by omega] at this
         · simp only[RC,Sh.cell] at hv ⊢;refine⟨hd 0 (by simp only[gG,Sh.nb]; omega), ?_⟩;rw[hv.2,show k'=k'+0 from rfl,hs 0 (some j1) (by simp[dD])];rfl
       · cases h
     · cases h
   · refine step h (by simpa [dD,Sh.nb] using hs) (by simpa [gG,Sh.nb] using hd) fun v hv=> ?_;exact trivial
   · cases h
theorem DI:∀{ss ts:List Sh} {k:Nat},gV k (ss++ts)=gV k ss++gV (k+gG ss) ts
 | [],ts,k=>by simp[gV,gG]
 | s::ss,ts,k=>by simp only[List.cons_append,gV,DI (ss:=ss),gG,Nat.add_assoc]
theorem IQ:∀{ss:List Sh} {k:Nat},(gV k ss).length=ss.length
 | [],_=>rfl
 | s::ss,k=>by simp[gV,IQ (ss:=ss)]
theorem IS:∀{ps:List (Bool × List Sh)} {qs:List (Bool × List C)} {k:Nat},vq ps qs=true→
   (∀(j:Nat) c c',(vt qs)[j]? = some c→(gV k (tO ps))[j]? = some c'→∀v,RC fX ρ D c v→RC fX ρ' D' c' v)→
   (tN k ps).length=qs.length∧∀(j:Nat) q p,qs[j]? = some q→(tN k ps)[j]? = some p→∀v,RT fX ρ D q v→RT fX ρ' D' p v
 | [],qs,k,h,hc=>by
   cases qs <;> simp only[vq] at h
   · exact⟨rfl,fun j q p hj=>by simp at hj⟩
   · cases h
 | p0::ps,[],k,h,hc=>by simp[vq] at h
 | p0 :: ps,q0::qs,k,h,hc=>by
   simp only[vq,Bool.and_eq_true,beq_iff_eq] at h;obtain⟨⟨h1,h2⟩,h3⟩:=h;have hl:(gV k p0.2).length=q0.2.length:=by rw[IQ,h2]
   obtain⟨h4,h5⟩:=IS (k:=k+gG p0.2) h3 fun j c c' hj cQ=>hc (q0.2.length+j) c c' (by
       simp only[vt]; rw[List.getElem?_append_right (Nat.le_add_right _ _),Nat.add_sub_cancel_left]; exact hj) (by
       simp only[tO,DI]; rw[List.getElem?_append_right (by omega),hl,Nat.add_sub_cancel_left]; exact cQ)
   refine⟨by simp[tN,h4],fun j q p hj cQ v hv=> ?_⟩;cases j with
   | succ j=>simp[tN] at hj cQ; exact h5 j q p hj cQ v hv
   | zero =>
     simp[tN] at hj cQ;subst hj; subst cQ
     have oQ:∀(j:Nat) c c',q0.2[j]? = some c→(gV k p0.2)[j]? = some c'→∀v,RC fX ρ D c v→RC fX ρ' D' c' v:=fun j c c' hj cQ=>by
       have aQ:=bC hj
       exact hc j c c' (by simp only[vt]; rw[List.getElem?_append_left aQ]; exact hj) (by
        simp only[tO,DI]; rw[List.getElem?_append_left (by omega)]; exact cQ)
     obtain⟨b,ss⟩:=p0;obtain⟨b',cs⟩:=q0;simp only at h1 hl oQ;subst h1;cases b with
     | true=>
       obtain⟨vs,h6,h7,h8⟩:=hv;refine⟨vs,h6,by simp only at h7 ⊢; omega,fun j c hj=> ?_⟩;simp only at hj h8;obtain⟨c0,dZ⟩:∃c0,cs[j]? = some c0:=⟨_,List.getElem?_eq_getElem (by have:=bC hj; omega)⟩;exact oQ j c0 c dZ hj _ (h8 j c0 dZ)
     | false=>
       obtain⟨c,h6,h7⟩:=hv;simp only at h6;subst h6;simp only[List.length_singleton] at hl;obtain⟨c',jx⟩:∃c',gV k ss = [c']:=List.length_eq_one_iff.1 hl;exact⟨c',jx,oQ 0 c c' rfl (by rw[jx]; rfl) _ h7⟩
end
theorem aG.canon {h:Array Obj} {H0 H':Hp} {ρ:aK} {s:dg} {r:V} {nb:List an} {v:Value} (la:aG s r nb) (hb:gw h H0 H' ρ (num 0 nb)) (hv:RV fX ρ (ay (num 0 nb)) r v) :
   ∃ ρ',s.bs.all ownB=true∧gw h H0 H' ρ' (num 0 s.bs)∧RV fX ρ' (ay (num 0 s.bs)) s.v v:=by
 obtain⟨ss,cs,hm,qz,PL⟩:∃ss cs,mL ss cs 0 nb∧s.bs=fo ss∧∀{ρ':aK} {D':Nat→Prop},
     (∀(j:Nat) c c',cs[j]? = some c→(gV 0 ss)[j]? = some c'→∀v,RC fX ρ (ay (num 0 nb)) c v→RC fX ρ' D' c' v)→RV fX ρ' D' s.v v:=by
   unfold aG at la
   split at la
   · rename_i s x;refine⟨[s],[x],la,by simp[dg.bs,fo],fun hc=> ?_⟩;exact hc 0 x _ rfl rfl v hv
   · rename_i ss cs;refine⟨ss,cs,la,rfl,fun hc=> ?_⟩;obtain⟨us,h1,h2,h3⟩:=hv;have hl:(gV 0 ss).length=cs.length:=(DH (ρ:=ρ) (ρ':=fun i=>match(dD ss cs)[i]? with | some o=>rZ ρ o | none=>default) (D:=fun _=>True) (D':=fun _=>True) la (fun i o hi=>by simp[hi]) fun _ _=>trivial).1;refine⟨us,h1,by simp only[hl]; exact h2,fun j c hj=> ?_⟩;obtain⟨c0,dZ⟩:∃c0,cs[j]? = some c0:=⟨_,List.getElem?_eq_getElem (by have:=bC hj; omega)⟩;exact hc j c0 c dZ hj _ (h3 j c0 dZ)
   · rename_i ps qs
     split at la
     · rename_i oS;refine⟨tO ps,vt qs,la,rfl,fun hc=> ?_⟩;obtain⟨us,h1,h2,h3⟩:=hv;obtain⟨h4,h5⟩:=IS oS hc;refine⟨us,h1,by rw[h4]; exact h2,fun j p hj=> ?_⟩;obtain⟨q,hq⟩:∃q,qs[j]? = some q:=⟨_,List.getElem?_eq_getElem (by have:=bC hj; omega)⟩;exact h5 j q p hq hj _ (h3 j q hq)
     · cases la
   · cases la
 obtain⟨hl,hn,hX⟩:=r7 hm
 let ρ':aK:=fun i=>match(dD ss cs)[i]? with | some o=>rZ ρ o | none=>default
 have jP:∀(i:Nat) o,(dD ss cs)[i]? = some o→ρ' (0+i)=rZ ρ o:=fun i o hi=>by simp only[ρ',Nat.zero_add,hi]
 have cA:∀k B,(k,B)∈num 0 (fo ss)→∃E x,B = .own E x false∧((ρ' k=(.slice none 0 0,fun _=>0)∧x () = [])∨∃j,ρ' k=ρ j∧(j,an.own E x false)∈num 0 nb):=fun k B hk=>by
   obtain⟨_,h1⟩:=rf.1 hk;obtain⟨E,x,h2,h3⟩:=hX k B (by simpa using h1);refine⟨E,x,h2, ?_⟩;rcases h3 with⟨h3,h4⟩ | ⟨j,h3,h4,h5⟩
   · exact .inl ⟨by have:=jP k none h3; rw[Nat.zero_add] at this; exact this,h4⟩
   · exact .inr ⟨j,by have:=jP k _ h3; rw[Nat.zero_add] at this; exact this,rf.2 ⟨Nat.zero_le _,h5⟩⟩
 refine⟨ρ', ?_, ?_,PL ?_⟩
 · rw[qz];refine List.all_eq_true.2 fun B hB=> ?_;obtain⟨j,hj,wS⟩:=List.getElem_of_mem hB;obtain⟨E,x,rfl,_⟩:=hX j B (by rw[List.getElem?_eq_getElem hj,wS]);rfl
 · rw [qz];refine⟨fun k hk=> ?_,Cj,hb.h0,hb.hh,fun k B hk=> ?_,fun x=> ?_,fun k B hk x hx=> ?_,fun k B hk x hx=> ?_⟩
   · obtain⟨⟨k',B⟩,PM,rfl⟩:=List.mem_map.1 hk;obtain⟨E,x,rfl,⟨h1,_⟩ | ⟨j,h1,h2⟩⟩:=cA k' B PM
     · rw[h1]; rfl
     · rw[h1]; exact hb.oc j (List.mem_map.2 ⟨_,h2,rfl⟩)
   · obtain⟨E,x,rfl,⟨h1,h3⟩ | ⟨j,h1,h2⟩⟩:=cA k B hk
     · rw[h1]; exact bx.nil h3
     · rw[h1]; exact hb.ah j _ h2
   · rw[r8 hm jP]; exact hb.sum x
   · obtain⟨E,y,rfl,⟨h1,_⟩ | ⟨j,h1,h2⟩⟩:=cA k B hk
     · rw[h1] at hx; simp at hx
     · rw[h1] at hx; exact hb.fresh j _ h2 x hx
   · obtain⟨E,y,rfl,⟨h1,_⟩ | ⟨j,h1,h2⟩⟩:=cA k B hk
     · rw[h1] at hx; simp[gk] at hx
     · rw[h1] at hx; exact hb.im j _ h2 x hx
 · rw[qz];exact(DH hm jP fun i hi=>oI.2 ⟨Nat.zero_le _,by rw[Nat.zero_add,Nat.zero_add,←hn]; exact hi⟩).2
theorem Spec.can {P:Program} {f:FuncId} {as:List V} {s:dg} (h:Spec P f as (aG s)):Spec P f as fun r nb=>r=s.v∧nb=s.bs:=by
 refine⟨h.1,fun w vs ha=>Calls.mono (h.2 w vs ha) fun e w' hw=> ?_⟩;obtain⟨v,r,nb,H',ρ,rfl,la,cZ,hb,hv,bq⟩:=hw;obtain⟨ρ',h1,h2,h3⟩:=la.canon hb hv;exact⟨v,s.v,s.bs,H',ρ',rfl,⟨rfl,rfl⟩,h1,h2,h3,bq⟩
def gW (X:Type) (φ:X→Prop) (s:X→dg) (r:V) (nb:List an):Prop:=∃x,φ x∧aG (s x) r nb
theorem Spec.PN {P:Program} {f:FuncId} {as:List V} {X:Type} {φ:X→Prop} {s:X→dg} (h:Spec P f as (gW X φ s)):Spec P f as fun r nb=>∃x,φ x∧r=(s x).v∧nb=(s x).bs:=by
 refine⟨h.1,fun w vs ha=>Calls.mono (h.2 w vs ha) fun e w' hw=> ?_⟩;obtain⟨v,r,nb,H',ρ,rfl,⟨x,hx,la⟩,cZ,hb,hv,bq⟩:=hw;obtain⟨ρ',h1,h2,h3⟩:=la.canon hb hv;exact⟨v,(s x).v,(s x).bs,H',ρ',rfl,⟨x,hx,rfl,rfl⟩,h1,h2,h3,bq⟩
theorem Br.dec {p:Prop} [Decidable p] {K:Bool→Prop} (h1:p→K true) (h0:¬p→K false):Br (fun _=>decide p) K:=
 Br.split (fun h=>h1 (of_decide_eq_true h)) fun h=>h0 (of_decide_eq_false h)
theorem aF {P : Program} {tab : bh} (hT : fy P tab = true) {f : FuncId} {fn : Func} {c : Code} (hf : P.funcs[f]? = some fn) (hb : fn.body = some c) (fB : (fn.name == "runtime.NumGoroutine") = false)
 {fr:Bool} (eZ:fr=true→gF c=true) {as:List V} {post:V→List an→Prop} (h:∀P',P'=P→ky as→IN P' tab fr fn c as post):Spec P f as post:=PK hT hf hb fB eZ (h P rfl)
theorem af.by {P P0:Program} {f:FuncId} {as:List V} {K:V→List an→Prop} {s:dg} (hP:P=P0) (h:Spec P0 f as (aG s)) (hk:K s.v s.bs):af P f as K:=by
 subst hP;exact⟨_,h.can,fun r nb ⟨h1,h2⟩=>by rw[h1,h2]; exact hk⟩
theorem af.lg {P P0:Program} {f:FuncId} {as xx:List V} {K:V→List an→Prop} {s:dg} (hP:P=P0) (h:Spec P0 f as (aG s)) (ha:xx=as) (hk:K s.v s.bs):af P f xx K:=by
 subst ha;exact af.by hP h hk
theorem af.ex {P P0:Program} {f:FuncId} {as:List V} {K:V→List an→Prop} {X:Type} {φ:X→Prop} {s:X→dg} (hP:P=P0) (h:Spec P0 f as (gW X φ s)) (hk:∀x,φ x→K (s x).v (s x).bs):af P f as K:=by
 subst hP;exact⟨_,h.PN,fun r nb ⟨x,hx,h1,h2⟩=>by rw[h1,h2]; exact hk x hx⟩
def iA (x:Int):V:= .c (.lf (.int .i64 fun _=>x))
def lA (E:av) (x:List E.α):V:= .c (.lf (.list E fun _=>x))
def eA (E:av) (x:E.α):V:= .agg ((bY E fun _=>x).map .lf)
def iR (x:Unit→Int):dg:= .c (.int .i64 x)
def bR (x:Unit→Bool):dg:= .c (.bool x)
def sR (x:Unit→List UInt8):dg:= .c (.str x)
def eR:(E:av)→(Unit→E.α)→dg
 | .int,x=> .c (.int .i64 x)
 | .byte,x=> .c (.int .u8 fun _=>((x ()).toNat:Int))
 | .str,x=> .c (.str x)
 | .aI,x=> .agg [.int .i64 fun _=>(x ()).tm, .int .i64 fun _=>(x ()).pid]
 | .aJ,x=> .agg [.int .i64 fun _=>(x ()).lvl, .int .i64 fun _=>(x ()).aA, .int .i64 fun _=>(x ()).aZ, .int .i64 fun _=>(x ()).aj]
 | .aE,x=> .agg [.int .i64 fun _=>(x ()).id, .int .i64 fun _=>(x ()).ag, .int .i64 fun _=>(x ()).al, .int .i64 fun _=>(x ()).aj, .int .i64 fun _=>(x ()).aO,
  .int .i64 fun _=>(x ()).since, .int .i64 fun _=>(x ()).aA, .int .i64 fun _=>(x ()).st, .int .i64 fun _=>(x ()).dH, .int .i64 fun _=>(x ()).asked]
 | .cE,x=> .c (.own .aI x)
 | .ag,x=> .agg [.int .i64 fun _=>(x ()).seats.total, .int .i64 fun _=>(x ()).seats.free, .int .i64 fun _=>(x ()).seats.held, .int .i64 fun _=>(x ()).seats.bp, .int .i64 fun _=>(x ()).seats.tied,
  .own .aJ fun _=>(x ()).row, .own .cE fun _=>(x ()).spoke]
 | .da,x=> .agg [.int .i64 fun _=>(x ()).kind, .int .i64 fun _=>(x ()).id, .int .i64 fun _=>(x ()).ag, .int .i64 fun _=>(x ()).al, .int .i64 fun _=>(x ()).aj, .int .i64 fun _=>(x ()).aO]
 | .rep,x=> .agg [.int .i64 fun _=>(x ()).code, .own .int fun _=>(x ()).ids]
def lR (E:av) (x:Unit→List E.α):dg:= .c (.own E x)
inductive KC where
 | int (k:IntKind) (x:Unit→Int)
 | bool (x:Unit→Bool)
 | str (x:Unit→List UInt8)
 | nm (j:Nat)
inductive dQ where
 | own (E:av) (x:Unit→List E.α)
 | box (cs:List KC)
 | vw
def KC.c:KC→C
 | .int k x=> .lf (.int k x)
 | .bool x=> .lf (.bool x)
 | .str x=> .lf (.str x)
 | .nm j=> .own j
def IT:List KC→List C
 | []=>[]
 | c::cs=>c.c::IT cs
def dQ.ah:dQ→an
 | .own E x=> .own E x false
 | .box cs=> .box (IT cs)
 | .vw=> .dead
def jR:List (Nat × dQ)→List (Nat × an)
 | []=>[]
 | p::r=>(p.1,p.2.ah)::jR r
def vu:List (Nat × an)→List (Nat × an)→List (Nat × an)
 | [],bs=>bs
 | p::r,bs=>p::vu r bs
def jo (s:dg) (kp:List (Nat × dQ)):List (Nat × an):=vu (jR kp) (num 100 s.bs)
def mj (s:dg):V:=s.v.du (100 + ·)
def vv (s:Sh) (c:C) (kk:Nat):C × List (Nat × av):=
 match s,c with
 | .own E _, .nil=>(.own kk,[(kk,E)])
 | _,c=>(c,[])
def pb:List Sh→List C→Nat→List C × List (Nat × av)
 | s::ss,c::cs,kk=>match vv s c kk,pb ss cs (kk+1) with | (c',l),(lx,l')=>(c'::lx,l++l')
 | _,cs,_=>(cs,[])
def r9:List (Bool × List Sh)→List (Bool × List C)→Nat→List (Bool × List C) × List (Nat × av)
 | p::ps,q::qs,kk=>match pb p.2 q.2 kk,r9 ps qs (kk+100) with | (cs,l),(r,l')=>((q.1,cs)::r,l++l')
 | _,qs,_=>(qs,[])
def r_ (s:dg) (v:V) (kk:Nat):V × List (Nat × av):=
 match s,v with
 | .c s, .c x=>(match vv s x kk with | (x',l)=>(.c x',l))
 | .agg ss, .agg cs=>(match pb ss cs kk with | (lx,l)=>(.agg lx,l))
 | .aS ps, .aS qs=>(match r9 ps qs kk with | (sa,l)=>(.aS sa,l))
 | _,v=>(v,[])
def m0:List (Nat × av)→List (Nat × an)→Option (List (Nat × an))
 | [],bs=>some bs
 | p::r,bs=>match aP bs p.1 with | none=>m0 r (dA bs p.1 (.own p.2 (fun _=>[]) false)) | some _=>none
def Ae (l l0:Lf) (K:Prop):Prop:=
 match l,l0 with
 | .int i t, .int k x=>if i=k then kz (fun _=>t ()=x ()) K else False
 | .bool t, .bool x=>kz (fun _=>t ()=x ()) K
 | .str t, .str x=>kz (fun _=>t ()=x ()) K
 | .list E' t, .list E x=>kz (fun _=>rY E E' x t) K
 | _,_=>False
def Af:List Lf→List Lf→Prop→Prop
 | [],[],K=>K
 | l::ls,m::ms,K=>Ae l m (Af ls ms K)
 | _,_,_=>False
def DJ (c c0:Cp) (K:Prop):Prop:=
 match c,c0 with
 | .cg ls o, .cg ms o'=>if o=o' then Af ls ms K else False
 | _,_=>False
def Ag:List Cp→List Cp→Prop→Prop
 | [],[],K=>K
 | l::ls,m::ms,K=>DJ l m (Ag ls ms K)
 | _,_,_=>False
def mC (c c0:C) (K:Prop):Prop:=
 match c,c0 with
 | _, .undef=>K
 | .lf l, .lf l0=>Ae l l0 K
 | .bl b, .lf (.bool x)=>kz (fun _=>b=x ()) K
 | .bl b, .bl b'=>if b=b' then K else False
 | .own j, .own k=>if j=k then K else False
 | .nil, .nil=>K
 | .ptr j o, .ptr k o'=>if j=k∧o=o' then K else False
 | .fn f l, .fn g m=>if f=g then Ag l m K else False
 | _,_=>False
def tP:List C→List C→Prop→Prop
 | [],[],K=>K
 | c::cs,d::ds,K=>mC c d (tP cs ds K)
 | _,_,_=>False
def Ah:List (Bool × List C)→List (Bool × List C)→Prop→Prop
 | [],[],K=>K
 | p::ps,q::qs,K=>if p.1=q.1 then tP p.2 q.2 (Ah ps qs K) else False
 | _,_,_=>False
def mV (v v0:V) (K:Prop):Prop:=
 match v,v0 with
 | .c x, .c y=>mC x y K
 | .agg xs, .agg ys=>tP xs ys K
 | .aS ps, .aS qs=>Ah ps qs K
 | _,_=>False
def nM:List (Nat × an)→List (Nat × an)→Prop→Prop
 | [],[],K=>K
 | p ::ps,q::qs,K=>
   if p.1=q.1 then
    match p.2,q.2 with
    | .own E' t false, .own E x false=>kz (fun _=>rY E E' x t) (nM ps qs K)
    | .box cs, .box ds=>tP cs ds (nM ps qs K)
    | .mp t, .mp x=>kz (fun _=>t ()=x ()) (nM ps qs K)
    | .view _ _, .dead=>nM ps qs K
    | .view E' t, .view E x=>kz (fun _=>rY E E' x t) (nM ps qs K)
    | _,_=>False
   else False
 | _,_,_=>False
def iP:List (Nat × dQ)→List (Nat × Nat)
 | []=>[]
 | p::r=>(p.1,p.1)::iP r
def ib:List Nat→Nat→List (Nat × Nat)
 | [],_=>[]
 | k::ks,j=>(k,j)::ib ks (j+1)
def iQ:List (Nat × Nat)→List (Nat × Nat)→List (Nat × Nat)
 | [],b=>b
 | p::r,b=>p::iQ r b
def xy (tab :bh) (rs:List ResultVar) (s:dg) (kp:List (Nat × dQ)) (σ:SS):Prop:=
 match uM tab σ rs with
 | some r =>
   match r_ s r 9000000 with
   | (r', l)=>
     match m0 l (closeAll (σ.ah.map (·.1)) σ.ah) with
     | some bs=>
       match oX bs (iQ (iP kp) (ib (fm r') 100)) (iQ (iP kp) (ib (fm r') 100)) with
       | some out=>
         if eX ((iQ (iP kp) (ib (fm r') 100)).map (·.1))=true∧eX ((iQ (iP kp) (ib (fm r') 100)).map (·.2))=true∧(r'.d_ (iQ (iP kp) (ib (fm r') 100))).cl=true then
          nM out (jo s kp) (mV (r'.d_ (iQ (iP kp) (ib (fm r') 100))) (mj s) True)
         else False
       | none=>False
     | none=>False
 | none=>False
theorem IU {E E':av} {x:Unit→List E.α} {t:Unit→List E'.α} (h:rY E E' x t):Lf.list E' t=Lf.list E x:=by
 have:=DG (l:=false) h
 injection this with h1 h2
 subst h1;rw[eq_of_heq h2]
theorem IV {l l0:Lf} {K:Prop} (h:Ae l l0 K):K∧∀{H:Hp} {v:Value},RL H l v→RL H l0 v:=by
 unfold Ae at h
 split at h
 · split at h
   · rename_i hi;obtain⟨h1,h2⟩:=h;refine⟨h2,fun {H v} hv=> ?_⟩;subst hi;obtain⟨rfl,h3⟩:=RL.of_int hv;rw[h1] at h3 ⊢;exact RL.int h3
   · cases h
 · obtain⟨h1,h2⟩:=h;refine⟨h2,fun {H v} hv=> ?_⟩;have:=RL.of_bool hv;subst this;rw[h1];exact RL.bool
 · obtain⟨h1,h2⟩:=h;refine⟨h2,fun {H v} hv=> ?_⟩;obtain⟨rfl,h3⟩:=RL.l9 hv;rw[h1] at h3 ⊢;exact RL.str h3
 · obtain⟨h1,h2⟩:=h;refine⟨h2,fun {H v} hv=> ?_⟩;rw[←IU h1];exact hv
 · cases h
theorem IW:∀{ls ms:List Lf} {K:Prop},Af ls ms K→K∧∀{H:Hp} {j:Nat} {m:Lf},ms[j]? = some m→∃l,ls[j]? = some l∧∀{v:Value},RL H l v→RL H m v
 | [],[],K,h=>⟨h,fun hj=>by simp at hj⟩
 | [],_::_,K,h=>by cases h
 | _::_,[],K,h=>by cases h
 | l ::ls,m::ms,K,h=>by
   simp only[Af] at h;obtain⟨h1,h2⟩:=IV h;obtain⟨h3,h5⟩:=IW h1;refine⟨h3,fun {H j e} hj=> ?_⟩;cases j with
   | zero=>simp at hj; subst hj; exact⟨l,rfl,h2⟩
   | succ j=>simpa using h5 (by simpa using hj)
theorem PO {c c0:Cp} {K:Prop} (h:DJ c c0 K):K∧∀{H:Hp} {ρ:aK} {D:Nat→Prop} {v:Value},dX H ρ D c v→dX H ρ D c0 v:=by
 unfold DJ at h
 split at h
 · split at h
   · rename_i ho;subst ho;obtain⟨h1,h2⟩:=IW h;refine⟨h1,fun {H ρ D v} hv=> ?_⟩;obtain⟨b,o,cs,e,fz,g1,g2,g3⟩:=hv;refine⟨b,o,cs,e,fz,g1,g2,fun j m hj=> ?_⟩;obtain⟨l,hl,hi⟩:=h2 hj;exact⟨(g3 j l hl).1,hi (g3 j l hl).2⟩
   · cases h
 · cases h
theorem IX:∀{ls ms:List Cp} {K:Prop},Ag ls ms K→K∧ls.length=ms.length∧∀{H:Hp} {ρ:aK} {D:Nat→Prop} {j:Nat} {m:Cp},ms[j]? = some m→∃l,ls[j]? = some l∧∀{v:Value},dX H ρ D l v→dX H ρ D m v
 | [],[],K,h=>⟨h,rfl,fun hj=>by simp at hj⟩
 | [],_::_,K,h=>by cases h
 | _::_,[],K,h=>by cases h
 | l ::ls,m::ms,K,h=>by
   simp only[Ag] at h;obtain⟨h1,h2⟩:=PO h;obtain⟨h3,h4,h5⟩:=IX h1;refine⟨h3,by simp[h4],fun {H ρ D j e} hj=> ?_⟩;cases j with
   | zero=>simp at hj; subst hj; exact⟨l,rfl,h2⟩
   | succ j=>simpa using h5 (by simpa using hj)
theorem IY {c c0:C} {K:Prop} (h:mC c c0 K):K∧∀{H:Hp} {ρ:aK} {D:Nat→Prop} {v:Value},RC H ρ D c v→RC H ρ D c0 v:=by
 unfold mC at h
 split at h
 · exact⟨h,fun _=>trivial⟩
 · obtain⟨h1,h2⟩:=IV h;exact⟨h1,fun hv=>h2 hv⟩
 · obtain⟨h1,h2⟩:=h;refine⟨h2,fun {H ρ D v} hv=> ?_⟩;simp only[RC] at hv ⊢;subst hv;rw[h1];exact RL.bool
 · split at h
   · rename_i hb; subst hb; exact⟨h,fun hv=>hv⟩
   · cases h
 · split at h
   · rename_i hj; subst hj; exact⟨h,fun hv=>hv⟩
   · cases h
 · exact⟨h,fun hv=>hv⟩
 · split at h
   · rename_i hj; obtain⟨rfl,rfl⟩:=hj; exact⟨h,fun hv=>hv⟩
   · cases h
 · split at h
   · rename_i hf;subst hf;obtain⟨h1,h2,h3⟩:=IX h;refine⟨h1,fun {H ρ D v} hv=> ?_⟩;obtain⟨vs,g1,g2,g3⟩:=hv;refine⟨vs,g1,by rw[g2,h2],fun j m hj=> ?_⟩;obtain⟨l,hl,hi⟩:=h3 hj;exact hi (g3 j l hl)
   · cases h
 · cases h
theorem vz:∀{cs ds:List C} {K:Prop},tP cs ds K→K∧cs.length=ds.length∧∀{H:Hp} {ρ:aK} {D:Nat→Prop} {j:Nat} {d:C},ds[j]? = some d→∃c,cs[j]? = some c∧∀{v:Value},RC H ρ D c v→RC H ρ D d v
 | [],[],K,h=>⟨h,rfl,fun hj=>by simp at hj⟩
 | [],_::_,K,h=>by cases h
 | _::_,[],K,h=>by cases h
 | c ::cs,d::ds,K,h=>by
   simp only[tP] at h;obtain⟨h1,h2⟩:=IY h;obtain⟨h3,h4,h5⟩:=vz h1;refine⟨h3,by simp[h4],fun {H ρ D j e} hj=> ?_⟩;cases j with
   | zero=>simp at hj; subst hj; exact⟨c,rfl,h2⟩
   | succ j=>simpa using h5 (by simpa using hj)
theorem DK {cs ds:List C} {K:Prop} (h:tP cs ds K) {H:Hp} {ρ:aK} {D:Nat→Prop} {vs:Array Value} (hv:db H ρ D cs vs):db H ρ D ds vs:=by
 obtain⟨_,h4,h5⟩:=vz h;refine⟨by rw[←h4]; exact hv.1,fun j d hj=> ?_⟩;obtain⟨c,hc,hi⟩:=h5 hj;exact hi (hv.2 j c hc)
theorem IZ :∀{ps qs:List (Bool × List C)} {K:Prop},Ah ps qs K→K∧ps.length=qs.length∧∀{H:Hp} {ρ:aK} {D:Nat→Prop} {j:Nat} {q:Bool × List C},qs[j]? = some q→∃p,ps[j]? = some p∧∀{v:Value},RT H ρ D p v→RT H ρ D q v
 | [],[],K,h=>⟨h,rfl,fun hj=>by simp at hj⟩
 | [],_::_,K,h=>by cases h
 | _::_,[],K,h=>by cases h
 | p :: ps,q::qs,K,h=>by
   simp only[Ah] at h
   split at h
   · rename_i I0;obtain⟨h1,h2,_⟩:=vz h;obtain⟨h3,h4,h5⟩:=IZ h1;refine⟨h3,by simp[h4],fun {H ρ D j e} hj=> ?_⟩;cases j with
     | zero=>
       simp at hj; subst hj;refine⟨p,rfl,fun {v} hv=> ?_⟩;obtain⟨b,cs⟩:=p;obtain⟨b',ds⟩:=q;simp only at I0 h2 h;subst I0;cases b with
       | true=>obtain⟨vs,g1,g2⟩:=hv; exact⟨vs,g1,DK h g2⟩
       | false=>
         obtain⟨c,g1,g2⟩:=hv;simp only at g1;subst g1;obtain⟨d,rfl⟩:∃d,ds = [d]:=List.length_eq_one_iff.1 (by simpa using h2.symm);refine⟨d,rfl, ?_⟩;obtain⟨c',jx,hi⟩:=(vz h).2.2 (H:=H) (ρ:=ρ) (D:=D) (j:=0) (d:=d) rfl;simp at jx;subst jx;exact hi g2
     | succ j=>simpa using h5 (by simpa using hj)
   · cases h
theorem Ai {v v0:V} {K:Prop} (h:mV v v0 K):K∧∀{H:Hp} {ρ:aK} {D:Nat→Prop} {x:Value},RV H ρ D v x→RV H ρ D v0 x:=by
 unfold mV at h
 split at h
 · exact IY h
 · exact⟨(vz h).1,fun⟨vs,h1,h2⟩=>⟨vs,h1,DK h h2⟩⟩
 · obtain⟨h1,h2,h3⟩:=IZ h;refine⟨h1,fun {H ρ D x} ⟨vs,g1,g2,g3⟩=>⟨vs,g1,by rw[g2,h2],fun j q hj=> ?_⟩⟩;obtain⟨p,hp,hi⟩:=h3 hj;exact hi (g3 j p hp)
 · cases h
theorem qA:∀{ps qs:List (Nat × an)} {K:Prop},nM ps qs K→K∧qs.map (·.1)=ps.map (·.1)∧∀k B',(k,B')∈qs→∃B,(k,B)∈ps∧
   (∀{h:Array Obj} {H:Hp} {ρ:aK} {D:Nat→Prop} {p:Value × (Nat→Nat)},cO h H ρ D B p→cO h H ρ D B' p)∧∀(p:Value × (Nat→Nat)) x,gk B' p x→gk B p x
 | [],[],K,h=>⟨h,rfl,fun k B' hk=>by cases hk⟩
 | [],_::_,K,h=>by cases h
 | _::_,[],K,h=>by cases h
 | (k, A)::ps,(k',A')::qs,K,h=>by
   simp only[nM] at h
   split at h
   · rename_i hk;subst hk
     split at h
     · rename_i E' t E x;obtain⟨h1,h⟩:=h;obtain⟨h2,h3,h4⟩:=qA h;have he:=DG (l:=false) h1;refine⟨h2,by simp[h3],fun j B' hj=> ?_⟩;rcases List.mem_cons.1 hj with hj | hj
       · cases hj; exact⟨_,List.mem_cons_self,by rw[he]; exact⟨fun h=>h,fun _ _ h=>h⟩⟩
       · obtain⟨B,g1,g2⟩:=h4 j B' hj; exact⟨B,List.mem_cons_of_mem _ g1,g2⟩
     · rename_i cs ds;have hm:=h;obtain⟨h,_,_⟩:=vz h;obtain⟨h2,h3,h4⟩:=qA h;refine⟨h2,by simp[h3],fun j B' hj=> ?_⟩;rcases List.mem_cons.1 hj with hj | hj
       · cases hj;exact⟨_,List.mem_cons_self,fun⟨b,vs,e,fz,e1,e2,e3,e4,e5⟩=>⟨b,vs,e,fz,e1,e2,e3,e4,DK hm e5⟩,fun _ _ h=>h⟩
       · obtain⟨B,g1,g2⟩:=h4 j B' hj; exact⟨B,List.mem_cons_of_mem _ g1,g2⟩
     · rename_i t x;obtain⟨h1,h⟩:=h;obtain⟨h2,h3,h4⟩:=qA h;have h1:t ()=x ():=h1;refine⟨h2,by simp[h3],fun j B' hj=> ?_⟩;rcases List.mem_cons.1 hj with hj | hj
       · cases hj;exact⟨_,List.mem_cons_self,fun⟨b,es,c,e1,e2,e3,e4⟩=>⟨b,es,c,e1,e2,e3,by rw[←h1]; exact e4⟩,fun _ _ h=>h⟩
       · obtain⟨B,g1,g2⟩:=h4 j B' hj; exact⟨B,List.mem_cons_of_mem _ g1,g2⟩
     · obtain⟨h2,h3,h4⟩:=qA h;refine⟨h2,by simp[h3],fun j B' hj=> ?_⟩;rcases List.mem_cons.1 hj with hj | hj
       · cases hj;exact⟨_,List.mem_cons_self,fun h=>h.2,fun _ _ h=>h⟩
       · obtain⟨B,g1,g2⟩:=h4 j B' hj; exact⟨B,List.mem_cons_of_mem _ g1,g2⟩
     · rename_i E' t E x;obtain⟨h1,h⟩:=h;obtain⟨h2,h3,h4⟩:=qA h;have he:=IU h1;refine⟨h2,by simp[h3],fun j B' hj=> ?_⟩;rcases List.mem_cons.1 hj with hj | hj
       · cases hj; exact⟨_,List.mem_cons_self,fun⟨q1,q2⟩=>⟨by rw[←he]; exact q1,q2⟩,fun _ _ h=>h⟩
       · obtain⟨B,g1,g2⟩:=h4 j B' hj; exact⟨B,List.mem_cons_of_mem _ g1,g2⟩
     · cases h
   · cases h
theorem I1 {ρ:aK} {x:Nat}:∀{ps qs:List (Nat × an)},qs.map (·.1)=ps.map (·.1)→aT ρ qs x=aT ρ ps x
 | [],[],_=>rfl
 | [],_::_,h=>by simp at h
 | _::_,[],h=>by simp at h
 | p ::ps,q::qs,h=>by
   simp only[List.map_cons,List.cons.injEq] at h;simp only[aT,h.1,I1 h.2]
theorem gw.as {h:Array Obj} {H0 H:Hp} {ρ:aK} {ps qs:List (Nat × an)} (r:gw h H0 H ρ ps) (hk:qs.map (·.1)=ps.map (·.1))
   (hb:∀k B',(k,B')∈qs→∃B,(k,B)∈ps∧(∀{h:Array Obj} {H:Hp} {ρ:aK} {D:Nat→Prop} {p:Value × (Nat→Nat)},cO h H ρ D B p→cO h H ρ D B' p)∧∀(p:Value × (Nat→Nat)) x,gk B' p x→gk B p x):gw h H0 H ρ qs:=by
 have hd:ay qs=ay ps:=by funext k; simp only[ay,hk]
 refine⟨by rw[hd]; exact r.oc,by rw[hk]; exact r.nd,r.h0,r.hh,fun k B' bL=> ?_,fun x=>by rw[I1 hk]; exact r.sum x,fun k B' bL x hx=> ?_,fun k B' bL x hx=> ?_⟩
 · obtain⟨B,g1,g2⟩:=hb k B' bL;rw[hd];exact g2.1 (r.ah k B g1)
 · obtain⟨B,g1,_⟩:=hb k B' bL;exact r.fresh k B g1 x hx
 · obtain⟨B,g1,g2⟩:=hb k B' bL;exact r.im k B g1 x (g2.2 _ x hx)
theorem PQ {bs cm:List (Nat × an)} {k:Nat} (h:uV bs k=some cm):ay cm=ay bs:=by
 unfold uV at h
 split at h
 · split at h
   · split at h
     · split at h
       · cases h; funext j; rw[fh,w3]
       · cases h
     · cases h
   · cases h
 · cases h; rfl
 · cases h
section
variable {Γ : Ctx} {H : Hp} {a : Act} {w : World}
theorem aM.mW (bT:Γ.hd = []) {ρ:aK} {σ:SS} (r:aM Γ H ρ σ a w) (k:Nat) :
   ∃ ρ',aM Γ H ρ' {σ with ah:=Go.Proofs.YtpklefhdkkegiaaGreat.mW σ.ah k} a w∧(∀j,(ρ' j).1=(ρ j).1)∧ay (Go.Proofs.YtpklefhdkkegiaaGreat.mW σ.ah k)=ay σ.ah:=by
 unfold Go.Proofs.YtpklefhdkkegiaaGreat.mW
 split
 · split
   · rename_i cm hc;obtain⟨ρ',r',h1⟩:=aM.close bT r hc;exact⟨ρ',r',h1,PQ hc⟩
   · exact⟨ρ,r,fun _=>rfl,rfl⟩
 · exact⟨ρ,r,fun _=>rfl,rfl⟩
theorem aM.closeAll (bT:Γ.hd = []):∀{ks:List Nat} {ρ:aK} {σ:SS},aM Γ H ρ σ a w→
   ∃ ρ',aM Γ H ρ' {σ with ah:=Go.Proofs.YtpklefhdkkegiaaGreat.closeAll ks σ.ah} a w∧(∀j,(ρ' j).1=(ρ j).1)∧ay (Go.Proofs.YtpklefhdkkegiaaGreat.closeAll ks σ.ah)=ay σ.ah
 | [],ρ,σ,r=>⟨ρ,r,fun _=>rfl,rfl⟩
 | k ::ks,ρ,σ,r=>by
   obtain⟨ρ1,r1,h1,h2⟩:=r.mW bT k;obtain⟨ρ2,r2,h3,h4⟩:=aM.closeAll bT (ks:=ks) r1;exact⟨ρ2,r2,fun j=>(h3 j).trans (h1 j),h4.trans h2⟩
theorem aM.m0:∀{l:List (Nat × av)} {ρ:aK} {σ:SS} {bs:List (Nat × an)},aM Γ H ρ σ a w→Go.Proofs.YtpklefhdkkegiaaGreat.m0 l σ.ah=some bs→
   ∃ ρ',aM Γ H ρ' {σ with ah:=bs} a w∧(∀j,ay σ.ah j→ay bs j∧(ρ' j).1=(ρ j).1)∧∀p∈l,ay bs p.1∧(ρ' p.1).1 = .slice none 0 0
 | [],ρ,σ,bs,r,h=>by
   simp only[Go.Proofs.YtpklefhdkkegiaaGreat.m0,Option.some.injEq] at h;subst h;exact⟨ρ,r,fun j hj=>⟨hj,rfl⟩,fun p hp=>by cases hp⟩
 | p :: l,ρ,σ,bs,r,h=>by
   simp only[Go.Proofs.YtpklefhdkkegiaaGreat.m0] at h
   split at h
   · rename_i hk;have r1:=r.th (w':=w) (B:= .own p.2 (fun _=>[]) false) (p:=(.slice none 0 0,fun _=>0)) hk (fun _ _ _=>rfl) (fun _ _=>rfl) (Ext.refl _) rfl (fun x hx=>by simp at hx) (fun x=>by simp) (bx.nil rfl) (by simp);obtain⟨ρ2,r2,g1,g2⟩:=aM.m0 r1 h;have hne:∀j,ay σ.ah j→j≠p.1:=fun j hj he=>jO hk (he▸hj);refine⟨ρ2,r2,fun j hj=> ?_,fun q hq=> ?_⟩
     · obtain⟨f1,f2⟩:=g1 j (gx.2 (.inr hj));exact⟨f1,by rw[f2,dm (hne j hj)]⟩
     · rcases List.mem_cons.1 hq with rfl | hq
       · obtain⟨f1,f2⟩:=g1 q.1 (gx.2 (.inl rfl));exact⟨f1,by rw[f2,dM]⟩
       · exact g2 q hq
   · cases h
end
section
variable {H : Hp} {ρ ρ' : aK} {D D' : Nat → Prop} (hg : ∀ k, D k → D' k ∧ (ρ' k).1 = (ρ k).1)
include hg
theorem I2 {s:Sh} {c c':C} {kk:Nat} {l:List (Nat × av)} {v:Value} (h:vv s c kk=(c',l)) (hl:∀p∈l,D' p.1∧(ρ' p.1).1 = .slice none 0 0) (hv:RC H ρ D c v):RC H ρ' D' c' v:=by
 unfold vv at h
 split at h
 · cases h;have:=hl _ List.mem_cons_self;simp only[RC] at hv;exact⟨this.1,by rw[hv,this.2]⟩
 · cases h;exact hv.grow ⟨fun _ _ h=>h,hg⟩
theorem DL:∀{ss:List Sh} {cs lx:List C} {kk:Nat} {l:List (Nat × av)},pb ss cs kk=(lx,l)→(∀p∈l,D' p.1∧(ρ' p.1).1 = .slice none 0 0)→
   lx.length=cs.length∧∀(j:Nat) c',lx[j]? = some c'→∃c,cs[j]? = some c∧∀v,RC H ρ D c v→RC H ρ' D' c' v
 | [],cs,lx,kk,l,h,_=>by
   simp only[pb,Prod.mk.injEq] at h;obtain⟨rfl,rfl⟩:=h;exact⟨rfl,fun j c' hj=>⟨c',hj,fun v hv=>hv.grow ⟨fun _ _ h=>h,hg⟩⟩⟩
 | _ ::_,[],lx,kk,l,h,_=>by
   simp only[pb,Prod.mk.injEq] at h;obtain⟨rfl,rfl⟩:=h;exact⟨rfl,fun j c' hj=>by simp at hj⟩
 | s ::ss,c::cs,lx,kk,l,h,hl=>by
   cases h1:vv s c kk with
   | mk c1 l1=>
   cases h2:pb ss cs (kk+1) with
   | mk Hy l2=>
   simp only[pb,h1,h2,Prod.mk.injEq] at h;obtain⟨rfl,rfl⟩:=h;obtain⟨g1,g2⟩:=DL h2 fun p hp=>hl p (List.mem_append_right _ hp);refine⟨by simp[g1],fun j c' hj=> ?_⟩;cases j with
   | zero=>simp at hj; subst hj; exact⟨c,rfl,fun v hv=>I2 hg h1 (fun p hp=>hl p (List.mem_append_left _ hp)) hv⟩
   | succ j=>simpa using g2 j c' (by simpa using hj)
theorem I3:∀{ps:List (Bool × List Sh)} {qs sa:List (Bool × List C)} {kk:Nat} {l:List (Nat × av)},r9 ps qs kk=(sa,l)→(∀p∈l,D' p.1∧(ρ' p.1).1 = .slice none 0 0)→
   sa.length=qs.length∧∀(j:Nat) q',sa[j]? = some q'→∃q,qs[j]? = some q∧∀v,RT H ρ D q v→RT H ρ' D' q' v
 | [],qs,sa,kk,l,h,_=>by
   simp only[r9,Prod.mk.injEq] at h;obtain⟨rfl,rfl⟩:=h;exact⟨rfl,fun j c' hj=>⟨c',hj,fun v hv=>hv.grow ⟨fun _ _ h=>h,hg⟩⟩⟩
 | _ ::_,[],sa,kk,l,h,_=>by
   simp only[r9,Prod.mk.injEq] at h;obtain⟨rfl,rfl⟩:=h;exact⟨rfl,fun j c' hj=>by simp at hj⟩
 | p :: ps,q::qs,sa,kk,l,h,hl=>by
   cases h1:pb p.2 q.2 kk with
   | mk c1 l1=>
   cases h2:r9 ps qs (kk+100) with
   | mk Hy l2=>
   simp only[r9,h1,h2,Prod.mk.injEq] at h;obtain⟨rfl,rfl⟩:=h;obtain⟨g1,g2⟩:=I3 h2 fun p hp=>hl p (List.mem_append_right _ hp);refine⟨by simp[g1],fun j q' hj=> ?_⟩;cases j with
   | zero=>
     simp at hj; subst hj;refine⟨q,rfl,fun v hv=> ?_⟩;obtain⟨f1,f2⟩:=DL hg h1 fun p hp=>hl p (List.mem_append_left _ hp);obtain⟨b,cs⟩:=q;cases b with
     | true=>
       obtain⟨vs,e1,e2⟩:=hv;refine⟨vs,e1,by rw[e2.1]; exact f1.symm,fun i c' hi=> ?_⟩;obtain⟨c,hc,l_⟩:=f2 i c' hi;exact l_ _ (e2.2 i c hc)
     | false=>
       obtain⟨c,e1,e2⟩:=hv;simp only at e1 f1 f2;subst e1;obtain⟨c',jx⟩:∃c',c1 = [c']:=List.length_eq_one_iff.1 (by simpa using f1);refine⟨c',jx, ?_⟩;obtain⟨c0,dZ,l_⟩:=f2 0 c' (by rw[jx]; rfl);simp at dZ;subst dZ;exact l_ _ e2
   | succ j=>simpa using g2 j q' (by simpa using hj)
theorem DM {s:dg} {v v':V} {kk:Nat} {l:List (Nat × av)} {x:Value} (h:r_ s v kk=(v',l)) (hl:∀p∈l,D' p.1∧(ρ' p.1).1 = .slice none 0 0) (hv:RV H ρ D v x):RV H ρ' D' v' x:=by
 unfold r_ at h
 split at h
 · rename_i s c;cases h1:vv s c kk with
   | mk c1 l1=>
   simp only[h1,Prod.mk.injEq] at h;obtain⟨rfl,rfl⟩:=h;exact I2 hg h1 hl hv
 · rename_i ss cs;cases h1:pb ss cs kk with
   | mk c1 l1=>
   simp only[h1,Prod.mk.injEq] at h;obtain⟨rfl,rfl⟩:=h;obtain⟨f1,f2⟩:=DL hg h1 hl;obtain⟨vs,e1,e2⟩:=hv;refine⟨vs,e1,by rw[e2.1]; exact f1.symm,fun i c' hi=> ?_⟩;obtain⟨c,hc,l_⟩:=f2 i c' hi;exact l_ _ (e2.2 i c hc)
 · rename_i ps qs;cases h1:r9 ps qs kk with
   | mk c1 l1=>
   simp only[h1,Prod.mk.injEq] at h;obtain⟨rfl,rfl⟩:=h;obtain⟨f1,f2⟩:=I3 hg h1 hl;obtain⟨vs,e1,e2,e3⟩:=hv;refine⟨vs,e1,by rw[e2,f1],fun i q' hi=> ?_⟩;obtain⟨q,hq,PR⟩:=f2 i q' hi;exact PR _ (e3 i q hq)
 · cases h;exact hv.grow ⟨fun _ _ h=>h,hg⟩
end
section
variable {P : Program} {tab : bh} (hT : fy P tab = true) {Γ : Ctx} {H : Hp} {ρ : aK} {σ : SS} {a : Act} {w : World} (r : aM Γ H ρ σ a w)
include hT r
omit hT r in
theorem DN {kp:List (Nat × dQ)} {l:List (Nat × Nat)}:∀p∈kp,(p.1,p.1)∈iQ (iP kp) l:=by
 induction kp with
 | nil=>intro p hp; cases hp
 | cons q kp ih=>
   intro p hp;rcases List.mem_cons.1 hp with rfl | hp
   · exact List.mem_cons_self
   · exact List.mem_cons_of_mem _ (ih p hp)
theorem PS (bT:Γ.hd = []) {fn:Func} {s:dg} {kp:List (Nat × dQ)} (h:xy tab fn.results.toList s kp σ) :
   ∃ v,(results fn a.tmps).run P w = .ok v w∧∃H' ρ',gw w.heap Γ.H0 H' ρ' (jo s kp)∧RV fX ρ' (ay (jo s kp)) (mj s) v∧∀p∈kp,ay σ.ah p.1→(ρ' p.1).1=(ρ p.1).1:=by
 unfold xy at h
 split at h
 · rename_i rv tq;obtain⟨v,hv,sb⟩:=zq hT r tq;cases hm:r_ s rv 9000000 with
   | mk xz l=>
   rw[hm] at h;simp only at h
   split at h
   · rename_i bs qz
     split at h
     · rename_i out xA
       split at h
       · rename_i hc;obtain⟨lJ,vA,fA⟩:=hc;obtain⟨ρ1,r1,f1,f2⟩:=r.closeAll bT (ks:=σ.ah.map (·.1));obtain⟨ρ2,r2,f3,f4⟩:=aM.m0 (σ:={σ with ah:=Go.Proofs.YtpklefhdkkegiaaGreat.closeAll (σ.ah.map (·.1)) σ.ah}) r1 qz
         have hg:∀k,ay σ.ah k→ay bs k∧(ρ2 k).1=(ρ k).1:=fun k hk=>by
           obtain⟨q1,q2⟩:=f3 k (by show ay (Go.Proofs.YtpklefhdkkegiaaGreat.closeAll (σ.ah.map (·.1)) σ.ah) k; rw[f2]; exact hk);exact⟨q1,by rw[q2,f1]⟩
         have ml:=DM hg hm f4 hv;obtain⟨rb,xB,gL⟩:=gw.iv xA lJ vA r2.b;have xC:=ml.d_ xB;obtain⟨xD,oT,hX⟩:=qA h;obtain⟨_,xE⟩:=Ai xD;have lr:ay (jo s kp)=ay out:=by funext k; simp only[ay,oT]
         refine⟨v,sb,H,_,rb.as oT hX, ?_,fun p hp=> ?_⟩
         · rw[lr];exact xE (xC.cl fA)
         · have cA:=DN (l:=ib (fm xz) 100) p hp;obtain⟨q1,q2⟩:=gL _ _ cA;intro hd;show(ρ2 (inv _ p.1)).1=_;rw[q2,(hg _ hd).2]
       · cases h
     · cases h
   · cases h
 · cases h
end
def lK:List (Nat × an)→Prop
 | []=>True
 | (_, .own E t _)::r=>((t ()).length≤cM∧∀x∈t (),deep E x)∧lK r
 | (_, .box cs)::r=>Ac cs∧lK r
 | _::r=>lK r
theorem DO {h:Array Obj} {H:Hp} {ρ:aK} {D:Nat→Prop}:∀{bs:List (Nat × an)},(∀k B,(k,B)∈bs→cO h H ρ D B (ρ k))→lK bs:=by
 intro bs
 induction bs with
 | nil=>intro _; trivial
 | cons p bs ih=>
   intro hb;have h1:=ih fun k B hk=>hb k B (List.mem_cons_of_mem _ hk);have h2:=hb p.1 p.2 List.mem_cons_self;obtain⟨k,B⟩:=p;cases B with
   | dead=>exact h1
   | view E xs=>exact h1
   | mp m=>exact h1
   | ck E xs i fs=>exact h1
   | own E t l=>
     have h3:bx h (.list E t) (ρ k).1 (ρ k).2:=h2;exact⟨(h3.rl (H:=fun b=>h[b]?) fun _ _=>rfl).ok,h1⟩
   | box cs=>
     obtain⟨b,vs,e,fz,_,_,_,_,h4⟩:=h2;exact⟨db.ok (f:=fun j=>vs.getD j Go.undef) h4.2,h1⟩
def pc (as:List V) (bs:List (Nat × an)) (n:Nat):SS:={env:=as++List.replicate (n - as.length) (.c .undef),ah:=bs}
def pd (P:Program) (tab:bh) (fr:Bool) (fn:Func) (c:Code) (as:List V) (bs:List (Nat × an)) (pk:List Nat) (F:SS→Prop):Prop:=
 mY P tab fr pk c (pc as bs fn.ntmps) fun e σ=>match e with
  | .normal=>F σ
  | .ret=>F σ
  | _=>False
def Aj (tab:bh) (rs:List ResultVar) (X:Type) (φ:X→Prop) (s:X→dg) (kp:X→List (Nat × dQ)) (σ:SS):Prop:=∃x:X,φ x∧xy tab rs (s x) (kp x) σ
theorem PT {bs:List (Nat × an)} {k:Nat} (h:ay bs k):∃B,(k,B)∈bs:=by
 obtain⟨⟨k',B⟩,h1,rfl⟩:=List.mem_map.1 h;exact⟨B,h1⟩
theorem PU {P : Program} {tab : bh} (hT : fy P tab = true) {f : FuncId} {fn : Func} {c : Code} (hf : P.funcs[f]? = some fn) (hb : fn.body = some c) (fB : (fn.name == "runtime.NumGoroutine") = false) {fr : Bool} (eZ : fr = true → gF c = true)
  {as:List V} {bs:List (Nat × an)} {X:Type} {φ:X→Prop} {s:X→dg} {kp:X→List (Nat × dQ)} {pk:List Nat} (iu:∀x,(kp x).map (·.1)=pk) (jl:pk.all (fun k=>(bs.map (·.1)).contains k)=true)
  (aQ:(bs.map (·.1)).all (fun k=>decide (k<100))=true)
  (h:ky as→lK bs→pd P tab fr fn c as bs pk (Aj tab fn.results.toList X φ s kp)):bJ P f as bs fun r b=>∃x,φ x∧r=mj (s x)∧b=jo (s x) (kp x):=by
 refine⟨⟨fn,hf,fB,by rw[hb]; rfl⟩,fun w vs ρ sd dN=> ?_⟩;refine calls_of_wp hf hb ?_
 have xF:∀k∈pk,ay bs k:=fun k hk=>by
  have:=List.all_eq_true.1 jl k hk;have:k∈bs.map (·.1):=List.contains_iff_mem.1 this;exact this
 let Γ:Ctx:=⟨fQ w (aT ρ bs),[],w,pk.map fun k=>(k,(ρ k).1)⟩
 have r :Rel Γ (pc as bs fn.ntmps) {tmps:=vs++Array.replicate (fn.ntmps - vs.size) Go.undef,defers:=[]} w:=by
  refine⟨fQ w (aT ρ bs),ρ,⟨sd,⟨by simp[pc,dN.1],fun j c hj=> ?_⟩,rfl,Ext.refl _,(fun p hp=>by cases hp),fun p hp=> ?_⟩⟩
  · simp only[pc] at hj;rcases Nat.lt_or_ge j as.length with aQ | k_
    · rw[List.getElem?_append_left aQ] at hj;have:=dN.2 j c hj;rw[Array.getD_eq_getD_getElem?,Array.getElem?_append_left (by rw[dN.1]; exact aQ),←Array.getD_eq_getD_getElem?];exact this
    · rw[List.getElem?_append_right k_,List.getElem?_replicate] at hj
      split at hj
      · cases hj; trivial
      · cases hj
  · obtain⟨k,hk,rfl⟩:=List.mem_map.1 hp;exact⟨xF k hk,rfl⟩
 refine z_ hT rfl (pk:=pk) (fun p hp=>by obtain⟨k,hk,rfl⟩:=List.mem_map.1 hp; exact hk) c eZ (h (Ad dN.2) (DO fun k B hk=>sd.ah k B hk)) r fun e az a' w' h' r'=> ?_
 have done :Aj tab fn.results.toList X φ s kp az→∃v,(results fn a'.tmps).run P w' = .ok v w'∧∃v' r cm H' ρ',Ending.returned v = .returned v'∧(∃x,φ x∧r=mj (s x)∧cm=jo (s x) (kp x))∧gw w'.heap (fQ w (aT ρ bs)) H' ρ' cm∧
    RV fX ρ' (ay cm) r v'∧Ext w w'∧∀k,ay cm k→ay bs k→(ρ' k).1=(ρ k).1:=fun hf=>by
  obtain⟨x,hx,hf⟩:=hf;obtain⟨H,ρ1,r'⟩:=r';obtain⟨v,h1,H',ρ',h2,h3,h4⟩:=PS hT r' rfl (fn:=fn) hf;refine⟨v,h1,v,_,_,H',ρ',rfl,⟨x,hx,rfl,rfl⟩,h2,h3,r'.n,fun k hk qi=> ?_⟩
  have cA : ∃q∈kp x,q.1=k:=by
    have bL:k∈(jo (s x) (kp x)).map (·.1):=hk
    have PV:k<100:=by
      have:=List.all_eq_true.1 aQ k qi;simpa using this
    have key:∀(l:List (Nat × dQ)) (m:List (Nat × an)),k∈(vu (jR l) m).map (·.1)→(∃q∈l,q.1=k)∨k∈m.map (·.1):=by
      intro l m
      induction l with
      | nil=>intro h; exact .inr h
      | cons q l ih=>
        intro h;simp only[jR,vu,List.map_cons,List.mem_cons] at h;rcases h with h | h
        · exact .inl ⟨q,List.mem_cons_self,h.symm⟩
        · rcases ih h with⟨q',h1,h2⟩ | h1
          · exact .inl ⟨q',List.mem_cons_of_mem _ h1,h2⟩
          · exact .inr h1
    rcases key _ _ bL with h | h
    · exact h
    · have:ay (num 100 (s x).bs) k:=h;have:=oI.1 this;omega
  obtain⟨q,hq,rfl⟩:=cA;have xG:q.1∈pk:=by rw[←iu x]; exact List.mem_map.2 ⟨q,hq,rfl⟩
  have se:=r'.hm (q.1,(ρ q.1).1) (List.mem_map.2 ⟨q.1,xG,rfl⟩);rw[h4 q hq se.1];exact se.2
 have nL:a'.defers = []:=by obtain⟨H,ρ,r'⟩:=r'; exact r'.d
 cases e with
 | normal=>obtain⟨v,h1,h2⟩:=done h'; exact⟨nL,v,h1,h2⟩
 | ret=>obtain⟨v,h1,h2⟩:=done h'; exact⟨nL,v,h1,h2⟩
 | exit id=>cases h'
 | goto l=>cases h'
 | panic ch=>cases h'
 | outgrown=>cases h'
def dx (s:dg) (kp:List (Nat × dQ)) (r:V) (b:List (Nat × an)):Prop:=r=mj s∧b=jo s kp
theorem fp {P : Program} {tab : bh} (hT : fy P tab = true) {f : FuncId} {fn : Func} {c : Code} (hf : P.funcs[f]? = some fn) (hb : fn.body = some c) (fB : (fn.name == "runtime.NumGoroutine") = false) {fr : Bool} (eZ : fr = true → gF c = true)
  {as:List V} {bs:List (Nat × an)} {s:dg} {kp:List (Nat × dQ)} (jl:(kp.map (·.1)).all (fun k=>(bs.map (·.1)).contains k)=true) (aQ:(bs.map (·.1)).all (fun k=>decide (k<100))=true)
  (h:∀P',P'=P→ky as→lK bs→pd P' tab fr fn c as bs (kp.map (·.1)) (xy tab fn.results.toList s kp)):bJ P f as bs (dx s kp):=by
 have h1:ky as→lK bs→pd P tab fr fn c as bs (kp.map (·.1)) (Aj tab fn.results.toList Unit (fun _=>True) (fun _=>s) (fun _=>kp)):=by
  intro hA hB;have h0:=h P rfl hA hB
  have e:Aj tab fn.results.toList Unit (fun _=>True) (fun _=>s) (fun _=>kp)=xy tab fn.results.toList s kp:=by
   funext σ
   exact propext ⟨fun⟨_,_,h⟩=>h,fun h=>⟨(),trivial,h⟩⟩
  rw[e]; exact h0
 have h2:=PU hT hf hb fB eZ (X:=Unit) (φ:=fun _=>True) (s:=fun _=>s) (kp:=fun _=>kp) (pk:=kp.map (·.1)) (fun _=>rfl) jl aQ h1;refine⟨h2.1,fun w vs ρ g1 g2=>(h2.2 w vs ρ g1 g2).mono fun e w' he=> ?_⟩;obtain⟨v,r,cm,H',ρ',q1,⟨_,_,q2,q3⟩,q4⟩:=he;exact⟨v,r,cm,H',ρ',q1,⟨q2,q3⟩,q4⟩
theorem aD.by {P P0:Program} {f:FuncId} {as:List V} {bs:List (Nat × an)} {K:V→List (Nat × an)→Prop} {s:dg} {kp:List (Nat × dQ)} (hP:P=P0) (h:bJ P0 f as bs (dx s kp)) (hk:K (mj s) (jo s kp)):aD P f as bs K:=by
 subst hP;exact⟨_,h,fun r b ⟨h1,h2⟩=>by rw[h1,h2]; exact hk⟩
theorem aD.lg {P P0:Program} {f:FuncId} {as xx:List V} {bs cm:List (Nat × an)} {K:V→List (Nat × an)→Prop} {s:dg} {kp:List (Nat × dQ)} (hP:P=P0) (h:bJ P0 f as bs (dx s kp)) (ha:xx=as) (hb:cm=bs) (hk:K (mj s) (jo s kp)):aD P f xx cm K:=by
 subst ha; subst hb;exact aD.by hP h hk
def I4:List (Nat × V)→Nat→V
 | [],_=> .c .undef
 | p::r,j=>if p.1=j then p.2 else I4 r j
def dO (sl:List (Nat × V)):Nat→Nat→List V
 | _,0=>[]
 | j,n+1=>I4 sl j::dO sl (j+1) n
def vB:List V→List V→Prop→Prop
 | [],[],K=>K
 | v ::vs,w::ws,K=>match w with
   | .c .undef=>vB vs ws K
   | w=>mV v w (vB vs ws K)
 | _,_,_=>False
def I5:C→C→List (Nat × Nat)
 | .own k, .own k'=>[(k,k')]
 | .ptr k _, .ptr k' _=>[(k,k')]
 | _,_=>[]
def DP:List C→List C→List (Nat × Nat)
 | c::cs,d::ds=>I5 c d++DP cs ds
 | _,_=>[]
def PW:V→V→List (Nat × Nat)
 | .c x, .c y=>I5 x y
 | .agg xs, .agg ys=>DP xs ys
 | _,_=>[]
def DQ:List V→List V→List (Nat × Nat)
 | v::vs,w::ws=>PW v w++DQ vs ws
 | _,_=>[]
def I6 (bs tb:List (Nat × an)):List (Nat × Nat)→List (Nat × Nat)
 | []=>[]
 | p::r=>(match aP bs p.1,aP tb p.2 with | some (.box cs),some (.box ds)=>DP cs ds | _,_=>[])++I6 bs tb r
def I7 (tb:List (Nat × an)):Nat→List V→List V→List rR
 | j,v::vs,w::ws=>(match v,w with
   | .c .nil, .c (.own k)=>(match aP tb k with | some (.own E _ _)=>[.env j E (9000000+k)] | _=>[])
   | _,_=>[])++I7 tb (j+1) vs ws
 | _,_,_=>[]
def I8 (tb:List (Nat × an)) (bk:Nat):Nat→List C→List C→List rR
 | j,c::cs,d::ds=>(match c,d with
   | .nil, .own k=>(match aP tb k with | some (.own E _ _)=>[.box bk j E (9000000+k)] | _=>[])
   | _,_=>[])++I8 tb bk (j+1) cs ds
 | _,_,_=>[]
def I9 (bs tb:List (Nat × an)):List (Nat × Nat)→List rR
 | []=>[]
 | p::r=>(match aP bs p.1,aP tb p.2 with | some (.box cs),some (.box ds)=>I8 tb p.1 0 cs ds | _,_=>[])++I9 bs tb r
def I_:List (Nat × Nat)→Nat→Option Nat
 | [],_=>none
 | p::r,k=>if p.2=k then some p.1 else I_ r k
def DR (pr:List (Nat × Nat)):List (Nat × an)→List (Nat × Nat)
 | []=>[]
 | q::r=>match I_ pr q.1 with | some k=>(k,q.1)::DR pr r | none=>DR pr r
def DS:Nat→List V→List Nat
 | _,[]=>[]
 | j,v::vs=>match v with | .c .undef=>DS (j+1) vs | _=>j::DS (j+1) vs
def PX (σ τ:SS):Norm:=
 let ms:=I7 τ.ah 0 σ.env τ.env++I9 σ.ah τ.ah (DQ σ.env τ.env)
 match σ.qp ms with
 | some cX=>
   let p1:=DQ cX.env τ.env
   { ms:=ms,L:=DS 0 τ.env,nm:=DR (p1++I6 cX.ah τ.ah p1) τ.ah}
 | none=>{ms:=[],L:=[],nm:=[]}
def vC:List (Nat × an)→List (Nat × an)→Prop→Prop
 | [],[],K=>K
 | p ::ps,q::qs,K=>
   if p.1=q.1 then
    match p.2,q.2 with
    | .ck E' t i' rI, .ck E x i fs=>kz (fun _=>an.ck E' t i' rI=an.ck E x i fs) (vC ps qs K)
    | B,B'=>nM [(p.1,B)] [(p.1,B')] (vC ps qs K)
   else False
 | _,_,_=>False
theorem Ja:∀{ps qs:List (Nat × an)} {K:Prop},vC ps qs K→K∧qs.map (·.1)=ps.map (·.1)∧∀k B',(k,B')∈qs→∃B,(k,B)∈ps∧
   (∀{h:Array Obj} {H:Hp} {ρ:aK} {D:Nat→Prop} {p:Value × (Nat→Nat)},cO h H ρ D B p→cO h H ρ D B' p)∧∀(p:Value × (Nat→Nat)) x,gk B' p x→gk B p x
 | [],[],K,h=>⟨h,rfl,fun k B' hk=>by cases hk⟩
 | [],_::_,K,h=>by cases h
 | _::_,[],K,h=>by cases h
 | (k, A)::ps,(k',A')::qs,K,h=>by
   have fin:∀(h:vC ps qs K),(∀{h:Array Obj} {H:Hp} {ρ:aK} {D:Nat→Prop} {p:Value × (Nat→Nat)},cO h H ρ D A p→cO h H ρ D A' p)→(∀(p:Value × (Nat→Nat)) x,gk A' p x→gk A p x)→k=k'→
       K ∧((k',A')::qs).map (·.1)=((k,A)::ps).map (·.1)∧∀j B',(j,B')∈(k',A')::qs→∃B,(j,B)∈(k,A)::ps∧
   (∀ {h:Array Obj} {H:Hp} {ρ:aK} {D:Nat→Prop} {p:Value × (Nat→Nat)},cO h H ρ D B p→cO h H ρ D B' p)∧∀(p:Value × (Nat→Nat)) x,gk B' p x→gk B p x:=fun hh g1 g2 hk=>by
     obtain⟨h2,h3,h4⟩:=Ja hh;clear h;subst hk;refine⟨h2,by simp[h3],fun j B' hj=> ?_⟩;rcases List.mem_cons.1 hj with hj | hj
     · cases hj; exact⟨_,List.mem_cons_self,g1,g2⟩
     · obtain⟨B,q1,q2⟩:=h4 j B' hj; exact⟨B,List.mem_cons_of_mem _ q1,q2⟩
   unfold vC at h
   split at h
   · rename_i hk
     split at h
     · rename_i Jb Jc;obtain⟨h1,h⟩:=h;simp only at Jb Jc;subst Jb Jc;rw[h1] at fin ⊢;exact fin h (fun h=>h) (fun _ _ h=>h) hk
     · obtain⟨h,h2,h3⟩:=qA h;obtain⟨B,g1,g2,g3⟩:=h3 k A' List.mem_cons_self;cases List.mem_singleton.1 g1;exact fin h g2 g3 hk
   · cases h
def ic (pk:List Nat) (σ τ:SS):Prop:=
 match σ.norm pk (PX σ τ) with
 | some az=>vB az.env τ.env (vC az.ah τ.ah True)
 | none=>False
theorem Jd:∀{vs ws:List V} {K:Prop},vB vs ws K→K∧vs.length=ws.length∧∀{H:Hp} {ρ:aK} {D:Nat→Prop} {j:Nat} {w:V},ws[j]? = some w→∃v,vs[j]? = some v∧∀{x:Value},RV H ρ D v x→RV H ρ D w x
 | [],[],K,h=>⟨h,rfl,fun hj=>by simp at hj⟩
 | [],_::_,K,h=>by cases h
 | _::_,[],K,h=>by cases h
 | v :: vs,w::ws,K,h=>by
   have step:∀{K':Prop},vB vs ws K→(∀{H:Hp} {ρ:aK} {D:Nat→Prop} {x:Value},RV H ρ D v x→RV H ρ D w x)→
      K ∧(v::vs).length=(w::ws).length∧∀{H:Hp} {ρ:aK} {D:Nat→Prop} {j:Nat} {w':V},(w::ws)[j]? = some w'→∃v',(v::vs)[j]? = some v'∧∀{x:Value},RV H ρ D v' x→RV H ρ D w' x:=by
     intro _ h1 h2;obtain⟨h3,h4,h5⟩:=Jd h1;refine⟨h3,by simp[h4],fun {H ρ D j e} hj=> ?_⟩;cases j with
     | zero=>simp at hj; subst hj; exact⟨v,rfl,h2⟩
     | succ j=>simpa using h5 (by simpa using hj)
   simp only[vB] at h
   split at h
   · exact step (K':=True) h fun _=>trivial
   · obtain⟨h1,h2⟩:=Ai h;exact step (K':=True) h1 h2
theorem lL {pk:List Nat} {σ τ:SS} (h:ic pk σ τ):Sub pk σ τ:=by
 intro Γ a w bT iu r;unfold ic at h
 split at h
 · rename_i az hn;obtain⟨H,ρ,r'⟩:=r.norm bT iu hn;obtain⟨h1,h2,h3⟩:=Jd h;obtain⟨_,h4,h5⟩:=Ja h1;have lr:ay τ.ah=ay az.ah:=by funext k; simp only[ay,h4]
   refine⟨H,ρ,r'.b.as h4 h5,⟨by rw[r'.e.size,h2],fun j c hj=> ?_⟩,r'.d,r'.n,fun p hp=> ?_,fun p hp=> ?_⟩
   · rw[lr];obtain⟨v,hv,hi⟩:=h3 hj;exact hi (r'.e.get j v hv)
   · rw[lr]; exact r'.hd p hp
   · rw[lr]; exact r'.hm p hp
 · cases h
theorem aR.by {pk:List Nat} {σ:SS} {R:SS→(SS→Prop)→Prop} {X:Type} (sl:X→List (Nat × V)) (bl:X→List (Nat × an)) (φ:X→Prop) (m:X→Unit→Nat) (x0:X) (h0:φ x0)
  (hn:ic pk σ {env:=dO (sl x0) 0 σ.env.length,ah:=bl x0})
  (hr:∀x,φ x→R {env:=dO (sl x) 0 σ.env.length,ah:=bl x} fun az=>aL pk X (fun x=>{env:=dO (sl x) 0 σ.env.length,ah:=bl x}) φ m (m x) az):aR pk σ R:=
 ⟨X,_,φ,m,x0,h0,lL hn,hr⟩
theorem aL.by {pk:List Nat} {X:Type} {st:X→SS} {φ:X→Prop} {m:X→Unit→Nat} {n:Unit→Nat} {σ:SS} (x:X) (hm:m x ()<n ()) (zQ:φ x) (hn:ic pk σ (st x)):aL pk X st φ m n σ:=⟨x,hm,zQ,lL hn⟩
theorem mh.vD {pk:List Nat} {σ:SS} {R:SS→Prop} {A:Type} (n:Nat) (he:σ.env.length=n) (sl:A→List (Nat × V)) (bl:A→List (Nat × an)) (φ:A→Prop) (a:A)
  (hn:ic pk σ {env:=dO (sl a) 0 n,ah:=bl a}) (h0:φ a) (hr:∀a,φ a→R {env:=dO (sl a) 0 n,ah:=bl a}):mh pk σ R:=
 ⟨A,fun x=>{env:=dO (sl x) 0 n,ah:=bl x},fun x=>φ x,a,h0,lL hn,fun x hx=>hr x hx⟩
theorem mh.xH {pk:List Nat} {σ:SS} {R:SS→Prop} {A B:Type} (n:Nat) (he:σ.env.length=n) (sl:A→B→List (Nat × V)) (bl:A→B→List (Nat × an)) (φ:A→B→Prop) (a:A) (b:B)
  (hn:ic pk σ {env:=dO (sl a b) 0 n,ah:=bl a b}) (h0:φ a b) (hr:∀a b,φ a b→R {env:=dO (sl a b) 0 n,ah:=bl a b}):mh pk σ R:=
 ⟨A × B,fun x=>{env:=dO (sl x.1 x.2) 0 n,ah:=bl x.1 x.2},fun x=>φ x.1 x.2,(a,b),h0,lL hn,fun x hx=>hr x.1 x.2 hx⟩
theorem mh.DT {pk:List Nat} {σ:SS} {R:SS→Prop} {A B C:Type} (n:Nat) (he:σ.env.length=n) (sl:A→B→C→List (Nat × V)) (bl:A→B→C→List (Nat × an)) (φ:A→B→C→Prop) (a:A) (b:B) (c:C)
  (hn:ic pk σ {env:=dO (sl a b c) 0 n,ah:=bl a b c}) (h0:φ a b c) (hr:∀a b c,φ a b c→R {env:=dO (sl a b c) 0 n,ah:=bl a b c}):mh pk σ R:=
 ⟨A × B × C,fun x=>{env:=dO (sl x.1 x.2.1 x.2.2) 0 n,ah:=bl x.1 x.2.1 x.2.2},fun x=>φ x.1 x.2.1 x.2.2,(a,b,c),h0,lL hn,fun x hx=>hr x.1 x.2.1 x.2.2 hx⟩
theorem mh.DU {pk:List Nat} {σ:SS} {R:SS→Prop} {A B C D:Type} (n:Nat) (he:σ.env.length=n) (sl:A→B→C→D→List (Nat × V)) (bl:A→B→C→D→List (Nat × an)) (φ:A→B→C→D→Prop) (a:A) (b:B) (c:C) (d:D)
  (hn:ic pk σ {env:=dO (sl a b c d) 0 n,ah:=bl a b c d}) (h0:φ a b c d) (hr:∀a b c d,φ a b c d→R {env:=dO (sl a b c d) 0 n,ah:=bl a b c d}):mh pk σ R:=
 ⟨A × B × C × D,fun x=>{env:=dO (sl x.1 x.2.1 x.2.2.1 x.2.2.2) 0 n,ah:=bl x.1 x.2.1 x.2.2.1 x.2.2.2},fun x=>φ x.1 x.2.1 x.2.2.1 x.2.2.2,(a,b,c,d),h0,lL hn,fun x hx=>hr x.1 x.2.1 x.2.2.1 x.2.2.2 hx⟩
theorem mh.Ak {pk:List Nat} {σ:SS} {R:SS→Prop} {A B C D E:Type} (n:Nat) (he:σ.env.length=n) (sl:A→B→C→D→E→List (Nat × V)) (bl:A→B→C→D→E→List (Nat × an)) (φ:A→B→C→D→E→Prop) (a:A) (b:B) (c:C) (d:D) (e:E)
  (hn:ic pk σ {env:=dO (sl a b c d e) 0 n,ah:=bl a b c d e}) (h0:φ a b c d e) (hr:∀a b c d e,φ a b c d e→R {env:=dO (sl a b c d e) 0 n,ah:=bl a b c d e}):mh pk σ R:=
 ⟨A × B × C × D × E,fun x=>{env:=dO (sl x.1 x.2.1 x.2.2.1 x.2.2.2.1 x.2.2.2.2) 0 n,ah:=bl x.1 x.2.1 x.2.2.1 x.2.2.2.1 x.2.2.2.2},fun x=>φ x.1 x.2.1 x.2.2.1 x.2.2.2.1 x.2.2.2.2,(a,b,c,d,e),h0,lL hn,fun x hx=>hr x.1 x.2.1 x.2.2.1 x.2.2.2.1 x.2.2.2.2 hx⟩
theorem mh.Je {pk:List Nat} {σ:SS} {R:SS→Prop} {A B C D E F:Type} (n:Nat) (he:σ.env.length=n) (sl:A→B→C→D→E→F→List (Nat × V)) (bl:A→B→C→D→E→F→List (Nat × an)) (φ:A→B→C→D→E→F→Prop) (a:A) (b:B) (c:C) (d:D) (e:E) (f:F)
  (hn:ic pk σ {env:=dO (sl a b c d e f) 0 n,ah:=bl a b c d e f}) (h0:φ a b c d e f) (hr:∀a b c d e f,φ a b c d e f→R {env:=dO (sl a b c d e f) 0 n,ah:=bl a b c d e f}):mh pk σ R:=
 ⟨A × B × C × D × E × F,fun x=>{env:=dO (sl x.1 x.2.1 x.2.2.1 x.2.2.2.1 x.2.2.2.2.1 x.2.2.2.2.2) 0 n,ah:=bl x.1 x.2.1 x.2.2.1 x.2.2.2.1 x.2.2.2.2.1 x.2.2.2.2.2},fun x=>φ x.1 x.2.1 x.2.2.1 x.2.2.2.1 x.2.2.2.2.1 x.2.2.2.2.2,(a,b,c,d,e,f),h0,lL hn,fun x hx=>hr x.1 x.2.1 x.2.2.1 x.2.2.2.1 x.2.2.2.2.1 x.2.2.2.2.2 hx⟩
def sf (m:List (Nat × Nat)):List (Bool × List C)→List (Bool × List C)
 | []=>[]
 | p::r=>(p.1,mT m p.2)::sf m r
def V.sg (m:List (Nat × Nat)):V→V
 | .aS ps=> .aS (sf m ps)
 | v=>v.d_ m
section
variable {H : Hp} {ρ ρ' : aK} {D D' : Nat → Prop} {m : List (Nat × Nat)}
theorem Jf:∀{cs:List (Bool × List C)} {j:Nat} {p:Bool × List C},(sf m cs)[j]? = some p→∃p0,cs[j]? = some p0∧p=(p0.1,mT m p0.2)
 | [],j,p,h=>by simp[sf] at h
 | c0::cs,0,p,h=>by simp[sf] at h; exact⟨c0,rfl,h.symm⟩
 | c0::cs,j+1,p,h=>by simp only[sf,List.getElem?_cons_succ] at h ⊢; exact Jf h
theorem Jg:∀{cs:List (Bool × List C)},(sf m cs).length=cs.length
 | []=>rfl
 | c::cs=>by simp[sf,Jg (cs:=cs)]
theorem RV.sg (hm:∀k k',lk m k=some k'→D' k'∧(ρ' k').1=(ρ k).1) {c:V} {v:Value} (h:RV H ρ D c v):RV H ρ' D' (c.sg m) v:=by
 cases c with
 | c x=>exact RV.d_ hm (c:= .c x) h
 | agg cs=>exact RV.d_ hm (c:= .agg cs) h
 | aS cs=>
   obtain⟨vs,h1,h2,h3⟩:=h;refine⟨vs,h1,by rw[h2,Jg],fun j p hj=> ?_⟩;obtain⟨p0,g1,rfl⟩:=Jf hj;have h4:=h3 j p0 g1;obtain⟨b,DV⟩:=p0;cases b with
   | true=>
     obtain⟨us,q1,q2⟩:=h4;exact⟨us,q1,q2.d_ hm⟩
   | false=>
     obtain⟨c,q1,q2⟩:=h4;have q1:DV = [c]:=q1;subst q1;exact⟨c.d_ m,rfl,q2.d_ hm⟩
end
def nN:List Sh→List C→List C
 | [],cs=>cs
 | _::_,[]=>[]
 | s::ss,c::cs=>(match s with | .any=> .undef | _=>c)::nN ss cs
def sh:List (Bool × List Sh)→List (Bool × List C)→List (Bool × List C)
 | p::ps,q::qs=>(q.1,nN p.2 q.2)::sh ps qs
 | _,qs=>qs
def Al (s:dg) (v:V):V:=
 match s,v with
 | .aS ps, .aS qs=> .aS (sh ps qs)
 | _,v=>v
section
variable {H : Hp} {ρ : aK} {D : Nat → Prop}
theorem Jh:∀{ss:List Sh} {cs:List C},(nN ss cs).length=cs.length
 | [],cs=>rfl
 | _::_,[]=>rfl
 | s::ss,c::cs=>by simp[nN,Jh (ss:=ss) (cs:=cs)]
theorem Ji:∀{ss:List Sh} {cs:List C} {j:Nat} {c:C},(nN ss cs)[j]? = some c→∃c0,cs[j]? = some c0∧(c=c0∨c = .undef)
 | [],cs,j,c,h=>⟨c,h, .inl rfl⟩
 | _::_,[],j,c,h=>by simp[nN] at h
 | s ::ss,c0::cs,0,c,h=>by
   simp only[nN,List.getElem?_cons_zero,Option.some.injEq] at h;refine⟨c0,rfl, ?_⟩;subst h
   split
   · exact .inr rfl
   · exact .inl rfl
 | s ::ss,c0::cs,j+1,c,h=>by
   simp only[nN,List.getElem?_cons_succ] at h ⊢;exact Ji h
theorem Jj:∀{ps:List (Bool × List Sh)} {qs:List (Bool × List C)},(sh ps qs).length=qs.length
 | [],qs=>by cases qs <;> rfl
 | _::_,[]=>rfl
 | p::ps,q::qs=>by simp[sh,Jj (ps:=ps) (qs:=qs)]
theorem Jk:∀{ps:List (Bool × List Sh)} {qs:List (Bool × List C)} {j:Nat} {q:Bool × List C},(sh ps qs)[j]? = some q→∃q0 ss,qs[j]? = some q0∧(q=q0∨q=(q0.1,nN ss q0.2))
 | [],qs,j,q,h=>⟨q,[],by cases qs <;> exact h, .inl rfl⟩
 | _::_,[],j,q,h=>by simp[sh] at h
 | p ::ps,q0::qs,0,q,h=>by
   simp only[sh,List.getElem?_cons_zero,Option.some.injEq] at h;exact⟨q0,p.2,rfl, .inr h.symm⟩
 | p ::ps,q0::qs,j+1,q,h=>by
   simp only[sh,List.getElem?_cons_succ] at h ⊢;exact Jk h
theorem db.mask {ss:List Sh} {cs:List C} {vs:Array Value} (h:db H ρ D cs vs):db H ρ D (nN ss cs) vs:=by
 refine⟨by rw[Jh]; exact h.1,fun j c hj=> ?_⟩;obtain⟨c0,h1,h2⟩:=Ji hj;rcases h2 with rfl | rfl
 · exact h.2 j _ h1
 · trivial
theorem RV.mask {s:dg} {c:V} {v:Value} (h:RV H ρ D c v):RV H ρ D (Al s c) v:=by
 unfold Al
 split
 · rename_i ps qs;obtain⟨vs,h1,h2,h3⟩:=h;refine⟨vs,h1,by rw[h2,Jj],fun j q hj=> ?_⟩;obtain⟨q0,ss,g1,g2⟩:=Jk hj;have h4:=h3 j q0 g1;rcases g2 with rfl | rfl
   · exact h4
   · obtain⟨b,DV⟩:=q0;cases b with
     | true=>
       obtain⟨us,q1,q2⟩:=h4;exact⟨us,q1,q2.mask⟩
     | false=>
       obtain⟨c,q1,q2⟩:=h4;have q1:DV = [c]:=q1;subst q1;cases ss with
       | nil=>exact⟨c,rfl,q2⟩
       | cons s ss=>
         refine⟨_,by simp only[nN]; cases ss <;> rfl, ?_⟩
         split
         · trivial
         · exact q2
 · exact h
end
def xI (tab :bh) (rs:List ResultVar) (s:dg) (kp:List (Nat × dQ)) (σ:SS):Prop:=
 match uM tab σ rs with
 | some r0 =>
   match r_ s (Al s r0) 9000000 with
   | (r', l)=>
     match m0 l (closeAll (σ.ah.map (·.1)) σ.ah) with
     | some bs=>
       match oX bs (iQ (iP kp) (ib (fm r') 100)) (iQ (iP kp) (ib (fm r') 100)) with
       | some out=>
         if eX ((iQ (iP kp) (ib (fm r') 100)).map (·.1))=true∧eX ((iQ (iP kp) (ib (fm r') 100)).map (·.2))=true∧(r'.sg (iQ (iP kp) (ib (fm r') 100))).cl=true then
          nM out (jo s kp) (mV (r'.sg (iQ (iP kp) (ib (fm r') 100))) (mj s) True)
         else False
       | none=>False
     | none=>False
 | none=>False
section
variable {P : Program} {tab : bh} (hT : fy P tab = true) {Γ : Ctx} {H : Hp} {ρ : aK} {σ : SS} {a : Act} {w : World} (r : aM Γ H ρ σ a w)
include hT r
theorem PY (bT:Γ.hd = []) {fn:Func} {s:dg} {kp:List (Nat × dQ)} (h:xI tab fn.results.toList s kp σ) :
   ∃ v,(results fn a.tmps).run P w = .ok v w∧∃H' ρ',gw w.heap Γ.H0 H' ρ' (jo s kp)∧RV fX ρ' (ay (jo s kp)) (mj s) v∧∀p∈kp,ay σ.ah p.1→(ρ' p.1).1=(ρ p.1).1:=by
 unfold xI at h
 split at h
 · rename_i rv tq;obtain⟨v,hv,sb⟩:=zq hT r tq;cases hm:r_ s (Al s rv) 9000000 with
   | mk xz l=>
   rw[hm] at h;simp only at h
   split at h
   · rename_i bs qz
     split at h
     · rename_i out xA
       split at h
       · rename_i hc;obtain⟨lJ,vA,fA⟩:=hc;obtain⟨ρ1,r1,f1,f2⟩:=r.closeAll bT (ks:=σ.ah.map (·.1));obtain⟨ρ2,r2,f3,f4⟩:=aM.m0 (σ:={σ with ah:=Go.Proofs.YtpklefhdkkegiaaGreat.closeAll (σ.ah.map (·.1)) σ.ah}) r1 qz
         have hg:∀k,ay σ.ah k→ay bs k∧(ρ2 k).1=(ρ k).1:=fun k hk=>by
           obtain⟨q1,q2⟩:=f3 k (by show ay (Go.Proofs.YtpklefhdkkegiaaGreat.closeAll (σ.ah.map (·.1)) σ.ah) k; rw[f2]; exact hk);exact⟨q1,by rw[q2,f1]⟩
         have ml:=DM hg hm f4 (RV.mask (s:=s) hv);obtain⟨rb,xB,gL⟩:=gw.iv xA lJ vA r2.b;have xC:=RV.sg xB ml;obtain⟨xD,oT,hX⟩:=qA h;obtain⟨_,xE⟩:=Ai xD;have lr:ay (jo s kp)=ay out:=by funext k; simp only[ay,oT]
         refine⟨v,sb,H,_,rb.as oT hX, ?_,fun p hp=> ?_⟩
         · rw[lr];exact xE (xC.cl fA)
         · have cA:=DN (l:=ib (fm xz) 100) p hp;obtain⟨q1,q2⟩:=gL _ _ cA;intro hd;show(ρ2 (inv _ p.1)).1=_;rw[q2,(hg _ hd).2]
       · cases h
     · cases h
   · cases h
 · cases h
end
def xJ (tab:bh) (rs:List ResultVar) (X:Type) (φ:X→Prop) (s:X→dg) (kp:X→List (Nat × dQ)) (σ:SS):Prop:=∃x:X,φ x∧xI tab rs (s x) (kp x) σ
theorem Jl {P : Program} {tab : bh} (hT : fy P tab = true) {f : FuncId} {fn : Func} {c : Code} (hf : P.funcs[f]? = some fn) (hb : fn.body = some c) (fB : (fn.name == "runtime.NumGoroutine") = false) {fr : Bool} (eZ : fr = true → gF c = true)
  {as:List V} {bs:List (Nat × an)} {X:Type} {φ:X→Prop} {s:X→dg} {kp:X→List (Nat × dQ)} {pk:List Nat} (iu:∀x,(kp x).map (·.1)=pk) (jl:pk.all (fun k=>(bs.map (·.1)).contains k)=true)
  (aQ:(bs.map (·.1)).all (fun k=>decide (k<100))=true)
  (h:ky as→lK bs→pd P tab fr fn c as bs pk (xJ tab fn.results.toList X φ s kp)):bJ P f as bs fun r b=>∃x,φ x∧r=mj (s x)∧b=jo (s x) (kp x):=by
 refine⟨⟨fn,hf,fB,by rw[hb]; rfl⟩,fun w vs ρ sd dN=> ?_⟩;refine calls_of_wp hf hb ?_
 have xF:∀k∈pk,ay bs k:=fun k hk=>by
  have:=List.all_eq_true.1 jl k hk;have:k∈bs.map (·.1):=List.contains_iff_mem.1 this;exact this
 let Γ:Ctx:=⟨fQ w (aT ρ bs),[],w,pk.map fun k=>(k,(ρ k).1)⟩
 have r :Rel Γ (pc as bs fn.ntmps) {tmps:=vs++Array.replicate (fn.ntmps - vs.size) Go.undef,defers:=[]} w:=by
  refine⟨fQ w (aT ρ bs),ρ,⟨sd,⟨by simp[pc,dN.1],fun j c hj=> ?_⟩,rfl,Ext.refl _,(fun p hp=>by cases hp),fun p hp=> ?_⟩⟩
  · simp only[pc] at hj;rcases Nat.lt_or_ge j as.length with aQ | k_
    · rw[List.getElem?_append_left aQ] at hj;have:=dN.2 j c hj;rw[Array.getD_eq_getD_getElem?,Array.getElem?_append_left (by rw[dN.1]; exact aQ),←Array.getD_eq_getD_getElem?];exact this
    · rw[List.getElem?_append_right k_,List.getElem?_replicate] at hj
      split at hj
      · cases hj; trivial
      · cases hj
  · obtain⟨k,hk,rfl⟩:=List.mem_map.1 hp;exact⟨xF k hk,rfl⟩
 refine z_ hT rfl (pk:=pk) (fun p hp=>by obtain⟨k,hk,rfl⟩:=List.mem_map.1 hp; exact hk) c eZ (h (Ad dN.2) (DO fun k B hk=>sd.ah k B hk)) r fun e az a' w' h' r'=> ?_
 have done :xJ tab fn.results.toList X φ s kp az→∃v,(results fn a'.tmps).run P w' = .ok v w'∧∃v' r cm H' ρ',Ending.returned v = .returned v'∧(∃x,φ x∧r=mj (s x)∧cm=jo (s x) (kp x))∧gw w'.heap (fQ w (aT ρ bs)) H' ρ' cm∧
    RV fX ρ' (ay cm) r v'∧Ext w w'∧∀k,ay cm k→ay bs k→(ρ' k).1=(ρ k).1:=fun hf=>by
  obtain⟨x,hx,hf⟩:=hf;obtain⟨H,ρ1,r'⟩:=r';obtain⟨v,h1,H',ρ',h2,h3,h4⟩:=PY hT r' rfl (fn:=fn) hf;refine⟨v,h1,v,_,_,H',ρ',rfl,⟨x,hx,rfl,rfl⟩,h2,h3,r'.n,fun k hk qi=> ?_⟩
  have cA : ∃q∈kp x,q.1=k:=by
    have bL:k∈(jo (s x) (kp x)).map (·.1):=hk
    have PV:k<100:=by
      have:=List.all_eq_true.1 aQ k qi;simpa using this
    have key:∀(l:List (Nat × dQ)) (m:List (Nat × an)),k∈(vu (jR l) m).map (·.1)→(∃q∈l,q.1=k)∨k∈m.map (·.1):=by
      intro l m
      induction l with
      | nil=>intro h; exact .inr h
      | cons q l ih=>
        intro h;simp only[jR,vu,List.map_cons,List.mem_cons] at h;rcases h with h | h
        · exact .inl ⟨q,List.mem_cons_self,h.symm⟩
        · rcases ih h with⟨q',h1,h2⟩ | h1
          · exact .inl ⟨q',List.mem_cons_of_mem _ h1,h2⟩
          · exact .inr h1
    rcases key _ _ bL with h | h
    · exact h
    · have:ay (num 100 (s x).bs) k:=h;have:=oI.1 this;omega
  obtain⟨q,hq,rfl⟩:=cA;have xG:q.1∈pk:=by rw[←iu x]; exact List.mem_map.2 ⟨q,hq,rfl⟩
  have se:=r'.hm (q.1,(ρ q.1).1) (List.mem_map.2 ⟨q.1,xG,rfl⟩);rw[h4 q hq se.1];exact se.2
 have nL:a'.defers = []:=by obtain⟨H,ρ,r'⟩:=r'; exact r'.d
 cases e with
 | normal=>obtain⟨v,h1,h2⟩:=done h'; exact⟨nL,v,h1,h2⟩
 | ret=>obtain⟨v,h1,h2⟩:=done h'; exact⟨nL,v,h1,h2⟩
 | exit id=>cases h'
 | goto l=>cases h'
 | panic ch=>cases h'
 | outgrown=>cases h'
theorem PZ {P : Program} {tab : bh} (hT : fy P tab = true) {f : FuncId} {fn : Func} {c : Code} (hf : P.funcs[f]? = some fn) (hb : fn.body = some c) (fB : (fn.name == "runtime.NumGoroutine") = false) {fr : Bool} (eZ : fr = true → gF c = true)
  {as:List V} {bs:List (Nat × an)} {s:dg} {kp:List (Nat × dQ)} (jl:(kp.map (·.1)).all (fun k=>(bs.map (·.1)).contains k)=true) (aQ:(bs.map (·.1)).all (fun k=>decide (k<100))=true)
  (h:∀P',P'=P→ky as→lK bs→pd P' tab fr fn c as bs (kp.map (·.1)) (xI tab fn.results.toList s kp)):bJ P f as bs (dx s kp):=by
 have h1:ky as→lK bs→pd P tab fr fn c as bs (kp.map (·.1)) (xJ tab fn.results.toList Unit (fun _=>True) (fun _=>s) (fun _=>kp)):=by
  intro hA hB;have h0:=h P rfl hA hB
  have e:xJ tab fn.results.toList Unit (fun _=>True) (fun _=>s) (fun _=>kp)=xI tab fn.results.toList s kp:=by
   funext σ
   exact propext ⟨fun⟨_,_,h⟩=>h,fun h=>⟨(),trivial,h⟩⟩
  rw[e]; exact h0
 have h2:=Jl hT hf hb fB eZ (X:=Unit) (φ:=fun _=>True) (s:=fun _=>s) (kp:=fun _=>kp) (pk:=kp.map (·.1)) (fun _=>rfl) jl aQ h1;refine⟨h2.1,fun w vs ρ g1 g2=>(h2.2 w vs ρ g1 g2).mono fun e w' he=> ?_⟩;obtain⟨v,r,cm,H',ρ',q1,⟨_,_,q2,q3⟩,q4⟩:=he;exact⟨v,r,cm,H',ρ',q1,⟨q2,q3⟩,q4⟩
end Go.Proofs.YtpklefhdkkegiaaGreat

