/- Parts of a proof. No conditions. -/

import Derived.Test.YtpklefhdkkegiaaGreatG03
set_option linter.unusedSimpArgs false
set_option linter.unusedVariables false
namespace Go.Proofs.YtpklefhdkkegiaaGreat
open Go
theorem Lg {bs:List (Nat × ak)} (hn:(bs.map (·.1)).Nodup) {k:Nat} {B:ak} (h:(k,B)∈bs):aL bs k=some B:=by
 induction bs with
 | nil=>cases h
 | cons p r ih=>
   simp only[List.map_cons,List.nodup_cons] at hn;simp only[aL];cases h with
   | head=>simp
   | tail _ h=>
     rw[if_neg fun he=>hn.1 (by rw[he]; exact List.mem_map.2 ⟨_,h,rfl⟩)];exact ih hn.2 h
theorem ES {m:List (Nat × Nat)} {k k':Nat} (h:lk m k=some k'):(k,k')∈m:=by
 induction m with
 | nil=>cases h
 | cons p r ih=>
   simp only[lk] at h
   split at h
   · rename_i hp; cases h; subst hp; exact List.mem_cons_self
   · exact List.mem_cons_of_mem _ (ih h)
def inv:List (Nat × Nat)→Nat→Nat
 | [],_=>0
 | p::r,k=>if p.2=k then p.1 else inv r k
theorem Lh {m:List (Nat × Nat)} (h:dL (m.map (·.2))=true) {k k':Nat} (hm:(k,k')∈m):inv m k'=k:=by
 induction m with
 | nil=>cases hm
 | cons p r ih=>
   simp only[List.map_cons] at h;obtain⟨h1,h2⟩:=tU h;simp only[inv];cases hm with
   | head=>simp
   | tail _ hm=>
     rw[if_neg fun he=>h1 (by rw[he]; exact List.mem_map.2 ⟨_,hm,rfl⟩)];exact ih h2 hm
theorem Li {l:List Nat} (h:dL l=true):l.Nodup:=by
 induction l with
 | nil=>simp
 | cons x l ih=>obtain⟨h1,h2⟩:=tU h; exact List.nodup_cons.2 ⟨h1,ih h2⟩
theorem ET {bs:List (Nat × ak)} {m:List (Nat × Nat)}:∀{l:List (Nat × Nat)} {out:List (Nat × ak)},mR bs m l=some out→
   out.map (·.1)=l.map (·.2)∧(∀q,q∈out→∃k B,(k,q.1)∈l∧aL bs k=some B∧q.2=B.dv m∧(B.wZ m=true→False))∧(∀p∈l,∃B,aL bs p.1=some B)
 | [],out,h=>by simp only[mR,Option.some.injEq] at h; subst h; exact⟨rfl,(fun q hq=>by cases hq),(fun p hp=>by cases hp)⟩
 | p :: l,out,h=>by
   simp only[mR] at h
   split at h
   · rename_i B l' hB hl
     split at h
     · cases h
     rename_i bP;cases h;obtain⟨h1,h2,h3⟩:=ET hl;refine⟨by simp[h1],fun q hq=> ?_,fun q hq=> ?_⟩
     · cases hq with
       | head=>exact⟨p.1,B,List.mem_cons_self,hB,rfl,bP⟩
       | tail _ hq=>obtain⟨k,A,g1,g2,g3⟩:=h2 q hq; exact⟨k,A,List.mem_cons_of_mem _ g1,g2,g3⟩
     · cases hq with
       | head=>exact⟨B,hB⟩
       | tail _ hq=>exact h3 q hq
   · cases h
section
variable {H : Hp} {ρ ρ' : aF} {D D' : Nat → Prop} {m : List (Nat × Nat)} (hm : ∀ k k', lk m k = some k' → D' k' ∧ (ρ' k').1 = (ρ k).1)
include hm
theorem RC.dv {c:C} {v:Value} (h:RC H ρ D c v):RC H ρ' D' (c.dv m) v:=by
 cases c with
 | lf l=>exact h
 | bl b=>exact h
 | nil=>exact h
 | own k=>
   simp only[C.dv]
   split
   · rename_i k' hk; obtain⟨_,h1⟩:=h; exact⟨(hm k k' hk).1,by rw[(hm k k' hk).2]; exact h1⟩
   · trivial
 | ptr k off=>
   simp only[C.dv]
   split
   · rename_i k' hk; obtain⟨_,b,h1,h2⟩:=h; exact⟨(hm k k' hk).1,b,by rw[(hm k k' hk).2]; exact h1,h2⟩
   · trivial
 | el E x off=>exact h
 | bN ls off=>exact h
 | en k E i off=>
   simp only[C.dv]
   split
   · rename_i k' hk; obtain⟨_,b,o,n,c,h1,h2⟩:=h; exact⟨(hm k k' hk).1,b,o,n,c,by rw[(hm k k' hk).2]; exact h1,h2⟩
   · trivial
 | pre k n=>
   simp only[C.dv]
   split
   · rename_i k' hk; obtain⟨_,b,o,N,c,h1,h2⟩:=h; exact⟨(hm k k' hk).1,b,o,N,c,by rw[(hm k k' hk).2]; exact h1,h2⟩
   · trivial
 | fn f ka=>
   simp only[C.dv]
   split
   · rename_i hc;obtain⟨vs,h1,h2,h3⟩:=h;refine⟨vs,h1,h2,fun j c hj=> ?_⟩;have gh:=List.all_eq_true.1 hc c (List.mem_of_getElem? hj);have:=h3 j c hj;cases c with
     | ptr k off=>cases gh
     | el E x off=>exact this
     | bN ls off=>exact this
   · trivial
 | undef=>trivial
omit hm in
theorem EU:∀{cs:List C} {j:Nat} {c:C},(kW m cs)[j]? = some c→∃c0,cs[j]? = some c0∧c=c0.dv m
 | [],j,c,h=>by simp[kW] at h
 | c0::cs,0,c,h=>by simp[kW] at h; exact⟨c0,rfl,h.symm⟩
 | c0::cs,j+1,c,h=>by simp only[kW,List.getElem?_cons_succ] at h ⊢; exact EU h
omit hm in
theorem EV:∀{cs:List C},(kW m cs).length=cs.length
 | []=>rfl
 | c::cs=>by simp[kW,EV (cs:=cs)]
theorem cG.dv {cs:List C} {vs:Array Value} (h:cG H ρ D cs vs):cG H ρ' D' (kW m cs) vs:=by
 refine⟨by rw[EV]; exact h.1,fun j c hj=> ?_⟩;obtain⟨c0,h1,rfl⟩:=EU hj;exact(h.2 j c0 h1).dv hm
theorem RV.dv {c:V} {v:Value} (h:RV H ρ D c v):RV H ρ' D' (c.dv m) v:=by
 cases c with
 | c x=>exact RC.dv hm h
 | agg cs=>obtain⟨vs,h1,h2⟩:=h; exact⟨vs,h1,h2.dv hm⟩
 | ba cs=>
   cases cs with
   | nil=>obtain⟨vs,h1,h2,h3⟩:=h; exact⟨vs,h1,h2,fun j p hj=>by simp at hj⟩
   | cons p ps=>trivial
omit hm in
theorem EW {L:List Nat}:∀{vs:List V} {i j:Nat} {c:V},(om L m i vs)[j]? = some c→c = .c .undef∨∃c0,vs[j]? = some c0∧c=c0.dv m
 | [],i,j,c,h=>by simp[om] at h
 | v ::vs,i,0,c,h=>by
   simp only[om,List.getElem?_cons_zero,Option.some.injEq] at h
   split at h
   · exact .inr ⟨v,rfl,h.symm⟩
   · exact .inl h.symm
 | v::vs,i,j+1,c,h=>by simp only[om,List.getElem?_cons_succ] at h ⊢; exact EW h
omit hm in
theorem EX {L:List Nat}:∀{vs:List V} {i:Nat},(om L m i vs).length=vs.length
 | [],i=>rfl
 | v::vs,i=>by simp[om,EX (vs:=vs)]
end
theorem EY {ρ ρ':aF} {x:Nat}:∀{l:List (Nat × Nat)} {out:List (Nat × ak)},out.map (·.1)=l.map (·.2)→(∀p∈l,ρ' p.2=ρ p.1)→aP ρ' out x=bI ρ (l.map (·.1)) x
 | [],out,h,_=>by
   have:out = []:=by simpa using h
   subst this; rfl
 | p ::l,out,h,hp=>by
   cases out with
   | nil=>simp at h
   | cons q out=>
     simp only[List.map_cons,List.cons.injEq] at h;simp only[aP,List.map_cons,bI];rw[h.1,hp p List.mem_cons_self,EY h.2 fun q hq=>hp q (List.mem_cons_of_mem _ hq)]
theorem fa.dv {B:ak} {m:List (Nat × Nat)} {p:Value × (Nat→Nat)} {x:Nat} (h:fa (B.dv m) p x):fa B p x:=by
 cases B with
 | dead=>exact h
 | box cs=>exact h
 | own E xs l=>exact h
 | view E xs=>exact h
 | mp m=>exact h
 | bP E xs i fs=>exact h
theorem Lj {m:List (Nat × Nat)}:∀{fs:List (Option Nat)},mQ m fs=true→∀(i q j:Nat),(filled fs i q j=none∧filled (kX m fs) i q j=none)∨∃k k',filled fs i q j=some k∧filled (kX m fs) i q j=some k'∧lk m k=some k':=by
 have key :∀{fs:List (Option Nat)},mQ m fs=true→∀j:Nat,((∀k,fs[j]? ≠some (some k))∧∀k,(kX m fs)[j]? ≠some (some k))∨∃k k',fs[j]? = some (some k)∧(kX m fs)[j]? = some (some k')∧lk m k=some k':=by
   intro fs
   induction fs with
   | nil=>intro _ j; exact .inl ⟨by simp,by simp[kX]⟩
   | cons f fs ih=>
     intro h j;cases f with
     | none=>
       simp only[mQ] at h;cases j with
       | zero=>exact .inl ⟨by simp,by simp[kX]⟩
       | succ j=>simpa [kX] using ih h j
     | some k=>
       simp only[mQ] at h
       split at h
       · rename_i k' hk;cases j with
         | zero=>exact .inr ⟨k,k',by simp,by simp[kX,hk],hk⟩
         | succ j=>simpa [kX] using ih h j
       · cases h
 intro fs h i q j;unfold filled
 split
 · rcases key h j with⟨h1,h2⟩ | ⟨k,k',h1,h2,h3⟩
   · refine .inl ⟨?_, ?_⟩
     · split
       · rename_i k hk; exact(h1 k hk).elim
       · rfl
     · split
       · rename_i k hk; exact(h2 k hk).elim
       · rfl
   · exact .inr ⟨k,k',by rw[h1],by rw[h2],h3⟩
 · exact .inl ⟨rfl,rfl⟩
section
variable {Γ : Ctx} {σ aw : SS} {a : Act} {w : World}
theorem fl.mJ {h:Array Obj} {H0 H:Hp} {ρ:aF} {bl:List (Nat × ak)} {m:List (Nat × Nat)} {bs:List (Nat × ak)} (hb:mR bl m m=some bs) (h1:dL (m.map (·.1))=true) (h2:dL (m.map (·.2))=true)
   (r:fl h H0 H ρ bl):fl h H0 H (fun k=>ρ (inv m k)) bs∧(∀k k',lk m k=some k'→av bs k'∧(ρ (inv m k')).1=(ρ k).1)∧∀k k',(k,k')∈m→av bs k'∧ρ (inv m k')=ρ k:=by
 obtain⟨g1,g2,g3⟩:=ET hb
 let ρ':aF:=fun k=>ρ (inv m k)
 have iw:∀k k',(k,k')∈m→ρ' k'=ρ k:=fun k k' hk=>by simp only[ρ',Lh h2 hk]
 have jz:∀k k',(k,k')∈m→av bs k':=fun k k' hk=>by
   unfold av; rw[g1]; exact List.mem_map.2 ⟨_,hk,rfl⟩
 have hm:∀k k',lk m k=some k'→av bs k'∧(ρ' k').1=(ρ k).1:=fun k k' hk=>⟨jz k k' (ES hk),by rw[iw k k' (ES hk)]⟩
 have hq:∀k' B',(k',B')∈bs→∃k B,(k,B)∈bl∧ρ' k'=ρ k∧B'=B.dv m∧(B.wZ m=true→False):=fun k' B' hk=>by
   obtain⟨k,B,f1,f2,f3,f4⟩:=g2 _ hk;exact⟨k,B,cK f2,iw k k' f1,f3,f4⟩
 refine⟨⟨?_,by rw[g1]; exact Li h2,r.h0,r.hh, ?_, ?_, ?_, ?_⟩,hm,fun k k' hk=>⟨jz k k' hk,iw k k' hk⟩⟩
 · intro k hk;obtain⟨⟨k',B'⟩,f1,rfl⟩:=List.mem_map.1 hk;obtain⟨k,B,f2,f3,_⟩:=hq _ _ f1;have f3:ρ (inv m k')=ρ k:=f3;simp only;rw[f3]; exact r.oc k (o_ f2)
 · intro k' B' hk;obtain⟨k,B,f2,f3,rfl,f4⟩:=hq _ _ hk;have f3:ρ (inv m k')=ρ k:=f3;rw[f3];have:=r.af k B f2;cases B with
   | dead=>exact this
   | box cs=>obtain⟨b,vs,e,fz,e1,e2,e3,e4,e5⟩:=this; exact⟨b,vs,e,fz,e1,e2,e3,e4,e5.dv hm⟩
   | own E xs l=>exact this
   | view E xs=>exact this
   | mp m=>exact this
   | bP E xs i fs=>
     have fk:mQ m fs=true:=by
       cases ha:mQ m fs with
       | true=>rfl
       | false=>exact(f4 (by simp[ak.wZ,ha])).elim
     obtain⟨b,o,c,cs,e,fz,S,e1,e2,e3,e4,e5,e6,e7,e8,e9⟩:=this;refine⟨b,o,c,cs,e,fz,S,e1,e2,e3,e4,e5,e6,e7,e8,fun q x hx j l hj=> ?_⟩;have xi:=e9 q x hx j l hj;rcases Lj fk (i ()) q j with⟨f5,f6⟩ | ⟨k,k',f5,f6,f7⟩
     · rw[f5] at xi;rw[f6];exact xi
     · rw[f5] at xi;rw[f6];obtain⟨Ra,Lk,Ll⟩:=xi;exact⟨(hm k k' f7).1,by rw[(hm k k' f7).2]; exact Lk,Ll⟩
 · intro x;rw[EY (ρ:=ρ) (ρ':=ρ') g1 fun p hp=>iw p.1 p.2 hp]
   exact Nat.le_trans (kL _ h1 (fun k hk=>by
     obtain⟨p,hp,rfl⟩:=List.mem_map.1 hk;obtain⟨B,hB⟩:=g3 p hp;exact eH hB) x) (r.sum x)
 · intro k' B' hk x hx;obtain⟨k,B,f2,f3,_⟩:=hq _ _ hk;have f3:ρ (inv m k')=ρ k:=f3;rw[f3] at hx;exact r.fresh k B f2 x hx
 · intro k' B' hk x hx;obtain⟨k,B,f2,f3,rfl,_⟩:=hq _ _ hk;have f3:ρ (inv m k')=ρ k:=f3;rw[f3] at hx;exact r.gn k B f2 x hx.dv
theorem Rel.mJ (bC:Γ.hd = []) {L:List Nat} {m:List (Nat × Nat)} {bs:List (Nat × ak)} (hb:mR σ.af m m=some bs) (h1:dL (m.map (·.1))=true) (h2:dL (m.map (·.2))=true)
   (fP:∀p∈Γ.hm,lk m p.1=some p.1) (r:Rel Γ σ a w):Rel Γ {env:=om L m 0 σ.env,af:=bs} a w:=by
 obtain⟨H,ρ,r⟩:=r;obtain⟨rb,hm,_⟩:=r.b.mJ hb h1 h2;refine⟨H,_,⟨rb,⟨by rw[EX]; exact r.e.size,fun j c hj=> ?_⟩,r.d,r.n,(by rw[bC]; intro p hp; cases hp),fun p hp=> ?_⟩⟩
 · rcases EW hj with rfl | ⟨c0,f1,rfl⟩
   · trivial
   · exact(r.e.get j c0 f1).dv hm
 · obtain⟨f1,f2⟩:=hm _ _ (fP p hp);exact⟨f1,by rw[f2]; exact(r.hm p hp).2⟩
theorem Rel.kY (bC:Γ.hd = []) {k:Nat} (r:Rel Γ σ a w):Rel Γ {σ with af:=Go.Proofs.YtpklefhdkkegiaaGreat.kY σ.af k} a w:=by
 unfold Go.Proofs.YtpklefhdkkegiaaGreat.kY
 split
 · split
   · rename_i bX hc;obtain⟨H,ρ,r⟩:=r;obtain⟨ρ',r',_⟩:=aG.close bC r hc;exact⟨H,ρ',r'⟩
   · exact r
 · exact r
theorem Rel.closeAll (bC:Γ.hd = []):∀{ks:List Nat} {σ:SS},Rel Γ σ a w→Rel Γ {σ with af:=Go.Proofs.YtpklefhdkkegiaaGreat.closeAll ks σ.af} a w
 | [],_,r=>r
 | _::ks,_,r=>Rel.closeAll bC (ks:=ks) (r.kY bC)
theorem Rel.mT (bC:Γ.hd = []) {m:List (Nat × Nat)}:∀{ks:List Nat} {σ:SS},Rel Γ σ a w→Rel Γ {σ with af:=Go.Proofs.YtpklefhdkkegiaaGreat.mT m ks σ.af} a w
 | [],_,r=>r
 | k ::ks,σ,r=>by
   unfold Go.Proofs.YtpklefhdkkegiaaGreat.mT
   split
   · exact Rel.mT bC (ks:=ks) r
   · exact Rel.mT bC (ks:=ks) (r.kY bC)
theorem EZ {m:List (Nat × Nat)}:∀{ks:List Nat},w5 m ks=true→∀k∈ks,lk m k=some k
 | [],_,k,hk=>by cases hk
 | j ::ks,h,k,hk=>by
   simp only[w5,Bool.and_eq_true] at h;cases hk with
   | head=>
     have h1:=h.1
     split at h1
     · rename_i k' bw; rw[bw]; simpa using h1
     · cases h1
   | tail _ hk=>exact EZ h.2 k hk
theorem Rel.sm {mt:pC} (h:σ.sm mt=some aw) (r:Rel Γ σ a w):Rel Γ aw a w:=by
 obtain⟨H,ρ,r⟩:=r
 have nw:∀(k:Nat) (E:an),aL σ.af k=none→∃ρ',aG Γ H ρ' (σ.new k (.own E (fun _=>[]) false)) a w∧(ρ' k).1 = .slice none 0 0:=fun k E hk=>
   ⟨cH ρ k (.slice none 0 0,fun _=>0),r.qG (p:=(.slice none 0 0,fun _=>0)) hk (fun _ _ _=>rfl) (fun _ _=>rfl) (Ext.refl _) rfl (fun x hx=>by simp at hx) (fun x=>by simp) (bc.nil rfl) (by simp),by rw[db]⟩
 cases mt with
 | env s E k=>
   simp only[SS.sm] at h
   split at h
   · rename_i v hv hk
     split at h
     · rename_i hn;cases h;obtain⟨ρ',r1,h1⟩:=nw k E hk
       have Lm:v = .c .nil:=by
         unfold Er at hn
         split at hn
         · rfl
         · cases hn
       subst Lm;refine⟨H,ρ',r1.b,⟨by simpa [SS.new] using r1.e.size,fun j c hj=> ?_⟩,r1.d,r1.n,r1.hd,r1.hm⟩;rw[List.getElem?_set] at hj
       split at hj
       · rename_i hs
         split at hj
         · cases hj;have:=r.e.get s _ hv;simp only[RV,RC] at this;subst hs;exact⟨fb.2 (.inl rfl),by rw[this,h1]⟩
         · cases hj
       · exact r1.e.get j c hj
     · cases h
   · cases h
 | box bk c E k=>
   simp only[SS.sm] at h
   split at h
   · rename_i cs lW hk
     split at h
     · rename_i x hx
       split at h
       · rename_i hn;cases h;obtain⟨ρ',r1,h1⟩:=nw k E hk
         have qF:x = .nil:=by
           unfold Es at hn
           split at hn
           · rfl
           · cases hn
         subst qF;have hg:aL (cU σ.af k (.own E (fun _=>[]) false)) bk=some (.box cs):=Lg r1.b.nd (tE.2 (.inr (cK lW)));obtain⟨b,vs,e,fz,f1,f2,f3,f4,f5⟩:=r1.b.af bk _ (cK hg);have f6:=f5.2 c _ hx;simp only[RC] at f6;refine⟨H,ρ',r1.rV (w':=w) hg (fun _ _=>rfl) (Ext.refl _) ⟨b,vs,e,fz,f1,f2,f3,f4,by simpa using f5.1,fun j y hj=> ?_⟩ (fun _ h=>h) (fun _ h=>h)⟩;rw[List.getElem?_set] at hj
         split at hj
         · rename_i Ln
           split at hj
           · cases hj;subst Ln;exact⟨fb.2 (.inl rfl),by rw[f6,h1]⟩
           · cases hj
         · exact f5.2 j y hj
       · cases h
     · cases h
   · cases h
theorem Rel.oh:∀{ms:List pC} {σ aw:SS},σ.oh ms=some aw→Rel Γ σ a w→Rel Γ aw a w
 | [],σ,aw,h,r=>by simp only[SS.oh,Option.some.injEq] at h; subst h; exact r
 | m ::ms,σ,aw,h,r=>by
   simp only[SS.oh] at h
   split at h
   · rename_i cA h1; exact Rel.oh h (r.sm h1)
   · cases h
theorem Rel.norm (bC:Γ.hd = []) {pk:List Nat} (fP:∀p∈Γ.hm,p.1∈pk) {N:Norm} (h:σ.norm pk N=some aw) (r:Rel Γ σ a w):Rel Γ aw a w:=by
 unfold SS.norm at h
 split at h
 · rename_i cA h1
   split at h
   · rename_i bs hb
     split at h
     · rename_i hn;cases h;exact Rel.mJ (σ:={cA with af:=Go.Proofs.YtpklefhdkkegiaaGreat.mT N.nm (cA.af.map (·.1)) cA.af}) bC hb hn.1 hn.2.1 (fun p hp=>EZ hn.2.2 _ (fP p hp)) ((r.oh h1).mT bC)
     · cases h
   · cases h
 · cases h
end
theorem Lo {P:Program} {c:Code} {Q:Exit→Act→World→Prop} (I:Nat→Act→World→Prop)
  (round:∀n a w,I n a w→c.wp P (Exit.then (fun a' w'=>∃m,m<n∧I m a' w') Q) a w) {n:Nat} {a:Act} {w:World} (Lp:I n a w):(Code.loop c).wp P Q a w:=by
 intro b k cs
 have key:∀n a w,I n a w→∃e a' w',Q e a' w'∧Arrives P (lone (b.at a (.code c:: .inLoop c::k)) cs w) b k cs e a' w':=by
  intro n
  induction n using Nat.strongRecOn with
  | _ n ih=>
    intro a w hI;obtain⟨e,sw,sx,hq,pH⟩:=round n a w hI b (.inLoop c::k) cs;cases e with
    | normal=>
      obtain⟨m,aR,Lq⟩:=hq;obtain⟨Lr,Ls,Lt,Lu,Lv⟩:=ih m aR sw sx Lq;exact⟨Lr,Ls,Lt,Lu, .of_steps (Steps.trans pH (.one step_inLoop)) Lv⟩
    | exit id=>exact⟨_,sw,sx,hq, .pass (x:= .inLoop c) rfl (fun _ _=> .inl (by simp)) pH⟩
    | goto l=>exact⟨_,sw,sx,hq, .pass (x:= .inLoop c) rfl (fun _ _=> .inl (by simp)) pH⟩
    | ret=>exact⟨_,sw,sx,hq, .pass (x:= .inLoop c) rfl (fun _ _=> .inl (by simp)) pH⟩
    | panic ch=>exact⟨_,sw,sx,hq, .pass (x:= .inLoop c) rfl (fun _ _=> .inl (by simp)) pH⟩
    | outgrown=>exact⟨_,sw,sx,hq, .pass (x:= .inLoop c) rfl (fun _ _=> .inl (by simp)) pH⟩
 obtain⟨e,a',w',hq,pH⟩:=key n a w Lp;exact⟨e,a',w',hq, .of_steps (.one step_loop) pH⟩
theorem cD.top {h:Array Obj} {H:Hp} {ρ:aF} {D:Nat→Prop} {B:ak} {p:Value × (Nat→Nat)} {x:Nat} (hB:cD h H ρ D B p) (ht:fa B p x):0<p.2 x:=by
 cases B with
 | own E xs l=>
   cases l with
   | false=>exact ht
   | true=>
     obtain⟨o,n,c,e⟩:=ht;obtain⟨v,S⟩:=p;simp only at e;subst e;have ho:bc h (.list E xs) (.slice (some ⟨x,o,none⟩) n c) S:=hB;generalize hl:Lf.list E xs=l at ho;generalize hv:Value.slice (some ⟨x,o,none⟩) n c=v at ho;cases ho with
     | list S hb=>cases hv; exact iM _ _ _ _
     | nil h0=>cases hv
     | int hr=>cases hl
     | bool=>cases hl
     | str hm=>cases hl
 | box cs=>exact ht
 | bP E xs i fs=>exact ht
 | mp m=>exact ht
 | dead=>exact ht.elim
 | view E xs=>exact ht.elim
section
variable {Γ : Ctx} {H : Hp} {a : Act} {w : World}
theorem aG.Lw (bC:Γ.hd = []) {ρ:aF} {σ:SS} (r:aG Γ H ρ σ a w) {k:Nat} {E:an} {xs:Unit→List E.α} (hk:aL σ.af k=some (.own E xs false)):∃H' ρ',aG Γ H' ρ' {σ with af:=bK σ.af k (.view E xs)} a w:=by
 have hm:=cK hk;have ho:bc w.heap (.list E xs) (ρ k).1 (ρ k).2:=r.b.af k _ hm;have hd:av (bK σ.af k (.view E xs))=av σ.af:=z5
 let H':Hp:=fun b=>if 0<(ρ k).2 b then w.heap[b]? else H b
 have E0:∀b o,H b=some o→H' b=some o:=fun b o hb=>by
   show(if 0<(ρ k).2 b then w.heap[b]? else H b)=some o
   split
   · exact r.b.hh b o hb
   · exact hb
 have hv:∀j,(cH ρ k ((ρ k).1,fun _=>0) j).1=(ρ j).1:=fun j=>by
   by_cases e:j=k
   · subst e; rw[db]
   · rw[cL e]
 have g:iN H H' ρ (cH ρ k ((ρ k).1,fun _=>0)) (av σ.af) (av σ.af):=⟨E0,fun j hj=>⟨hj,hv j⟩⟩
 refine⟨H',cH ρ k ((ρ k).1,fun _=>0),⟨⟨fun j hj=>by rw[hv]; exact r.b.oc j (hd▸hj),by rw[qz]; exact r.b.nd,fun b o hb=>E0 b o (r.b.h0 b o hb),fun b o hb=> ?_,fun j B hj=> ?_,fun x=> ?_,fun j B hj x hx=> ?_,fun j B hj x hx=> ?_⟩,
   ?_,r.d,r.n,fun p hp=>(by rw[bC] at hp; cases hp),fun p hp=> ?_⟩⟩
 · have hb:(if 0<(ρ k).2 b then w.heap[b]? else H b)=some o:=hb
   split at hb
   · exact hb
   · exact r.b.hh b o hb
 · show cD w.heap H' (cH ρ k ((ρ k).1,fun _=>0)) (av (bK σ.af k (.view E xs))) B (cH ρ k ((ρ k).1,fun _=>0) j);rw[hd];rcases jd r.b.nd hj with⟨rfl,rfl⟩ | ⟨hne,h⟩
   · rw[db];exact⟨ho.rl fun b h0=>by show(if 0<(ρ j).2 b then w.heap[b]? else H b)=_; rw[if_pos h0],rfl⟩
   · rw[cL hne];exact(r.b.af j B h).mono g fun _ _=>rfl
 · have h1:=qA (ρ:=ρ) (ρ':=cH ρ k ((ρ k).1,fun _=>0)) r.b.nd (B:= .view E xs) (eH hk) (fun j hj=>cL hj) x;rw[db] at h1;have h2:=r.b.sum x;show aP (cH ρ k ((ρ k).1,fun _=>0)) (bK σ.af k (.view E xs)) x≤1;simp only[Nat.add_zero] at h1;omega
 · rcases jd r.b.nd hj with⟨rfl,rfl⟩ | ⟨hne,h⟩
   · rw[db] at hx; simp at hx
   · rw[cL hne] at hx; exact r.b.fresh j B h x hx
 · rcases jd r.b.nd hj with⟨rfl,rfl⟩ | ⟨hne,h⟩
   · exact hx.elim
   · rw[cL hne] at hx;have h1:=(r.b.af j B h).top hx;have h2:=qL (ρ:=ρ) (eH hk) (o_ h) hne x;have h3:=r.b.sum x;show(if 0<(ρ k).2 x then w.heap[x]? else H x)=none;rw[if_neg (by omega)];exact r.b.gn j B h x hx
 · show mq H' (cH ρ k ((ρ k).1,fun _=>0)) (av (bK σ.af k (.view E xs))) σ.env a.tmps;rw[hd]; exact r.e.grow g
 · have:=r.hm p hp;exact⟨by show av (bK σ.af k (.view E xs)) p.1; rw[hd]; exact this.1,by rw[hv]; exact this.2⟩
theorem Rel.l3 (bC:Γ.hd = []) {E:an}:∀(ks:List Nat) {σ:SS},Rel Γ σ a w→Rel Γ {σ with af:=Go.Proofs.YtpklefhdkkegiaaGreat.l3 E ks σ.af} a w
 | [],_,r=>r
 | k ::ks,σ,r=>by
   simp only[Go.Proofs.YtpklefhdkkegiaaGreat.l3]
   split
   · rename_i E' xs hk
     split
     · obtain⟨H,ρ,r⟩:=r;exact Rel.l3 bC ks (r.Lw bC hk)
     · exact Rel.l3 bC ks r
   · exact Rel.l3 bC ks r
theorem Rel.ou (bC:Γ.hd = []) {n id:Nat}:∀(l:List (Nat × Nat × an)) {σ:SS},Rel Γ σ a w→Rel Γ {σ with af:=Go.Proofs.YtpklefhdkkegiaaGreat.ou l n id σ.af} a w
 | [],_,r=>r
 | p ::l,σ,r=>by
   simp only[Go.Proofs.YtpklefhdkkegiaaGreat.ou]
   split
   · exact Rel.ou bC l (Rel.l3 bC (E:=p.2.2) (σ.af.map (·.1)) r)
   · exact Rel.ou bC l r
theorem Rel.qY (bC:Γ.hd = []) {tab:aX} {id:Nat} {σ:SS} (r:Rel Γ σ a w):Rel Γ (σ.qY tab id) a w:=by
 unfold SS.qY
 split
 · exact r
 · exact Rel.ou bC _ r
end
theorem xj {P:Program} {tab:aX} {fr:Bool} (hT:eC P tab=true) {Γ:Ctx} (bC:Γ.hd = []) {pk:List Nat} (fP:∀p∈Γ.hm,p.1∈pk):∀(c:Code),(fr=true→fG c=true)→∀{σ:SS} {a:Act} {w:World} {K:Exit→SS→Prop} {Q:Exit→Act→World→Prop},k8 P tab fr pk c σ K→Rel Γ σ a w→
   (∀e aw a' w',K e aw→Rel Γ aw a' w'→Q e a' w')→c.wp P Q a w:=by
 intro c
 induction c with
 | skip=>intro d_ σ a w K Q h r hQ; exact wp_skip (hQ _ _ _ _ h r)
 | region id ops draw=>
   intro d_ σ a w K Q h r0 hQ;obtain⟨σ,h,r0⟩:=K3 h bC fP r0;have r:=r0.qY bC (tab:=tab) (id:=id);cases draw with
   | false=>exact wp_region_list (uG hT bC _ h r fun aw a' w' h' r'=>hQ _ _ _ _ h' r')
   | true=>
     cases fr with
     | true=>exact Ld hT bC (by simpa [fG] using d_ rfl) h r fun aw a' w' h' r'=>hQ _ _ _ _ h' r'
     | false=>exact K7 hT bC h r fun aw a' w' h' r'=>hQ _ _ _ _ h' r'
 | seq x y xk xl=>
   intro d_ σ a w K Q h r hQ;have h2:fr=true→fG x=true∧fG y=true:=fun h=>by have:=d_ h; simpa [fG] using this
   refine wp_seq (xk (fun h=>(h2 h).1) h r fun e aw a' w' h' r'=> ?_);cases e with
   | normal=>exact xl (fun h=>(h2 h).2) h' r' hQ
   | exit id=>exact hQ _ _ _ _ h' r'
   | goto l=>exact hQ _ _ _ _ h' r'
   | ret=>exact hQ _ _ _ _ h' r'
   | panic ch=>exact hQ _ _ _ _ h' r'
   | outgrown=>exact hQ _ _ _ _ h' r'
 | cond c x y xk xl=>
   intro d_ σ a w K Q h r hQ;have h2:fr=true→fG x=true∧fG y=true:=fun h=>by have:=d_ h; simpa [fG] using this
   simp only[k8] at h;have hc:RV _ _ _ (σ.ev c) (a.eval c):=iu r.choose_spec.choose_spec.e c
   split at h
   · rename_i hv;rw[hv] at hc;exact wp_cond (t:=true) hc (xk (fun h=>(h2 h).1) h r hQ)
   · rename_i hv;rw[hv] at hc;exact wp_cond (t:=false) hc (xl (fun h=>(h2 h).2) h r hQ)
   · rename_i t hv;rw[hv] at hc;have hR:=RL.of_bool hc;obtain⟨h⟩:=h;refine wp_cond hR ?_;cases ht:t () with
     | true=>rw[ht] at h; exact xk (fun h=>(h2 h).1) h r hQ
     | false=>rw[ht] at h; exact xl (fun h=>(h2 h).2) h r hQ
   · cases h
 | block id x ih=>
   intro d_ σ a w K Q h r hQ;refine wp_block (ih (fun h=>by have:=d_ h; simpa [fG] using this) h r fun e aw a' w' h' r'=> ?_);cases e with
   | exit i=>
     simp only[Exit.inBlock];simp only at h'
     split at h'
     · rename_i hi; rw[if_pos hi]; exact hQ _ _ _ _ h' r'
     · rename_i hi; rw[if_neg hi]; exact hQ _ _ _ _ h' r'
   | normal=>exact hQ _ _ _ _ h' r'
   | goto l=>exact hQ _ _ _ _ h' r'
   | ret=>exact hQ _ _ _ _ h' r'
   | panic ch=>exact hQ _ _ _ _ h' r'
   | outgrown=>exact hQ _ _ _ _ h' r'
 | loop x ih=>
   intro d_ σ a w K Q h r hQ;obtain⟨X,st,φ,m,x0,h0,hs,hr⟩:=h;refine Lo (fun n a w=>∃x,φ x∧m x ()=n∧Rel Γ (st x) a w) (fun n a w ⟨x,hx,hm,r⟩=> ?_) (n:=m x0 ()) ⟨x0,h0,rfl,hs Γ a w bC fP r⟩;refine ih (fun h=>by have:=d_ h; simpa [fG] using this) (hr x hx) r fun e aw a' w' h' r'=> ?_;cases e with
   | normal=>
     obtain⟨x',tP,qF,Lx⟩:=h';exact⟨m x' (),by rw[←hm]; exact tP,x',qF,rfl,Lx Γ a' w' bC fP r'⟩
   | exit id=>exact hQ _ _ _ _ h' r'
   | goto l=>exact hQ _ _ _ _ h' r'
   | ret=>exact hQ _ _ _ _ h' r'
   | panic ch=>exact hQ _ _ _ _ h' r'
   | outgrown=>exact hQ _ _ _ _ h' r'
 | exit id=>intro d_ σ a w K Q h r hQ; exact wp_exit (hQ _ _ _ _ h r)
 | ret=>intro d_ σ a w K Q h r hQ; exact wp_ret (hQ _ _ _ _ h r)
 | _=>intro d_ σ a w K Q h r hQ; exact h.elim
def deep:(E:an)→E.α→Prop
 | .cw,x=>x.length≤cm
 | .ah,x=>x.row.length≤cm∧x.spoke.length≤cm∧∀s∈x.spoke,s.length≤cm
 | .rep,x=>x.ids.length≤cm
 | .str,x=>x.length≤cm
 | _,_=>True
def E2:Lf→Prop
 | .list E t=>(t ()).length≤cm∧∀x∈t (),deep E x
 | .str t=>(t ()).length≤cm
 | .int .i64 t=> -9223372036854775808≤t ()∧t ()≤9223372036854775807
 | _=>True
def Az:C→Prop
 | .lf l=>E2 l
 | _=>True
def xm:List C→Prop
 | []=>True
 | c::cs=>Az c∧xm cs
def jK:List V→Prop
 | []=>True
 | .c x::vs=>Az x∧jK vs
 | .agg cs::vs=>xm cs∧jK vs
 | .ba _::vs=>jK vs
theorem RL.len {H:Hp} {E:an} {t:Unit→List E.α} {v:Value} (h:RL H (.list E t) v):(t ()).length≤cm:=by
 cases h with
 | nil h=>rw[h]; simp[cm]
 | list hb hl hm ho hc=>exact hm
theorem RL.elem {H:Hp} {E:an} {t:Unit→List E.α} {v:Value} (h:RL H (.list E t) v):∀x∈t (),∃f:Nat→Value,∀j l,(bH E fun _=>x)[j]? = some l→RL H l (f j):=by
 cases h with
 | nil h=>intro x hx; rw[h] at hx; cases hx
 | list hb hl hm ho hc=>
   intro x hx;obtain⟨i,hi,rfl⟩:=List.getElem_of_mem hx;exact⟨fun j=>_,fun j l hj=>hc i _ (List.getElem?_eq_getElem hi) j l hj⟩
theorem RL.deep {H:Hp} {E:an} {x:E.α} {f:Nat→Value} (h:∀j l,(bH E fun _=>x)[j]? = some l→RL H l (f j)):Go.Proofs.YtpklefhdkkegiaaGreat.deep E x:=by
 cases E with
 | cw=>exact(h 0 _ rfl).len
 | ah=>
   have h6:=h 6 _ rfl;refine⟨(h 5 _ rfl).len,h6.len,fun s hs=> ?_⟩;obtain⟨g,hg⟩:=h6.elem s hs;exact(hg 0 _ rfl).len
 | rep=>exact(h 1 _ rfl).len
 | str=>exact(RL.kd (h 0 _ rfl)).2
 | _=>trivial
theorem RL.ok {H:Hp} {l:Lf} {v:Value} (h:RL H l v):E2 l:=by
 cases l with
 | int k t=>
   have h2:=(RL.of_int h).2;cases k <;> first | exact qC.1 h2 | trivial
 | bool t=>trivial
 | str t=>exact(RL.kd h).2
 | list E t=>exact⟨h.len,fun x hx=>by obtain⟨f,hf⟩:=h.elem x hx; exact RL.deep hf⟩
theorem RC.ok {H:Hp} {ρ:aF} {D:Nat→Prop} {c:C} {v:Value} (h:RC H ρ D c v):Az c:=by
 cases c with
 | lf l=>exact RL.ok h
 | _=>trivial
theorem cG.ok {H:Hp} {ρ:aF} {D:Nat→Prop} {f:Nat→Value}:∀{cs:List C},(∀(j:Nat) c,cs[j]? = some c→RC H ρ D c (f j))→xm cs:=by
 intro cs
 induction cs generalizing f with
 | nil=>intro _; trivial
 | cons c cs ih=>intro h; exact⟨(h 0 c rfl).ok,ih (f:=fun j=>f (j+1)) fun j c hj=>h (j+1) c (by simpa using hj)⟩
theorem xn {H:Hp} {ρ:aF} {D:Nat→Prop} {f:Nat→Value}:∀{as:List V},(∀(j:Nat) c,as[j]? = some c→RV H ρ D c (f j))→jK as:=by
 intro as
 induction as generalizing f with
 | nil=>intro _; trivial
 | cons c cs ih=>
   intro h;have h1:=ih (f:=fun j=>f (j+1)) fun j c hj=>h (j+1) c (by simpa using hj);cases c with
   | c x=>exact⟨RC.ok (h 0 _ rfl),h1⟩
   | agg l=>obtain⟨vs,_,h2⟩:=h 0 _ rfl; exact⟨cG.ok (f:=fun j=>vs.getD j Go.undef) h2.2,h1⟩
   | ba l=>exact h1
def start (as:List V) (n:Nat):SS:={env:=as++List.replicate (n - as.length) (.c .undef),af:=[]}
def SS.shut (σ:SS):SS:={σ with af:=closeAll (σ.af.map (·.1)) σ.af}
def E3 (P:Program) (tab:aX) (fr:Bool) (fn:Func) (c:Code) (as:List V) (post:V→List ak→Prop):Prop:=
 k8 P tab fr [] c (start as fn.ntmps) fun e σ=>match e with
  | .normal=>fin tab fn.results.toList post σ.shut
  | .ret=>fin tab fn.results.toList post σ.shut
  | _=>False
theorem Ly {P : Program} {tab : aX} (hT : eC P tab = true) {f : FuncId} {fn : Func} {c : Code} (hf : P.funcs[f]? = some fn) (hb : fn.body = some c) (eM : (fn.name == "runtime.NumGoroutine") = false)
  {fr:Bool} (d_:fr=true→fG c=true) {as:List V} {post:V→List ak→Prop} (h:jK as→E3 P tab fr fn c as post):Spec P f as post:=by
 refine⟨⟨fn,hf,eM,by rw[hb]; rfl⟩,fun w vs du=> ?_⟩;refine calls_of_wp hf hb ?_
 let Γ:Ctx:=⟨fun b=>w.heap[b]?,[],w,[]⟩
 have r:Rel Γ (start as fn.ntmps) {tmps:=vs++Array.replicate (fn.ntmps - vs.size) Go.undef,defers:=[]} w:=by
  refine⟨fun b=>w.heap[b]?,fun _=>default,⟨⟨fun k hk=>by simp[av,start] at hk,by simp[start],fun _ _ h=>h,fun _ _ h=>h,fun k B hk=>by simp[start] at hk,fun x=>by simp[start,aP],
    fun k B hk=>by simp[start] at hk,fun k B hk=>by simp[start] at hk⟩,⟨by simp[start,du.1],fun j c hj=> ?_⟩,rfl,Ext.refl _,(fun p hp=>by cases hp),fun p hp=>by cases hp⟩⟩
  have e:av (start as fn.ntmps).af=fun _=>False:=by funext k; simp[av,start]
  rw[e];simp only[start] at hj;rcases Nat.lt_or_ge j as.length with aR | ku
  · rw[List.getElem?_append_left aR] at hj;have:=du.2 j c hj;rw[Array.getD_eq_getD_getElem?,Array.getElem?_append_left (by rw[du.1]; exact aR),←Array.getD_eq_getD_getElem?];exact this
  · rw[List.getElem?_append_right ku,List.getElem?_replicate] at hj
    split at hj
    · cases hj; trivial
    · cases hj
 refine xj hT rfl (fun p hp=>by cases hp) c d_ (h (xn du.2)) r fun e aw a' w' h' r'=> ?_
 have done:fin tab fn.results.toList post aw.shut→∃v,(results fn a'.tmps).run P w' = .ok v w'∧∃v' rv nb H' ρ',Ending.returned v = .returned v'∧post rv nb∧nb.all ownB=true∧fl w'.heap (fun b=>w.heap[b]?) H' ρ' (num 0 nb)∧
    RV eP ρ' (av (num 0 nb)) rv v'∧Ext w w':=fun hf=>by
  have r':Rel Γ aw.shut a' w':=r'.closeAll rfl;obtain⟨H,ρ,r'⟩:=r';obtain⟨v,h1,rv,nb,H',ρ',h2,h3,h4,h5⟩:=Jy hT r' (fn:=fn) hf;exact⟨v,h1,v,rv,nb,H',ρ',rfl,h2,h3,h4,h5,r'.n⟩
 have l7:a'.defers = []:=by obtain⟨H,ρ,r'⟩:=r'; exact r'.d
 cases e with
 | normal=>obtain⟨v,h1,h2⟩:=done h'; exact⟨l7,v,h1,h2⟩
 | ret=>obtain⟨v,h1,h2⟩:=done h'; exact⟨l7,v,h1,h2⟩
 | exit id=>cases h'
 | goto l=>cases h'
 | panic ch=>cases h'
 | outgrown=>cases h'
inductive Sh where
 | int (k:IntKind) (x:Unit→Int)
 | bool (x:Unit→Bool)
 | str (x:Unit→List UInt8)
 | own (E:an) (x:Unit→List E.α)
 | any
inductive cN where
 | c (s:Sh)
 | agg (ss:List Sh)
 | ba (ps:List (Bool × List Sh))
def Sh.nb:Sh→Nat
 | .own _ _=>1
 | _=>0
def Sh.cell (k:Nat):Sh→C
 | .int i x=> .lf (.int i x)
 | .bool x=> .lf (.bool x)
 | .str x=> .lf (.str x)
 | .own _ _=> .own k
 | .any=> .undef
def fS:Nat→List Sh→List C
 | _,[]=>[]
 | k,s::ss=>s.cell k::fS (k+s.nb) ss
def fq:List Sh→Nat
 | []=>0
 | s::ss=>s.nb+fq ss
def ra:Nat→List (Bool × List Sh)→List (Bool × List C)
 | _,[]=>[]
 | k,p::ps=>(p.1,fS k p.2)::ra (k+fq p.2) ps
def Sh.af:Sh→List ak
 | .own E x=>[.own E x false]
 | _=>[]
def ed:List Sh→List ak
 | []=>[]
 | s::ss=>s.af++ed ss
def re:List (Bool × List Sh)→List Sh
 | []=>[]
 | p::ps=>p.2++re ps
def cN.v:cN→V
 | .c s=> .c (s.cell 0)
 | .agg ss=> .agg (fS 0 ss)
 | .ba ps=> .ba (ra 0 ps)
def cN.bs:cN→List ak
 | .c s=>s.af
 | .agg ss=>ed ss
 | .ba ps=>ed (re ps)
def pI:(E E':an)→(Unit→List E.α)→(Unit→List E'.α)→Prop
 | .int, .int,x,t=>t ()=x ()
 | .byte, .byte,x,t=>t ()=x ()
 | .str, .str,x,t=>t ()=x ()
 | .aI, .aI,x,t=>t ()=x ()
 | .aH, .aH,x,t=>t ()=x ()
 | .aB, .aB,x,t=>t ()=x ()
 | .cw, .cw,x,t=>t ()=x ()
 | .ah, .ah,x,t=>t ()=x ()
 | .fC, .fC,x,t=>t ()=x ()
 | .rep, .rep,x,t=>t ()=x ()
 | _,_,_,_=>False
theorem AA {E E':an} {x:Unit→List E.α} {t:Unit→List E'.α} {l:Bool} (h:pI E E' x t):ak.own E' t l=ak.own E x l:=by
 cases E <;> cases E' <;> first
  | (simp only[pI] at h; have h':t=x:=funext fun _=>h; subst h'; rfl)
  | (simp only[pI] at h)
inductive iU (p:Unit→Prop) (q:Prop):Prop where
 | mk (h:p ()) (hq:q)
def mS (s:Sh) (c:C) (k:Nat) (bs:List ak) (K:Nat→List ak→Prop):Prop:=
 match s,c with
 | .int k' x, .lf (.int i t)=>if i=k' then iU (fun _=>t ()=x ()) (K k bs) else False
 | .bool x, .lf (.bool t)=>iU (fun _=>t ()=x ()) (K k bs)
 | .bool x, .bl b=>iU (fun _=>b=x ()) (K k bs)
 | .str x, .lf (.str t)=>iU (fun _=>t ()=x ()) (K k bs)
 | .own _ x, .nil=>iU (fun _=>x () = []) (K k bs)
 | .own E x, .own j=>if j=k then(match bs with | .own E' t false::bs=>iU (fun _=>pI E E' x t) (K (k+1) bs) | _=>False) else False
 | .any,_=>K k bs
 | _,_=>False
def mL:List Sh→List C→Nat→List ak→Prop
 | [],[],_,[]=>True
 | s::ss,c::cs,k,bs=>mS s c k bs fun k bs=>mL ss cs k bs
 | _,_,_,_=>False
def sy:List (Bool × List Sh)→List (Bool × List C)→Bool
 | [],[]=>true
 | p::ps,q::qs=>p.1 == q.1 && p.2.length == q.2.length && sy ps qs
 | _,_=>false
def sD:List (Bool × List C)→List C
 | []=>[]
 | p::ps=>p.2++sD ps
def aM (s:cN) (r:V) (nb:List ak):Prop:=
 match s,r with
 | .c s, .c x=>mL [s] [x] 0 nb
 | .agg ss, .agg cs=>mL ss cs 0 nb
 | .ba ps, .ba qs=>if sy ps qs=true then mL (re ps) (sD qs) 0 nb else False
 | _,_=>False
def cX:List Sh→List C→List (Option Nat)
 | .own _ _::ss, .own j::cs=>some j::cX ss cs
 | .own _ _::ss, .nil::cs=>none::cX ss cs
 | _::ss,_::cs=>cX ss cs
 | _,_=>[]
def pJ (ρ:aF):Option Nat→Value × (Nat→Nat)
 | some j=>ρ j
 | none=>(.slice none 0 0,fun _=>0)
section
variable {ρ ρ' : aF} {D D' : Nat → Prop}
theorem pK : ∀{ss:List Sh} {cs:List C} {k:Nat} {bs:List ak},mL ss cs k bs→(cX ss cs).length=(ed ss).length∧fq ss=(ed ss).length∧
   ∀ (i:Nat) B,(ed ss)[i]? = some B→∃E x,B = .own E x false∧(((cX ss cs)[i]? = some none∧x () = [])∨∃j,(cX ss cs)[i]? = some (some j)∧k≤j∧bs[j - k]? = some (.own E x false))
 | [],cs,k,bs,h=>by
   cases cs <;> cases bs <;> simp only[mL] at h
   exact⟨rfl,rfl,fun i B hi=>by simp[ed] at hi⟩
 | s::ss,[],k,bs,h=>by simp[mL] at h
 | s :: ss, c::cs,k,bs,h=>by
   simp only[mL] at h;unfold mS at h
   split at h
   · split at h
     · obtain⟨_,h⟩:=h; have:=pK h; simpa [cX,ed,Sh.af,fq,Sh.nb] using this
     · cases h
   · obtain⟨_,h⟩:=h; have:=pK h; simpa [cX,ed,Sh.af,fq,Sh.nb] using this
   · obtain⟨_,h⟩:=h; have:=pK h; simpa [cX,ed,Sh.af,fq,Sh.nb] using this
   · obtain⟨_,h⟩:=h; have:=pK h; simpa [cX,ed,Sh.af,fq,Sh.nb] using this
   · rename_i E x;obtain⟨hx,h⟩:=h;obtain⟨h1,h2,h3⟩:=pK h;refine⟨by simp[cX,ed,Sh.af,h1],by simp[ed,Sh.af,fq,Sh.nb,h2]; omega,fun i B hi=> ?_⟩;cases i with
     | zero=>simp[ed,Sh.af] at hi; exact⟨E,x,hi.symm, .inl ⟨by simp[cX],hx⟩⟩
     | succ i=>
       simp[ed,Sh.af] at hi;obtain⟨E',x',h4,h5⟩:=h3 i B hi;refine⟨E',x',h4, ?_⟩;simpa [cX] using h5
   · rename_i E x j
     split at h
     · rename_i hj;subst hj
       split at h
       · rename_i Rb E' t bX;obtain⟨hx,h⟩:=h;have he:=AA (l:=false) hx;obtain⟨h1,h2,h3⟩:=pK h;refine⟨by simp[cX,ed,Sh.af,h1],by simp[ed,Sh.af,fq,Sh.nb,h2]; omega,fun i B hi=> ?_⟩;cases i with
         | zero=>simp[ed,Sh.af] at hi; exact⟨E,x,hi.symm, .inr ⟨j,by simp[cX],Nat.le_refl _,by simp[he]⟩⟩
         | succ i=>
           simp[ed,Sh.af] at hi;obtain⟨E',x',h4,h5⟩:=h3 i B hi;refine⟨E',x',h4, ?_⟩;rcases h5 with h5 | ⟨j',h5,h6,h7⟩
           · exact .inl (by simpa [cX] using h5)
           · refine .inr ⟨j',by simpa [cX] using h5,by omega, ?_⟩;rw[show j' - j=(j' - (j+1))+1 by omega];simpa using h7
       · cases h
     · cases h
   · have:=pK h; simpa [cX,ed,Sh.af,fq,Sh.nb] using this
   · cases h
theorem pL {x:Nat}:∀{ss:List Sh} {cs:List C} {k:Nat} {bs:List ak} {k':Nat},mL ss cs k bs→
   (∀(i:Nat) o,(cX ss cs)[i]? = some o→ρ' (k'+i)=pJ ρ o)→aP ρ' (num k' (ed ss)) x=aP ρ (num k bs) x
 | [],cs,k,bs,k',h,hs=>by
   cases cs <;> cases bs <;> simp only[mL] at h
   rfl
 | s::ss,[],k,bs,k',h,hs=>by simp[mL] at h
 | s :: ss, c::cs,k,bs,k',h,hs=>by
   simp only[mL] at h;unfold mS at h
   split at h
   · split at h
     · obtain⟨_,h⟩:=h; simp only[ed,Sh.af,List.nil_append]; exact pL (ss:=ss) (cs:=cs) h (by simpa [cX] using hs)
     · cases h
   · obtain⟨_,h⟩:=h; simp only[ed,Sh.af,List.nil_append]; exact pL (ss:=ss) (cs:=cs) h (by simpa [cX] using hs)
   · obtain⟨_,h⟩:=h; simp only[ed,Sh.af,List.nil_append]; exact pL (ss:=ss) (cs:=cs) h (by simpa [cX] using hs)
   · obtain⟨_,h⟩:=h; simp only[ed,Sh.af,List.nil_append]; exact pL (ss:=ss) (cs:=cs) h (by simpa [cX] using hs)
   · obtain⟨_,h⟩:=h;have h0:=hs 0 none (by simp[cX])
     have:=pL (x:=x) (k':=k'+1) h fun i o hi=>by
       have:=hs (i+1) o (by simpa [cX] using hi)
       rwa [show k'+(i+1)=k'+1+i by omega] at this
     simp only[ed,Sh.af,List.cons_append,List.nil_append,num,aP,this];rw[Nat.add_zero] at h0;simp[h0,pJ]
   · rename_i E y j
     split at h
     · rename_i hj;subst hj
       split at h
       · obtain⟨_,h⟩:=h;have h0:=hs 0 (some j) (by simp[cX])
         have:=pL (x:=x) (k':=k'+1) h fun i o hi=>by
          have:=hs (i+1) o (by simpa [cX] using hi)
          rwa [show k'+(i+1)=k'+1+i by omega] at this
         simp only[ed,Sh.af,List.cons_append,List.nil_append,num,aP,this];rw[Nat.add_zero] at h0;simp[h0,pJ]
       · cases h
     · cases h
   · simp only[ed,Sh.af,List.nil_append]; exact pL (ss:=ss) (cs:=cs) h (by simpa [cX] using hs)
   · cases h
theorem AB : ∀{ss:List Sh} {cs:List C} {k:Nat} {bs:List ak} {k':Nat},mL ss cs k bs→
   (∀(i:Nat) o,(cX ss cs)[i]? = some o→ρ' (k'+i)=pJ ρ o)→(∀i,i<fq ss→D' (k'+i))→
   (fS k' ss).length=cs.length∧∀(j:Nat) c c',cs[j]? = some c→(fS k' ss)[j]? = some c'→∀v,RC eP ρ D c v→RC eP ρ' D' c' v
 | [],cs,k,bs,k',h,hs,hd=>by
   cases cs <;> cases bs <;> simp only[mL] at h
   exact⟨rfl,fun j c c' hj=>by simp at hj⟩
 | s::ss,[],k,bs,k',h,hs,hd=>by simp[mL] at h
 | s :: ss, c::cs,k,bs,k',h,hs,hd=>by
   have step:∀{s:Sh} {c:C} {k2:Nat} {E4:List ak},mL ss cs k2 E4→(∀(i:Nat) o,(cX ss cs)[i]? = some o→ρ' (k'+s.nb+i)=pJ ρ o)→(∀i,i<fq ss→D' (k'+s.nb+i))→
       (∀v,RC eP ρ D c v→RC eP ρ' D' (s.cell k') v)→
       (fS k' (s::ss)).length=(c::cs).length∧∀(j:Nat) c0 c',(c::cs)[j]? = some c0→(fS k' (s::ss))[j]? = some c'→∀v,RC eP ρ D c0 v→RC eP ρ' D' c' v:=by
     intro s c k2 E4 h hs hd hc;obtain⟨h1,h2⟩:=AB h hs hd;refine⟨by simp[fS,h1],fun j c0 c' hj cF v hv=> ?_⟩;cases j with
     | zero=>simp[fS] at hj cF; subst hj; subst cF; exact hc v hv
     | succ j=>simp[fS] at hj cF; exact h2 j c0 c' hj cF v hv
   simp only[mL] at h;unfold mS at h
   split at h
   · split at h
     · rename_i k1 x1 i1 t1 jL;obtain⟨hx,h⟩:=h;subst jL;refine step h (by simpa [cX,Sh.nb] using hs) (by simpa [fq,Sh.nb] using hd) fun v hv=> ?_;simp only[RC,Sh.cell] at hv ⊢;obtain⟨rfl,h2⟩:=RL.of_int hv;rw[hx] at h2 ⊢;exact RL.int (t:=x1) h2
     · cases h
   · rename_i x1 t1;obtain⟨hx,h⟩:=h;refine step h (by simpa [cX,Sh.nb] using hs) (by simpa [fq,Sh.nb] using hd) fun v hv=> ?_;simp only[RC,Sh.cell] at hv ⊢;have:=RL.of_bool hv;subst this;rw[hx];exact RL.bool (t:=x1)
   · rename_i x1 b1;obtain⟨hx,h⟩:=h;refine step h (by simpa [cX,Sh.nb] using hs) (by simpa [fq,Sh.nb] using hd) fun v hv=> ?_;simp only[RC,Sh.cell] at hv ⊢;subst hv;rw[hx];exact RL.bool (t:=x1)
   · rename_i x1 t1;obtain⟨hx,h⟩:=h;refine step h (by simpa [cX,Sh.nb] using hs) (by simpa [fq,Sh.nb] using hd) fun v hv=> ?_;simp only[RC,Sh.cell] at hv ⊢;obtain⟨rfl,h2⟩:=RL.kd hv;rw[hx] at h2 ⊢;exact RL.str (t:=x1) h2
   · rename_i E1 x1;obtain⟨hx,h⟩:=h;refine step h (fun i o hi=> ?_) (fun i hi=> ?_) fun v hv=> ?_
     · have:=hs (i+1) o (by simpa [cX] using hi)
       rwa [show k'+(i+1)=k'+1+i by omega] at this
     · have:=hd (i+1) (by simp only[fq,Sh.nb]; omega)
       rwa [show k'+(i+1)=k'+1+i by omega] at this
     · simp only[RC,Sh.cell] at hv ⊢;refine⟨hd 0 (by simp only[fq,Sh.nb]; omega), ?_⟩;rw[hv,show k'=k'+0 from rfl,hs 0 none (by simp[cX])];rfl
   · rename_i E1 x1 j1
     split at h
     · rename_i hj;subst hj
       split at h
       · obtain⟨hx,h⟩:=h;refine step h (fun i o hi=> ?_) (fun i hi=> ?_) fun v hv=> ?_
         · have:=hs (i+1) o (by simpa [cX] using hi)
           rwa [show k'+(i+1)=k'+1+i by omega] at this
         · have:=hd (i+1) (by simp only[fq,Sh.nb]; omega)
           rwa [show k'+(i+1)=k'+1+i by omega] at this
         · simp only[RC,Sh.cell] at hv ⊢;refine⟨hd 0 (by simp only[fq,Sh.nb]; omega), ?_⟩;rw[hv.2,show k'=k'+0 from rfl,hs 0 (some j1) (by simp[cX])];rfl
       · cases h
     · cases h
   · refine step h (by simpa [cX,Sh.nb] using hs) (by simpa [fq,Sh.nb] using hd) fun v hv=> ?_;exact trivial
   · cases h
theorem AD:∀{ss ts:List Sh} {k:Nat},fS k (ss++ts)=fS k ss++fS (k+fq ss) ts
 | [],ts,k=>by simp[fS,fq]
 | s::ss,ts,k=>by simp only[List.cons_append,fS,AD (ss:=ss),fq,Nat.add_assoc]
theorem E5:∀{ss:List Sh} {k:Nat},(fS k ss).length=ss.length
 | [],_=>rfl
 | s::ss,k=>by simp[fS,E5 (ss:=ss)]
theorem E6:∀{ps:List (Bool × List Sh)} {qs:List (Bool × List C)} {k:Nat},sy ps qs=true→
   (∀(j:Nat) c c',(sD qs)[j]? = some c→(fS k (re ps))[j]? = some c'→∀v,RC eP ρ D c v→RC eP ρ' D' c' v)→
   (ra k ps).length=qs.length∧∀(j:Nat) q p,qs[j]? = some q→(ra k ps)[j]? = some p→∀v,RT eP ρ D q v→RT eP ρ' D' p v
 | [],qs,k,h,hc=>by
   cases qs <;> simp only[sy] at h
   · exact⟨rfl,fun j q p hj=>by simp at hj⟩
   · cases h
 | p0::ps,[],k,h,hc=>by simp[sy] at h
 | p0 :: ps,q0::qs,k,h,hc=>by
   simp only[sy,Bool.and_eq_true,beq_iff_eq] at h;obtain⟨⟨h1,h2⟩,h3⟩:=h;have hl:(fS k p0.2).length=q0.2.length:=by rw[E5,h2]
   obtain⟨h4,h5⟩:=E6 (k:=k+fq p0.2) h3 fun j c c' hj cF=>hc (q0.2.length+j) c c' (by
       simp only[sD]; rw[List.getElem?_append_right (Nat.le_add_right _ _),Nat.add_sub_cancel_left]; exact hj) (by
       simp only[re,AD]; rw[List.getElem?_append_right (by omega),hl,Nat.add_sub_cancel_left]; exact cF)
   refine⟨by simp[ra,h4],fun j q p hj cF v hv=> ?_⟩;cases j with
   | succ j=>simp[ra] at hj cF; exact h5 j q p hj cF v hv
   | zero =>
     simp[ra] at hj cF;subst hj; subst cF
     have mI:∀(j:Nat) c c',q0.2[j]? = some c→(fS k p0.2)[j]? = some c'→∀v,RC eP ρ D c v→RC eP ρ' D' c' v:=fun j c c' hj cF=>by
       have aR:=bD hj
       exact hc j c c' (by simp only[sD]; rw[List.getElem?_append_left aR]; exact hj) (by
        simp only[re,AD]; rw[List.getElem?_append_left (by omega)]; exact cF)
     obtain⟨b,ss⟩:=p0;obtain⟨b',cs⟩:=q0;simp only at h1 hl mI;subst h1;cases b with
     | true=>
       obtain⟨vs,h6,h7,h8⟩:=hv;refine⟨vs,h6,by simp only at h7 ⊢; omega,fun j c hj=> ?_⟩;simp only at hj h8;obtain⟨c0,gv⟩:∃c0,cs[j]? = some c0:=⟨_,List.getElem?_eq_getElem (by have:=bD hj; omega)⟩;exact mI j c0 c gv hj _ (h8 j c0 gv)
     | false=>
       obtain⟨c,h6,h7⟩:=hv;simp only at h6;subst h6;simp only[List.length_singleton] at hl;obtain⟨c',hR⟩:∃c',fS k ss = [c']:=List.length_eq_one_iff.1 hl;exact⟨c',hR,mI 0 c c' rfl (by rw[hR]; rfl) _ h7⟩
end
theorem aM.canon {h:Array Obj} {H0 H':Hp} {ρ:aF} {s:cN} {r:V} {nb:List ak} {v:Value} (jo:aM s r nb) (hb:fl h H0 H' ρ (num 0 nb)) (hv:RV eP ρ (av (num 0 nb)) r v) :
   ∃ ρ',s.bs.all ownB=true∧fl h H0 H' ρ' (num 0 s.bs)∧RV eP ρ' (av (num 0 s.bs)) s.v v:=by
 obtain⟨ss,cs,hm,oy,LA⟩:∃ss cs,mL ss cs 0 nb∧s.bs=ed ss∧∀{ρ':aF} {D':Nat→Prop},
     (∀(j:Nat) c c',cs[j]? = some c→(fS 0 ss)[j]? = some c'→∀v,RC eP ρ (av (num 0 nb)) c v→RC eP ρ' D' c' v)→RV eP ρ' D' s.v v:=by
   unfold aM at jo
   split at jo
   · rename_i s x;refine⟨[s],[x],jo,by simp[cN.bs,ed],fun hc=> ?_⟩;exact hc 0 x _ rfl rfl v hv
   · rename_i ss cs;refine⟨ss,cs,jo,rfl,fun hc=> ?_⟩;obtain⟨us,h1,h2,h3⟩:=hv;have hl:(fS 0 ss).length=cs.length:=(AB (ρ:=ρ) (ρ':=fun i=>match(cX ss cs)[i]? with | some o=>pJ ρ o | none=>default) (D:=fun _=>True) (D':=fun _=>True) jo (fun i o hi=>by simp[hi]) fun _ _=>trivial).1;refine⟨us,h1,by simp only[hl]; exact h2,fun j c hj=> ?_⟩;obtain⟨c0,gv⟩:∃c0,cs[j]? = some c0:=⟨_,List.getElem?_eq_getElem (by have:=bD hj; omega)⟩;exact hc j c0 c gv hj _ (h3 j c0 gv)
   · rename_i ps qs
     split at jo
     · rename_i mN;refine⟨re ps,sD qs,jo,rfl,fun hc=> ?_⟩;obtain⟨us,h1,h2,h3⟩:=hv;obtain⟨h4,h5⟩:=E6 mN hc;refine⟨us,h1,by rw[h4]; exact h2,fun j p hj=> ?_⟩;obtain⟨q,hq⟩:∃q,qs[j]? = some q:=⟨_,List.getElem?_eq_getElem (by have:=bD hj; omega)⟩;exact h5 j q p hq hj _ (h3 j q hq)
     · cases jo
   · cases jo
 obtain⟨hl,hn,gb⟩:=pK hm
 let ρ':aF:=fun i=>match(cX ss cs)[i]? with | some o=>pJ ρ o | none=>default
 have iw:∀(i:Nat) o,(cX ss cs)[i]? = some o→ρ' (0+i)=pJ ρ o:=fun i o hi=>by simp only[ρ',Nat.zero_add,hi]
 have cM:∀k B,(k,B)∈num 0 (ed ss)→∃E x,B = .own E x false∧((ρ' k=(.slice none 0 0,fun _=>0)∧x () = [])∨∃j,ρ' k=ρ j∧(j,ak.own E x false)∈num 0 nb):=fun k B hk=>by
   obtain⟨_,h1⟩:=oY.1 hk;obtain⟨E,x,h2,h3⟩:=gb k B (by simpa using h1);refine⟨E,x,h2, ?_⟩;rcases h3 with⟨h3,h4⟩ | ⟨j,h3,h4,h5⟩
   · exact .inl ⟨by have:=iw k none h3; rw[Nat.zero_add] at this; exact this,h4⟩
   · exact .inr ⟨j,by have:=iw k _ h3; rw[Nat.zero_add] at this; exact this,oY.2 ⟨Nat.zero_le _,h5⟩⟩
 refine⟨ρ', ?_, ?_,LA ?_⟩
 · rw[oy];refine List.all_eq_true.2 fun B hB=> ?_;obtain⟨j,hj,tW⟩:=List.getElem_of_mem hB;obtain⟨E,x,rfl,_⟩:=gb j B (by rw[List.getElem?_eq_getElem hj,tW]);rfl
 · rw [oy];refine⟨fun k hk=> ?_,y5,hb.h0,hb.hh,fun k B hk=> ?_,fun x=> ?_,fun k B hk x hx=> ?_,fun k B hk x hx=> ?_⟩
   · obtain⟨⟨k',B⟩,LB,rfl⟩:=List.mem_map.1 hk;obtain⟨E,x,rfl,⟨h1,_⟩ | ⟨j,h1,h2⟩⟩:=cM k' B LB
     · rw[h1]; rfl
     · rw[h1]; exact hb.oc j (List.mem_map.2 ⟨_,h2,rfl⟩)
   · obtain⟨E,x,rfl,⟨h1,h3⟩ | ⟨j,h1,h2⟩⟩:=cM k B hk
     · rw[h1]; exact bc.nil h3
     · rw[h1]; exact hb.af j _ h2
   · rw[pL hm iw]; exact hb.sum x
   · obtain⟨E,y,rfl,⟨h1,_⟩ | ⟨j,h1,h2⟩⟩:=cM k B hk
     · rw[h1] at hx; simp at hx
     · rw[h1] at hx; exact hb.fresh j _ h2 x hx
   · obtain⟨E,y,rfl,⟨h1,_⟩ | ⟨j,h1,h2⟩⟩:=cM k B hk
     · rw[h1] at hx; simp[fa] at hx
     · rw[h1] at hx; exact hb.gn j _ h2 x hx
 · rw[oy];exact(AB hm iw fun i hi=>mA.2 ⟨Nat.zero_le _,by rw[Nat.zero_add,Nat.zero_add,←hn]; exact hi⟩).2
theorem Spec.can {P:Program} {f:FuncId} {as:List V} {s:cN} (h:Spec P f as (aM s)):Spec P f as fun r nb=>r=s.v∧nb=s.bs:=by
 refine⟨h.1,fun w vs ha=>Calls.mono (h.2 w vs ha) fun e w' hw=> ?_⟩;obtain⟨v,r,nb,H',ρ,rfl,jo,cn,hb,hv,aY⟩:=hw;obtain⟨ρ',h1,h2,h3⟩:=jo.canon hb hv;exact⟨v,s.v,s.bs,H',ρ',rfl,⟨rfl,rfl⟩,h1,h2,h3,aY⟩
def gH (X:Type) (φ:X→Prop) (s:X→cN) (r:V) (nb:List ak):Prop:=∃x,φ x∧aM (s x) r nb
theorem Spec.LC {P:Program} {f:FuncId} {as:List V} {X:Type} {φ:X→Prop} {s:X→cN} (h:Spec P f as (gH X φ s)):Spec P f as fun r nb=>∃x,φ x∧r=(s x).v∧nb=(s x).bs:=by
 refine⟨h.1,fun w vs ha=>Calls.mono (h.2 w vs ha) fun e w' hw=> ?_⟩;obtain⟨v,r,nb,H',ρ,rfl,⟨x,hx,jo⟩,cn,hb,hv,aY⟩:=hw;obtain⟨ρ',h1,h2,h3⟩:=jo.canon hb hv;exact⟨v,(s x).v,(s x).bs,H',ρ',rfl,⟨x,hx,rfl,rfl⟩,h1,h2,h3,aY⟩
theorem Br.dec {p:Prop} [Decidable p] {K:Bool→Prop} (h1:p→K true) (h0:¬p→K false):Br (fun _=>decide p) K:=
 Br.split (fun h=>h1 (of_decide_eq_true h)) fun h=>h0 (of_decide_eq_false h)
theorem aN {P : Program} {tab : aX} (hT : eC P tab = true) {f : FuncId} {fn : Func} {c : Code} (hf : P.funcs[f]? = some fn) (hb : fn.body = some c) (eM : (fn.name == "runtime.NumGoroutine") = false)
 {fr:Bool} (d_:fr=true→fG c=true) {as:List V} {post:V→List ak→Prop} (h:∀P',P'=P→jK as→E3 P' tab fr fn c as post):Spec P f as post:=Ly hT hf hb eM d_ (h P rfl)
theorem ag.by {P P0:Program} {f:FuncId} {as:List V} {K:V→List ak→Prop} {s:cN} (hP:P=P0) (h:Spec P0 f as (aM s)) (hk:K s.v s.bs):ag P f as K:=by
 subst hP;exact⟨_,h.can,fun r nb ⟨h1,h2⟩=>by rw[h1,h2]; exact hk⟩
theorem ag.uM {P P0:Program} {f:FuncId} {as uN:List V} {K:V→List ak→Prop} {s:cN} (hP:P=P0) (h:Spec P0 f as (aM s)) (ha:uN=as) (hk:K s.v s.bs):ag P f uN K:=by
 subst ha;exact ag.by hP h hk
theorem ag.ex {P P0:Program} {f:FuncId} {as:List V} {K:V→List ak→Prop} {X:Type} {φ:X→Prop} {s:X→cN} (hP:P=P0) (h:Spec P0 f as (gH X φ s)) (hk:∀x,φ x→K (s x).v (s x).bs):ag P f as K:=by
 subst hP;exact⟨_,h.LC,fun r nb ⟨x,hx,h1,h2⟩=>by rw[h1,h2]; exact hk x hx⟩
def iA (x:Int):V:= .c (.lf (.int .i64 fun _=>x))
def sA (x:List UInt8):V:= .c (.lf (.str fun _=>x))
def lA (E:an) (x:List E.α):V:= .c (.lf (.list E fun _=>x))
def eA (E:an) (x:E.α):V:= .agg ((bH E fun _=>x).map .lf)
def iR (x:Unit→Int):cN:= .c (.int .i64 x)
def bR (x:Unit→Bool):cN:= .c (.bool x)
def eR:(E:an)→(Unit→E.α)→cN
 | .int,x=> .c (.int .i64 x)
 | .byte,x=> .c (.int .u8 fun _=>((x ()).toNat:Int))
 | .str,x=> .c (.str x)
 | .aI,x=> .agg [.int .i64 fun _=>(x ()).tm, .int .i64 fun _=>(x ()).pid]
 | .aH,x=> .agg [.int .i64 fun _=>(x ()).lvl, .int .i64 fun _=>(x ()).az, .int .i64 fun _=>(x ()).bm, .int .i64 fun _=>(x ()).au]
 | .aB,x=> .agg [.int .i64 fun _=>(x ()).id, .int .i64 fun _=>(x ()).ah, .int .i64 fun _=>(x ()).aq, .int .i64 fun _=>(x ()).au, .int .i64 fun _=>(x ()).aT,
  .int .i64 fun _=>(x ()).since, .int .i64 fun _=>(x ()).az, .int .i64 fun _=>(x ()).st, .int .i64 fun _=>(x ()).dP, .int .i64 fun _=>(x ()).asked]
 | .cw,x=> .c (.own .aI x)
 | .ah,x=> .agg [.int .i64 fun _=>(x ()).ai.total, .int .i64 fun _=>(x ()).ai.free, .int .i64 fun _=>(x ()).ai.held, .int .i64 fun _=>(x ()).ai.bg, .int .i64 fun _=>(x ()).ai.tied,
  .own .aH fun _=>(x ()).row, .own .cw fun _=>(x ()).spoke]
 | .fC,x=> .agg [.int .i64 fun _=>(x ()).kind, .int .i64 fun _=>(x ()).id, .int .i64 fun _=>(x ()).ah, .int .i64 fun _=>(x ()).aq, .int .i64 fun _=>(x ()).au, .int .i64 fun _=>(x ()).aT]
 | .rep,x=> .agg [.int .i64 fun _=>(x ()).code, .own .int fun _=>(x ()).ids]
def lR (E:an) (x:Unit→List E.α):cN:= .c (.own E x)
inductive KC where
 | int (k:IntKind) (x:Unit→Int)
 | bool (x:Unit→Bool)
 | str (x:Unit→List UInt8)
 | nm (j:Nat)
inductive dw where
 | own (E:an) (x:Unit→List E.α)
 | box (cs:List KC)
 | vw
def KC.c:KC→C
 | .int k x=> .lf (.int k x)
 | .bool x=> .lf (.bool x)
 | .str x=> .lf (.str x)
 | .nm j=> .own j
def E7:List KC→List C
 | []=>[]
 | c::cs=>c.c::E7 cs
def dw.af:dw→ak
 | .own E x=> .own E x false
 | .box cs=> .box (E7 cs)
 | .vw=> .dead
def iz:List (Nat × dw)→List (Nat × ak)
 | []=>[]
 | p::r=>(p.1,p.2.af)::iz r
def sE:List (Nat × ak)→List (Nat × ak)→List (Nat × ak)
 | [],bs=>bs
 | p::r,bs=>p::sE r bs
def gZ (s:cN) (kp:List (Nat × dw)):List (Nat × ak):=sE (iz kp) (num 100 s.bs)
def kx (s:cN):V:=s.v.cO (100 + ·)
def sF (s:Sh) (c:C) (kk:Nat):C × List (Nat × an):=
 match s,c with
 | .own E _, .nil=>(.own kk,[(kk,E)])
 | _,c=>(c,[])
def mZ:List Sh→List C→Nat→List C × List (Nat × an)
 | s::ss,c::cs,kk=>match sF s c kk,mZ ss cs (kk+1) with | (c',l),(jD,l')=>(c'::jD,l++l')
 | _,cs,_=>(cs,[])
def pM:List (Bool × List Sh)→List (Bool × List C)→Nat→List (Bool × List C) × List (Nat × an)
 | p::ps,q::qs,kk=>match mZ p.2 q.2 kk,pM ps qs (kk+100) with | (cs,l),(r,l')=>((q.1,cs)::r,l++l')
 | _,qs,_=>(qs,[])
def pO (s:cN) (v:V) (kk:Nat):V × List (Nat × an):=
 match s,v with
 | .c s, .c x=>(match sF s x kk with | (x',l)=>(.c x',l))
 | .agg ss, .agg cs=>(match mZ ss cs kk with | (jD,l)=>(.agg jD,l))
 | .ba ps, .ba qs=>(match pM ps qs kk with | (pP,l)=>(.ba pP,l))
 | _,v=>(v,[])
def la:List (Nat × an)→List (Nat × ak)→Option (List (Nat × ak))
 | [],bs=>some bs
 | p::r,bs=>match aL bs p.1 with | none=>la r (cU bs p.1 (.own p.2 (fun _=>[]) false)) | some _=>none
def xo (l l0:Lf) (K:Prop):Prop:=
 match l,l0 with
 | .int i t, .int k x=>if i=k then iU (fun _=>t ()=x ()) K else False
 | .bool t, .bool x=>iU (fun _=>t ()=x ()) K
 | .str t, .str x=>iU (fun _=>t ()=x ()) K
 | .list E' t, .list E x=>iU (fun _=>pI E E' x t) K
 | _,_=>False
def xp:List Lf→List Lf→Prop→Prop
 | [],[],K=>K
 | l::ls,m::ms,K=>xo l m (xp ls ms K)
 | _,_,_=>False
def AE (c c0:Cp) (K:Prop):Prop:=
 match c,c0 with
 | .bN ls o, .bN ms o'=>if o=o' then xp ls ms K else False
 | _,_=>False
def xq:List Cp→List Cp→Prop→Prop
 | [],[],K=>K
 | l::ls,m::ms,K=>AE l m (xq ls ms K)
 | _,_,_=>False
def mC (c c0:C) (K:Prop):Prop:=
 match c,c0 with
 | _, .undef=>K
 | .lf l, .lf l0=>xo l l0 K
 | .bl b, .lf (.bool x)=>iU (fun _=>b=x ()) K
 | .bl b, .bl b'=>if b=b' then K else False
 | .own j, .own k=>if j=k then K else False
 | .nil, .nil=>K
 | .ptr j o, .ptr k o'=>if j=k∧o=o' then K else False
 | .fn f l, .fn g m=>if f=g then xq l m K else False
 | _,_=>False
def rf:List C→List C→Prop→Prop
 | [],[],K=>K
 | c::cs,d::ds,K=>mC c d (rf cs ds K)
 | _,_,_=>False
def xr:List (Bool × List C)→List (Bool × List C)→Prop→Prop
 | [],[],K=>K
 | p::ps,q::qs,K=>if p.1=q.1 then rf p.2 q.2 (xr ps qs K) else False
 | _,_,_=>False
def mV (v v0:V) (K:Prop):Prop:=
 match v,v0 with
 | .c x, .c y=>mC x y K
 | .agg xs, .agg ys=>rf xs ys K
 | .ba ps, .ba qs=>xr ps qs K
 | _,_=>False
def l8:List (Nat × ak)→List (Nat × ak)→Prop→Prop
 | [],[],K=>K
 | p ::ps,q::qs,K=>
   if p.1=q.1 then
    match p.2,q.2 with
    | .own E' t false, .own E x false=>iU (fun _=>pI E E' x t) (l8 ps qs K)
    | .box cs, .box ds=>rf cs ds (l8 ps qs K)
    | .mp t, .mp x=>iU (fun _=>t ()=x ()) (l8 ps qs K)
    | .view _ _, .dead=>l8 ps qs K
    | .view E' t, .view E x=>iU (fun _=>pI E E' x t) (l8 ps qs K)
    | _,_=>False
   else False
 | _,_,_=>False
def gI:List (Nat × dw)→List (Nat × Nat)
 | []=>[]
 | p::r=>(p.1,p.1)::gI r
def gl:List Nat→Nat→List (Nat × Nat)
 | [],_=>[]
 | k::ks,j=>(k,j)::gl ks (j+1)
def gJ:List (Nat × Nat)→List (Nat × Nat)→List (Nat × Nat)
 | [],b=>b
 | p::r,b=>p::gJ r b
def uO (tab :aX) (rs:List ResultVar) (s:cN) (kp:List (Nat × dw)) (σ:SS):Prop:=
 match rS tab σ rs with
 | some r =>
   match pO s r 9000000 with
   | (r', l)=>
     match la l (closeAll (σ.af.map (·.1)) σ.af) with
     | some bs=>
       match mR bs (gJ (gI kp) (gl (dZ r') 100)) (gJ (gI kp) (gl (dZ r') 100)) with
       | some out=>
         if dL ((gJ (gI kp) (gl (dZ r') 100)).map (·.1))=true∧dL ((gJ (gI kp) (gl (dZ r') 100)).map (·.2))=true∧(r'.dv (gJ (gI kp) (gl (dZ r') 100))).cl=true then
          l8 out (gZ s kp) (mV (r'.dv (gJ (gI kp) (gl (dZ r') 100))) (kx s) True)
         else False
       | none=>False
     | none=>False
 | none=>False
theorem E8 {E E':an} {x:Unit→List E.α} {t:Unit→List E'.α} (h:pI E E' x t):Lf.list E' t=Lf.list E x:=by
 have:=AA (l:=false) h
 injection this with h1 h2
 subst h1;rw[eq_of_heq h2]
theorem E9 {l l0:Lf} {K:Prop} (h:xo l l0 K):K∧∀{H:Hp} {v:Value},RL H l v→RL H l0 v:=by
 unfold xo at h
 split at h
 · split at h
   · rename_i hi;obtain⟨h1,h2⟩:=h;refine⟨h2,fun {H v} hv=> ?_⟩;subst hi;obtain⟨rfl,h3⟩:=RL.of_int hv;rw[h1] at h3 ⊢;exact RL.int h3
   · cases h
 · obtain⟨h1,h2⟩:=h;refine⟨h2,fun {H v} hv=> ?_⟩;have:=RL.of_bool hv;subst this;rw[h1];exact RL.bool
 · obtain⟨h1,h2⟩:=h;refine⟨h2,fun {H v} hv=> ?_⟩;obtain⟨rfl,h3⟩:=RL.kd hv;rw[h1] at h3 ⊢;exact RL.str h3
 · obtain⟨h1,h2⟩:=h;refine⟨h2,fun {H v} hv=> ?_⟩;rw[←E8 h1];exact hv
 · cases h
theorem E_:∀{ls ms:List Lf} {K:Prop},xp ls ms K→K∧∀{H:Hp} {j:Nat} {m:Lf},ms[j]? = some m→∃l,ls[j]? = some l∧∀{v:Value},RL H l v→RL H m v
 | [],[],K,h=>⟨h,fun hj=>by simp at hj⟩
 | [],_::_,K,h=>by cases h
 | _::_,[],K,h=>by cases h
 | l ::ls,m::ms,K,h=>by
   simp only[xp] at h;obtain⟨h1,h2⟩:=E9 h;obtain⟨h3,h5⟩:=E_ h1;refine⟨h3,fun {H j e} hj=> ?_⟩;cases j with
   | zero=>simp at hj; subst hj; exact⟨l,rfl,h2⟩
   | succ j=>simpa using h5 (by simpa using hj)
theorem LD {c c0:Cp} {K:Prop} (h:AE c c0 K):K∧∀{H:Hp} {ρ:aF} {D:Nat→Prop} {v:Value},dz H ρ D c v→dz H ρ D c0 v:=by
 unfold AE at h
 split at h
 · split at h
   · rename_i ho;subst ho;obtain⟨h1,h2⟩:=E_ h;refine⟨h1,fun {H ρ D v} hv=> ?_⟩;obtain⟨b,o,cs,e,fz,g1,g2,g3⟩:=hv;refine⟨b,o,cs,e,fz,g1,g2,fun j m hj=> ?_⟩;obtain⟨l,hl,hi⟩:=h2 hj;exact⟨(g3 j l hl).1,hi (g3 j l hl).2⟩
   · cases h
 · cases h
theorem Fa:∀{ls ms:List Cp} {K:Prop},xq ls ms K→K∧ls.length=ms.length∧∀{H:Hp} {ρ:aF} {D:Nat→Prop} {j:Nat} {m:Cp},ms[j]? = some m→∃l,ls[j]? = some l∧∀{v:Value},dz H ρ D l v→dz H ρ D m v
 | [],[],K,h=>⟨h,rfl,fun hj=>by simp at hj⟩
 | [],_::_,K,h=>by cases h
 | _::_,[],K,h=>by cases h
 | l ::ls,m::ms,K,h=>by
   simp only[xq] at h;obtain⟨h1,h2⟩:=LD h;obtain⟨h3,h4,h5⟩:=Fa h1;refine⟨h3,by simp[h4],fun {H ρ D j e} hj=> ?_⟩;cases j with
   | zero=>simp at hj; subst hj; exact⟨l,rfl,h2⟩
   | succ j=>simpa using h5 (by simpa using hj)
theorem Fb {c c0:C} {K:Prop} (h:mC c c0 K):K∧∀{H:Hp} {ρ:aF} {D:Nat→Prop} {v:Value},RC H ρ D c v→RC H ρ D c0 v:=by
 unfold mC at h
 split at h
 · exact⟨h,fun _=>trivial⟩
 · obtain⟨h1,h2⟩:=E9 h;exact⟨h1,fun hv=>h2 hv⟩
 · obtain⟨h1,h2⟩:=h;refine⟨h2,fun {H ρ D v} hv=> ?_⟩;simp only[RC] at hv ⊢;subst hv;rw[h1];exact RL.bool
 · split at h
   · rename_i hb; subst hb; exact⟨h,fun hv=>hv⟩
   · cases h
 · split at h
   · rename_i hj; subst hj; exact⟨h,fun hv=>hv⟩
   · cases h
 · exact⟨h,fun hv=>hv⟩
 · split at h
   · rename_i hj; obtain⟨rfl,rfl⟩:=hj; exact⟨h,fun hv=>hv⟩
   · cases h
 · split at h
   · rename_i hf;subst hf;obtain⟨h1,h2,h3⟩:=Fa h;refine⟨h1,fun {H ρ D v} hv=> ?_⟩;obtain⟨vs,g1,g2,g3⟩:=hv;refine⟨vs,g1,by rw[g2,h2],fun j m hj=> ?_⟩;obtain⟨l,hl,hi⟩:=h3 hj;exact hi (g3 j l hl)
   · cases h
 · cases h
theorem sG:∀{cs ds:List C} {K:Prop},rf cs ds K→K∧cs.length=ds.length∧∀{H:Hp} {ρ:aF} {D:Nat→Prop} {j:Nat} {d:C},ds[j]? = some d→∃c,cs[j]? = some c∧∀{v:Value},RC H ρ D c v→RC H ρ D d v
 | [],[],K,h=>⟨h,rfl,fun hj=>by simp at hj⟩
 | [],_::_,K,h=>by cases h
 | _::_,[],K,h=>by cases h
 | c ::cs,d::ds,K,h=>by
   simp only[rf] at h;obtain⟨h1,h2⟩:=Fb h;obtain⟨h3,h4,h5⟩:=sG h1;refine⟨h3,by simp[h4],fun {H ρ D j e} hj=> ?_⟩;cases j with
   | zero=>simp at hj; subst hj; exact⟨c,rfl,h2⟩
   | succ j=>simpa using h5 (by simpa using hj)
theorem AF {cs ds:List C} {K:Prop} (h:rf cs ds K) {H:Hp} {ρ:aF} {D:Nat→Prop} {vs:Array Value} (hv:cG H ρ D cs vs):cG H ρ D ds vs:=by
 obtain⟨_,h4,h5⟩:=sG h;refine⟨by rw[←h4]; exact hv.1,fun j d hj=> ?_⟩;obtain⟨c,hc,hi⟩:=h5 hj;exact hi (hv.2 j c hc)
theorem Fc :∀{ps qs:List (Bool × List C)} {K:Prop},xr ps qs K→K∧ps.length=qs.length∧∀{H:Hp} {ρ:aF} {D:Nat→Prop} {j:Nat} {q:Bool × List C},qs[j]? = some q→∃p,ps[j]? = some p∧∀{v:Value},RT H ρ D p v→RT H ρ D q v
 | [],[],K,h=>⟨h,rfl,fun hj=>by simp at hj⟩
 | [],_::_,K,h=>by cases h
 | _::_,[],K,h=>by cases h
 | p :: ps,q::qs,K,h=>by
   simp only[xr] at h
   split at h
   · rename_i Fe;obtain⟨h1,h2,_⟩:=sG h;obtain⟨h3,h4,h5⟩:=Fc h1;refine⟨h3,by simp[h4],fun {H ρ D j e} hj=> ?_⟩;cases j with
     | zero=>
       simp at hj; subst hj;refine⟨p,rfl,fun {v} hv=> ?_⟩;obtain⟨b,cs⟩:=p;obtain⟨b',ds⟩:=q;simp only at Fe h2 h;subst Fe;cases b with
       | true=>obtain⟨vs,g1,g2⟩:=hv; exact⟨vs,g1,AF h g2⟩
       | false=>
         obtain⟨c,g1,g2⟩:=hv;simp only at g1;subst g1;obtain⟨d,rfl⟩:∃d,ds = [d]:=List.length_eq_one_iff.1 (by simpa using h2.symm);refine⟨d,rfl, ?_⟩;obtain⟨c',hR,hi⟩:=(sG h).2.2 (H:=H) (ρ:=ρ) (D:=D) (j:=0) (d:=d) rfl;simp at hR;subst hR;exact hi g2
     | succ j=>simpa using h5 (by simpa using hj)
   · cases h
theorem xt {v v0:V} {K:Prop} (h:mV v v0 K):K∧∀{H:Hp} {ρ:aF} {D:Nat→Prop} {x:Value},RV H ρ D v x→RV H ρ D v0 x:=by
 unfold mV at h
 split at h
 · exact Fb h
 · exact⟨(sG h).1,fun⟨vs,h1,h2⟩=>⟨vs,h1,AF h h2⟩⟩
 · obtain⟨h1,h2,h3⟩:=Fc h;refine⟨h1,fun {H ρ D x} ⟨vs,g1,g2,g3⟩=>⟨vs,g1,by rw[g2,h2],fun j q hj=> ?_⟩⟩;obtain⟨p,hp,hi⟩:=h3 hj;exact hi (g3 j p hp)
 · cases h
theorem oz:∀{ps qs:List (Nat × ak)} {K:Prop},l8 ps qs K→K∧qs.map (·.1)=ps.map (·.1)∧∀k B',(k,B')∈qs→∃B,(k,B)∈ps∧
   (∀{h:Array Obj} {H:Hp} {ρ:aF} {D:Nat→Prop} {p:Value × (Nat→Nat)},cD h H ρ D B p→cD h H ρ D B' p)∧∀(p:Value × (Nat→Nat)) x,fa B' p x→fa B p x
 | [],[],K,h=>⟨h,rfl,fun k B' hk=>by cases hk⟩
 | [],_::_,K,h=>by cases h
 | _::_,[],K,h=>by cases h
 | (k, A)::ps,(k',A')::qs,K,h=>by
   simp only[l8] at h
   split at h
   · rename_i hk;subst hk
     split at h
     · rename_i E' t E x;obtain⟨h1,h⟩:=h;obtain⟨h2,h3,h4⟩:=oz h;have he:=AA (l:=false) h1;refine⟨h2,by simp[h3],fun j B' hj=> ?_⟩;rcases List.mem_cons.1 hj with hj | hj
       · cases hj; exact⟨_,List.mem_cons_self,by rw[he]; exact⟨fun h=>h,fun _ _ h=>h⟩⟩
       · obtain⟨B,g1,g2⟩:=h4 j B' hj; exact⟨B,List.mem_cons_of_mem _ g1,g2⟩
     · rename_i cs ds;have hm:=h;obtain⟨h,_,_⟩:=sG h;obtain⟨h2,h3,h4⟩:=oz h;refine⟨h2,by simp[h3],fun j B' hj=> ?_⟩;rcases List.mem_cons.1 hj with hj | hj
       · cases hj;exact⟨_,List.mem_cons_self,fun⟨b,vs,e,fz,e1,e2,e3,e4,e5⟩=>⟨b,vs,e,fz,e1,e2,e3,e4,AF hm e5⟩,fun _ _ h=>h⟩
       · obtain⟨B,g1,g2⟩:=h4 j B' hj; exact⟨B,List.mem_cons_of_mem _ g1,g2⟩
     · rename_i t x;obtain⟨h1,h⟩:=h;obtain⟨h2,h3,h4⟩:=oz h;have h1:t ()=x ():=h1;refine⟨h2,by simp[h3],fun j B' hj=> ?_⟩;rcases List.mem_cons.1 hj with hj | hj
       · cases hj;exact⟨_,List.mem_cons_self,fun⟨b,es,c,e1,e2,e3,e4⟩=>⟨b,es,c,e1,e2,e3,by rw[←h1]; exact e4⟩,fun _ _ h=>h⟩
       · obtain⟨B,g1,g2⟩:=h4 j B' hj; exact⟨B,List.mem_cons_of_mem _ g1,g2⟩
     · obtain⟨h2,h3,h4⟩:=oz h;refine⟨h2,by simp[h3],fun j B' hj=> ?_⟩;rcases List.mem_cons.1 hj with hj | hj
       · cases hj;exact⟨_,List.mem_cons_self,fun h=>h.2,fun _ _ h=>h⟩
       · obtain⟨B,g1,g2⟩:=h4 j B' hj; exact⟨B,List.mem_cons_of_mem _ g1,g2⟩
     · rename_i E' t E x;obtain⟨h1,h⟩:=h;obtain⟨h2,h3,h4⟩:=oz h;have he:=E8 h1;refine⟨h2,by simp[h3],fun j B' hj=> ?_⟩;rcases List.mem_cons.1 hj with hj | hj
       · cases hj; exact⟨_,List.mem_cons_self,fun⟨q1,q2⟩=>⟨by rw[←he]; exact q1,q2⟩,fun _ _ h=>h⟩
       · obtain⟨B,g1,g2⟩:=h4 j B' hj; exact⟨B,List.mem_cons_of_mem _ g1,g2⟩
     · cases h
   · cases h
theorem Ff {ρ:aF} {x:Nat}:∀{ps qs:List (Nat × ak)},qs.map (·.1)=ps.map (·.1)→aP ρ qs x=aP ρ ps x
 | [],[],_=>rfl
 | [],_::_,h=>by simp at h
 | _::_,[],h=>by simp at h
 | p ::ps,q::qs,h=>by
   simp only[List.map_cons,List.cons.injEq] at h;simp only[aP,h.1,Ff h.2]
theorem fl.as {h:Array Obj} {H0 H:Hp} {ρ:aF} {ps qs:List (Nat × ak)} (r:fl h H0 H ρ ps) (hk:qs.map (·.1)=ps.map (·.1))
   (hb:∀k B',(k,B')∈qs→∃B,(k,B)∈ps∧(∀{h:Array Obj} {H:Hp} {ρ:aF} {D:Nat→Prop} {p:Value × (Nat→Nat)},cD h H ρ D B p→cD h H ρ D B' p)∧∀(p:Value × (Nat→Nat)) x,fa B' p x→fa B p x):fl h H0 H ρ qs:=by
 have hd:av qs=av ps:=by funext k; simp only[av,hk]
 refine⟨by rw[hd]; exact r.oc,by rw[hk]; exact r.nd,r.h0,r.hh,fun k B' bw=> ?_,fun x=>by rw[Ff hk]; exact r.sum x,fun k B' bw x hx=> ?_,fun k B' bw x hx=> ?_⟩
 · obtain⟨B,g1,g2⟩:=hb k B' bw;rw[hd];exact g2.1 (r.af k B g1)
 · obtain⟨B,g1,_⟩:=hb k B' bw;exact r.fresh k B g1 x hx
 · obtain⟨B,g1,g2⟩:=hb k B' bw;exact r.gn k B g1 x (g2.2 _ x hx)
theorem LF {bs bX:List (Nat × ak)} {k:Nat} (h:r7 bs k=some bX):av bX=av bs:=by
 unfold r7 at h
 split at h
 · split at h
   · split at h
     · split at h
       · cases h; funext j; rw[dR,uc]
       · cases h
     · cases h
   · cases h
 · cases h; rfl
 · cases h
section
variable {Γ : Ctx} {H : Hp} {a : Act} {w : World}
theorem aG.kY (bC:Γ.hd = []) {ρ:aF} {σ:SS} (r:aG Γ H ρ σ a w) (k:Nat) :
   ∃ ρ',aG Γ H ρ' {σ with af:=Go.Proofs.YtpklefhdkkegiaaGreat.kY σ.af k} a w∧(∀j,(ρ' j).1=(ρ j).1)∧av (Go.Proofs.YtpklefhdkkegiaaGreat.kY σ.af k)=av σ.af:=by
 unfold Go.Proofs.YtpklefhdkkegiaaGreat.kY
 split
 · split
   · rename_i bX hc;obtain⟨ρ',r',h1⟩:=aG.close bC r hc;exact⟨ρ',r',h1,LF hc⟩
   · exact⟨ρ,r,fun _=>rfl,rfl⟩
 · exact⟨ρ,r,fun _=>rfl,rfl⟩
theorem aG.closeAll (bC:Γ.hd = []):∀{ks:List Nat} {ρ:aF} {σ:SS},aG Γ H ρ σ a w→
   ∃ ρ',aG Γ H ρ' {σ with af:=Go.Proofs.YtpklefhdkkegiaaGreat.closeAll ks σ.af} a w∧(∀j,(ρ' j).1=(ρ j).1)∧av (Go.Proofs.YtpklefhdkkegiaaGreat.closeAll ks σ.af)=av σ.af
 | [],ρ,σ,r=>⟨ρ,r,fun _=>rfl,rfl⟩
 | k ::ks,ρ,σ,r=>by
   obtain⟨ρ1,r1,h1,h2⟩:=r.kY bC k;obtain⟨ρ2,r2,h3,h4⟩:=aG.closeAll bC (ks:=ks) r1;exact⟨ρ2,r2,fun j=>(h3 j).trans (h1 j),h4.trans h2⟩
theorem aG.la:∀{l:List (Nat × an)} {ρ:aF} {σ:SS} {bs:List (Nat × ak)},aG Γ H ρ σ a w→Go.Proofs.YtpklefhdkkegiaaGreat.la l σ.af=some bs→
   ∃ ρ',aG Γ H ρ' {σ with af:=bs} a w∧(∀j,av σ.af j→av bs j∧(ρ' j).1=(ρ j).1)∧∀p∈l,av bs p.1∧(ρ' p.1).1 = .slice none 0 0
 | [],ρ,σ,bs,r,h=>by
   simp only[Go.Proofs.YtpklefhdkkegiaaGreat.la,Option.some.injEq] at h;subst h;exact⟨ρ,r,fun j hj=>⟨hj,rfl⟩,fun p hp=>by cases hp⟩
 | p :: l,ρ,σ,bs,r,h=>by
   simp only[Go.Proofs.YtpklefhdkkegiaaGreat.la] at h
   split at h
   · rename_i hk;have r1:=r.qG (w':=w) (B:= .own p.2 (fun _=>[]) false) (p:=(.slice none 0 0,fun _=>0)) hk (fun _ _ _=>rfl) (fun _ _=>rfl) (Ext.refl _) rfl (fun x hx=>by simp at hx) (fun x=>by simp) (bc.nil rfl) (by simp);obtain⟨ρ2,r2,g1,g2⟩:=aG.la r1 h;have hne:∀j,av σ.af j→j≠p.1:=fun j hj he=>ir hk (he▸hj);refine⟨ρ2,r2,fun j hj=> ?_,fun q hq=> ?_⟩
     · obtain⟨f1,f2⟩:=g1 j (fb.2 (.inr hj));exact⟨f1,by rw[f2,cL (hne j hj)]⟩
     · rcases List.mem_cons.1 hq with rfl | hq
       · obtain⟨f1,f2⟩:=g1 q.1 (fb.2 (.inl rfl));exact⟨f1,by rw[f2,db]⟩
       · exact g2 q hq
   · cases h
end
section
variable {H : Hp} {ρ ρ' : aF} {D D' : Nat → Prop} (hg : ∀ k, D k → D' k ∧ (ρ' k).1 = (ρ k).1)
include hg
theorem Fg {s:Sh} {c c':C} {kk:Nat} {l:List (Nat × an)} {v:Value} (h:sF s c kk=(c',l)) (hl:∀p∈l,D' p.1∧(ρ' p.1).1 = .slice none 0 0) (hv:RC H ρ D c v):RC H ρ' D' c' v:=by
 unfold sF at h
 split at h
 · cases h;have:=hl _ List.mem_cons_self;simp only[RC] at hv;exact⟨this.1,by rw[hv,this.2]⟩
 · cases h;exact hv.grow ⟨fun _ _ h=>h,hg⟩
theorem AG:∀{ss:List Sh} {cs jD:List C} {kk:Nat} {l:List (Nat × an)},mZ ss cs kk=(jD,l)→(∀p∈l,D' p.1∧(ρ' p.1).1 = .slice none 0 0)→
   jD.length=cs.length∧∀(j:Nat) c',jD[j]? = some c'→∃c,cs[j]? = some c∧∀v,RC H ρ D c v→RC H ρ' D' c' v
 | [],cs,jD,kk,l,h,_=>by
   simp only[mZ,Prod.mk.injEq] at h;obtain⟨rfl,rfl⟩:=h;exact⟨rfl,fun j c' hj=>⟨c',hj,fun v hv=>hv.grow ⟨fun _ _ h=>h,hg⟩⟩⟩
 | _ ::_,[],jD,kk,l,h,_=>by
   simp only[mZ,Prod.mk.injEq] at h;obtain⟨rfl,rfl⟩:=h;exact⟨rfl,fun j c' hj=>by simp at hj⟩
 | s ::ss,c::cs,jD,kk,l,h,hl=>by
   cases h1:sF s c kk with
   | mk c1 l1=>
   cases h2:mZ ss cs (kk+1) with
   | mk DR l2=>
   simp only[mZ,h1,h2,Prod.mk.injEq] at h;obtain⟨rfl,rfl⟩:=h;obtain⟨g1,g2⟩:=AG h2 fun p hp=>hl p (List.mem_append_right _ hp);refine⟨by simp[g1],fun j c' hj=> ?_⟩;cases j with
   | zero=>simp at hj; subst hj; exact⟨c,rfl,fun v hv=>Fg hg h1 (fun p hp=>hl p (List.mem_append_left _ hp)) hv⟩
   | succ j=>simpa using g2 j c' (by simpa using hj)
theorem Fh:∀{ps:List (Bool × List Sh)} {qs pP:List (Bool × List C)} {kk:Nat} {l:List (Nat × an)},pM ps qs kk=(pP,l)→(∀p∈l,D' p.1∧(ρ' p.1).1 = .slice none 0 0)→
   pP.length=qs.length∧∀(j:Nat) q',pP[j]? = some q'→∃q,qs[j]? = some q∧∀v,RT H ρ D q v→RT H ρ' D' q' v
 | [],qs,pP,kk,l,h,_=>by
   simp only[pM,Prod.mk.injEq] at h;obtain⟨rfl,rfl⟩:=h;exact⟨rfl,fun j c' hj=>⟨c',hj,fun v hv=>hv.grow ⟨fun _ _ h=>h,hg⟩⟩⟩
 | _ ::_,[],pP,kk,l,h,_=>by
   simp only[pM,Prod.mk.injEq] at h;obtain⟨rfl,rfl⟩:=h;exact⟨rfl,fun j c' hj=>by simp at hj⟩
 | p :: ps,q::qs,pP,kk,l,h,hl=>by
   cases h1:mZ p.2 q.2 kk with
   | mk c1 l1=>
   cases h2:pM ps qs (kk+100) with
   | mk DR l2=>
   simp only[pM,h1,h2,Prod.mk.injEq] at h;obtain⟨rfl,rfl⟩:=h;obtain⟨g1,g2⟩:=Fh h2 fun p hp=>hl p (List.mem_append_right _ hp);refine⟨by simp[g1],fun j q' hj=> ?_⟩;cases j with
   | zero=>
     simp at hj; subst hj;refine⟨q,rfl,fun v hv=> ?_⟩;obtain⟨f1,f2⟩:=AG hg h1 fun p hp=>hl p (List.mem_append_left _ hp);obtain⟨b,cs⟩:=q;cases b with
     | true=>
       obtain⟨vs,e1,e2⟩:=hv;refine⟨vs,e1,by rw[e2.1]; exact f1.symm,fun i c' hi=> ?_⟩;obtain⟨c,hc,ke⟩:=f2 i c' hi;exact ke _ (e2.2 i c hc)
     | false=>
       obtain⟨c,e1,e2⟩:=hv;simp only at e1 f1 f2;subst e1;obtain⟨c',hR⟩:∃c',c1 = [c']:=List.length_eq_one_iff.1 (by simpa using f1);refine⟨c',hR, ?_⟩;obtain⟨c0,gv,ke⟩:=f2 0 c' (by rw[hR]; rfl);simp at gv;subst gv;exact ke _ e2
   | succ j=>simpa using g2 j q' (by simpa using hj)
theorem AH {s:cN} {v v':V} {kk:Nat} {l:List (Nat × an)} {x:Value} (h:pO s v kk=(v',l)) (hl:∀p∈l,D' p.1∧(ρ' p.1).1 = .slice none 0 0) (hv:RV H ρ D v x):RV H ρ' D' v' x:=by
 unfold pO at h
 split at h
 · rename_i s c;cases h1:sF s c kk with
   | mk c1 l1=>
   simp only[h1,Prod.mk.injEq] at h;obtain⟨rfl,rfl⟩:=h;exact Fg hg h1 hl hv
 · rename_i ss cs;cases h1:mZ ss cs kk with
   | mk c1 l1=>
   simp only[h1,Prod.mk.injEq] at h;obtain⟨rfl,rfl⟩:=h;obtain⟨f1,f2⟩:=AG hg h1 hl;obtain⟨vs,e1,e2⟩:=hv;refine⟨vs,e1,by rw[e2.1]; exact f1.symm,fun i c' hi=> ?_⟩;obtain⟨c,hc,ke⟩:=f2 i c' hi;exact ke _ (e2.2 i c hc)
 · rename_i ps qs;cases h1:pM ps qs kk with
   | mk c1 l1=>
   simp only[h1,Prod.mk.injEq] at h;obtain⟨rfl,rfl⟩:=h;obtain⟨f1,f2⟩:=Fh hg h1 hl;obtain⟨vs,e1,e2,e3⟩:=hv;refine⟨vs,e1,by rw[e2,f1],fun i q' hi=> ?_⟩;obtain⟨q,hq,LG⟩:=f2 i q' hi;exact LG _ (e3 i q hq)
 · cases h;exact hv.grow ⟨fun _ _ h=>h,hg⟩
end
section
variable {P : Program} {tab : aX} (hT : eC P tab = true) {Γ : Ctx} {H : Hp} {ρ : aF} {σ : SS} {a : Act} {w : World} (r : aG Γ H ρ σ a w)
include hT r
omit hT r in
theorem AI {kp:List (Nat × dw)} {l:List (Nat × Nat)}:∀p∈kp,(p.1,p.1)∈gJ (gI kp) l:=by
 induction kp with
 | nil=>intro p hp; cases hp
 | cons q kp ih=>
   intro p hp;rcases List.mem_cons.1 hp with rfl | hp
   · exact List.mem_cons_self
   · exact List.mem_cons_of_mem _ (ih p hp)
theorem LH (bC:Γ.hd = []) {fn:Func} {s:cN} {kp:List (Nat × dw)} (h:uO tab fn.results.toList s kp σ) :
   ∃ v,(results fn a.tmps).run P w = .ok v w∧∃H' ρ',fl w.heap Γ.H0 H' ρ' (gZ s kp)∧RV eP ρ' (av (gZ s kp)) (kx s) v∧∀p∈kp,av σ.af p.1→(ρ' p.1).1=(ρ p.1).1:=by
 unfold uO at h
 split at h
 · rename_i rv qI;obtain⟨v,hv,pQ⟩:=wz hT r qI;cases hm:pO s rv 9000000 with
   | mk uP l=>
   rw[hm] at h;simp only at h
   split at h
   · rename_i bs oy
     split at h
     · rename_i out uQ
       split at h
       · rename_i hc;obtain⟨jM,uR,eJ⟩:=hc;obtain⟨ρ1,r1,f1,f2⟩:=r.closeAll bC (ks:=σ.af.map (·.1));obtain⟨ρ2,r2,f3,f4⟩:=aG.la (σ:={σ with af:=Go.Proofs.YtpklefhdkkegiaaGreat.closeAll (σ.af.map (·.1)) σ.af}) r1 oy
         have hg:∀k,av σ.af k→av bs k∧(ρ2 k).1=(ρ k).1:=fun k hk=>by
           obtain⟨q1,q2⟩:=f3 k (by show av (Go.Proofs.YtpklefhdkkegiaaGreat.closeAll (σ.af.map (·.1)) σ.af) k; rw[f2]; exact hk);exact⟨q1,by rw[q2,f1]⟩
         have gq:=AH hg hm f4 hv;obtain⟨rb,uS,fH⟩:=fl.mJ uQ jM uR r2.b;have uT:=gq.dv uS;obtain⟨uU,mO,gb⟩:=oz h;obtain⟨_,uV⟩:=xt uU;have jz:av (gZ s kp)=av out:=by funext k; simp only[av,mO]
         refine⟨v,pQ,H,_,rb.as mO gb, ?_,fun p hp=> ?_⟩
         · rw[jz];exact uV (uT.cl eJ)
         · have cM:=AI (l:=gl (dZ uP) 100) p hp;obtain⟨q1,q2⟩:=fH _ _ cM;intro hd;show(ρ2 (inv _ p.1)).1=_;rw[q2,(hg _ hd).2]
       · cases h
     · cases h
   · cases h
 · cases h
end
def lg:List (Nat × ak)→Prop
 | []=>True
 | (_, .own E t _)::r=>((t ()).length≤cm∧∀x∈t (),deep E x)∧lg r
 | (_, .box cs)::r=>xm cs∧lg r
 | _::r=>lg r
theorem AJ {h:Array Obj} {H:Hp} {ρ:aF} {D:Nat→Prop}:∀{bs:List (Nat × ak)},(∀k B,(k,B)∈bs→cD h H ρ D B (ρ k))→lg bs:=by
 intro bs
 induction bs with
 | nil=>intro _; trivial
 | cons p bs ih=>
   intro hb;have h1:=ih fun k B hk=>hb k B (List.mem_cons_of_mem _ hk);have h2:=hb p.1 p.2 List.mem_cons_self;obtain⟨k,B⟩:=p;cases B with
   | dead=>exact h1
   | view E xs=>exact h1
   | mp m=>exact h1
   | bP E xs i fs=>exact h1
   | own E t l=>
     have h3:bc h (.list E t) (ρ k).1 (ρ k).2:=h2;exact⟨(h3.rl (H:=fun b=>h[b]?) fun _ _=>rfl).ok,h1⟩
   | box cs=>
     obtain⟨b,vs,e,fz,_,_,_,_,h4⟩:=h2;exact⟨cG.ok (f:=fun j=>vs.getD j Go.undef) h4.2,h1⟩
def m0 (as:List V) (bs:List (Nat × ak)) (n:Nat):SS:={env:=as++List.replicate (n - as.length) (.c .undef),af:=bs}
def pR (P:Program) (tab:aX) (fr:Bool) (fn:Func) (c:Code) (as:List V) (bs:List (Nat × ak)) (pk:List Nat) (F:SS→Prop):Prop:=
 k8 P tab fr pk c (m0 as bs fn.ntmps) fun e σ=>match e with
  | .normal=>F σ
  | .ret=>F σ
  | _=>False
def xu (tab:aX) (rs:List ResultVar) (X:Type) (φ:X→Prop) (s:X→cN) (kp:X→List (Nat × dw)) (σ:SS):Prop:=∃x:X,φ x∧uO tab rs (s x) (kp x) σ
theorem LI {bs:List (Nat × ak)} {k:Nat} (h:av bs k):∃B,(k,B)∈bs:=by
 obtain⟨⟨k',B⟩,h1,rfl⟩:=List.mem_map.1 h;exact⟨B,h1⟩
theorem LJ {P : Program} {tab : aX} (hT : eC P tab = true) {f : FuncId} {fn : Func} {c : Code} (hf : P.funcs[f]? = some fn) (hb : fn.body = some c) (eM : (fn.name == "runtime.NumGoroutine") = false) {fr : Bool} (d_ : fr = true → fG c = true)
  {as:List V} {bs:List (Nat × ak)} {X:Type} {φ:X→Prop} {s:X→cN} {kp:X→List (Nat × dw)} {pk:List Nat} (fP:∀x,(kp x).map (·.1)=pk) (ix:pk.all (fun k=>(bs.map (·.1)).contains k)=true)
  (aR:(bs.map (·.1)).all (fun k=>decide (k<100))=true)
  (h:jK as→lg bs→pR P tab fr fn c as bs pk (xu tab fn.results.toList X φ s kp)):bY P f as bs fun r b=>∃x,φ x∧r=kx (s x)∧b=gZ (s x) (kp x):=by
 refine⟨⟨fn,hf,eM,by rw[hb]; rfl⟩,fun w vs ρ pS du=> ?_⟩;refine calls_of_wp hf hb ?_
 have uW:∀k∈pk,av bs k:=fun k hk=>by
  have:=List.all_eq_true.1 ix k hk;have:k∈bs.map (·.1):=List.contains_iff_mem.1 this;exact this
 let Γ:Ctx:=⟨eI w (aP ρ bs),[],w,pk.map fun k=>(k,(ρ k).1)⟩
 have r :Rel Γ (m0 as bs fn.ntmps) {tmps:=vs++Array.replicate (fn.ntmps - vs.size) Go.undef,defers:=[]} w:=by
  refine⟨eI w (aP ρ bs),ρ,⟨pS,⟨by simp[m0,du.1],fun j c hj=> ?_⟩,rfl,Ext.refl _,(fun p hp=>by cases hp),fun p hp=> ?_⟩⟩
  · simp only[m0] at hj;rcases Nat.lt_or_ge j as.length with aR | ku
    · rw[List.getElem?_append_left aR] at hj;have:=du.2 j c hj;rw[Array.getD_eq_getD_getElem?,Array.getElem?_append_left (by rw[du.1]; exact aR),←Array.getD_eq_getD_getElem?];exact this
    · rw[List.getElem?_append_right ku,List.getElem?_replicate] at hj
      split at hj
      · cases hj; trivial
      · cases hj
  · obtain⟨k,hk,rfl⟩:=List.mem_map.1 hp;exact⟨uW k hk,rfl⟩
 refine xj hT rfl (pk:=pk) (fun p hp=>by obtain⟨k,hk,rfl⟩:=List.mem_map.1 hp; exact hk) c d_ (h (xn du.2) (AJ fun k B hk=>pS.af k B hk)) r fun e aw a' w' h' r'=> ?_
 have done :xu tab fn.results.toList X φ s kp aw→∃v,(results fn a'.tmps).run P w' = .ok v w'∧∃v' r bX H' ρ',Ending.returned v = .returned v'∧(∃x,φ x∧r=kx (s x)∧bX=gZ (s x) (kp x))∧fl w'.heap (eI w (aP ρ bs)) H' ρ' bX∧
    RV eP ρ' (av bX) r v'∧Ext w w'∧∀k,av bX k→av bs k→(ρ' k).1=(ρ k).1:=fun hf=>by
  obtain⟨x,hx,hf⟩:=hf;obtain⟨H,ρ1,r'⟩:=r';obtain⟨v,h1,H',ρ',h2,h3,h4⟩:=LH hT r' rfl (fn:=fn) hf;refine⟨v,h1,v,_,_,H',ρ',rfl,⟨x,hx,rfl,rfl⟩,h2,h3,r'.n,fun k hk nW=> ?_⟩
  have cM : ∃q∈kp x,q.1=k:=by
    have bw:k∈(gZ (s x) (kp x)).map (·.1):=hk
    have LK:k<100:=by
      have:=List.all_eq_true.1 aR k nW;simpa using this
    have key:∀(l:List (Nat × dw)) (m:List (Nat × ak)),k∈(sE (iz l) m).map (·.1)→(∃q∈l,q.1=k)∨k∈m.map (·.1):=by
      intro l m
      induction l with
      | nil=>intro h; exact .inr h
      | cons q l ih=>
        intro h;simp only[iz,sE,List.map_cons,List.mem_cons] at h;rcases h with h | h
        · exact .inl ⟨q,List.mem_cons_self,h.symm⟩
        · rcases ih h with⟨q',h1,h2⟩ | h1
          · exact .inl ⟨q',List.mem_cons_of_mem _ h1,h2⟩
          · exact .inr h1
    rcases key _ _ bw with h | h
    · exact h
    · have:av (num 100 (s x).bs) k:=h;have:=mA.1 this;omega
  obtain⟨q,hq,rfl⟩:=cM;have uX:q.1∈pk:=by rw[←fP x]; exact List.mem_map.2 ⟨q,hq,rfl⟩
  have pT:=r'.hm (q.1,(ρ q.1).1) (List.mem_map.2 ⟨q.1,uX,rfl⟩);rw[h4 q hq pT.1];exact pT.2
 have l7:a'.defers = []:=by obtain⟨H,ρ,r'⟩:=r'; exact r'.d
 cases e with
 | normal=>obtain⟨v,h1,h2⟩:=done h'; exact⟨l7,v,h1,h2⟩
 | ret=>obtain⟨v,h1,h2⟩:=done h'; exact⟨l7,v,h1,h2⟩
 | exit id=>cases h'
 | goto l=>cases h'
 | panic ch=>cases h'
 | outgrown=>cases h'
def eV (s:cN) (kp:List (Nat × dw)) (r:V) (b:List (Nat × ak)):Prop:=r=kx s∧b=gZ s kp
theorem iB {P : Program} {tab : aX} (hT : eC P tab = true) {f : FuncId} {fn : Func} {c : Code} (hf : P.funcs[f]? = some fn) (hb : fn.body = some c) (eM : (fn.name == "runtime.NumGoroutine") = false) {fr : Bool} (d_ : fr = true → fG c = true)
  {as:List V} {bs:List (Nat × ak)} {s:cN} {kp:List (Nat × dw)} (ix:(kp.map (·.1)).all (fun k=>(bs.map (·.1)).contains k)=true) (aR:(bs.map (·.1)).all (fun k=>decide (k<100))=true)
  (h:∀P',P'=P→jK as→lg bs→pR P' tab fr fn c as bs (kp.map (·.1)) (uO tab fn.results.toList s kp)):bY P f as bs (eV s kp):=by
 have h1:jK as→lg bs→pR P tab fr fn c as bs (kp.map (·.1)) (xu tab fn.results.toList Unit (fun _=>True) (fun _=>s) (fun _=>kp)):=by
  intro hA hB;have h0:=h P rfl hA hB
  have e:xu tab fn.results.toList Unit (fun _=>True) (fun _=>s) (fun _=>kp)=uO tab fn.results.toList s kp:=by
   funext σ
   exact propext ⟨fun⟨_,_,h⟩=>h,fun h=>⟨(),trivial,h⟩⟩
  rw[e]; exact h0
 have h2:=LJ hT hf hb eM d_ (X:=Unit) (φ:=fun _=>True) (s:=fun _=>s) (kp:=fun _=>kp) (pk:=kp.map (·.1)) (fun _=>rfl) ix aR h1;refine⟨h2.1,fun w vs ρ g1 g2=>(h2.2 w vs ρ g1 g2).mono fun e w' he=> ?_⟩;obtain⟨v,r,bX,H',ρ',q1,⟨_,_,q2,q3⟩,q4⟩:=he;exact⟨v,r,bX,H',ρ',q1,⟨q2,q3⟩,q4⟩
theorem aJ.by {P P0:Program} {f:FuncId} {as:List V} {bs:List (Nat × ak)} {K:V→List (Nat × ak)→Prop} {s:cN} {kp:List (Nat × dw)} (hP:P=P0) (h:bY P0 f as bs (eV s kp)) (hk:K (kx s) (gZ s kp)):aJ P f as bs K:=by
 subst hP;exact⟨_,h,fun r b ⟨h1,h2⟩=>by rw[h1,h2]; exact hk⟩
theorem aJ.uM {P P0:Program} {f:FuncId} {as uN:List V} {bs bX:List (Nat × ak)} {K:V→List (Nat × ak)→Prop} {s:cN} {kp:List (Nat × dw)} (hP:P=P0) (h:bY P0 f as bs (eV s kp)) (ha:uN=as) (hb:bX=bs) (hk:K (kx s) (gZ s kp)):aJ P f uN bX K:=by
 subst ha; subst hb;exact aJ.by hP h hk
def Fi:List (Nat × V)→Nat→V
 | [],_=> .c .undef
 | p::r,j=>if p.1=j then p.2 else Fi r j
def de (sl:List (Nat × V)):Nat→Nat→List V
 | _,0=>[]
 | j,n+1=>Fi sl j::de sl (j+1) n
def sH:List V→List V→Prop→Prop
 | [],[],K=>K
 | v ::vs,w::ws,K=>match w with
   | .c .undef=>sH vs ws K
   | w=>mV v w (sH vs ws K)
 | _,_,_=>False
def Fj:C→C→List (Nat × Nat)
 | .own k, .own k'=>[(k,k')]
 | .ptr k _, .ptr k' _=>[(k,k')]
 | _,_=>[]
def AK:List C→List C→List (Nat × Nat)
 | c::cs,d::ds=>Fj c d++AK cs ds
 | _,_=>[]
def LL:V→V→List (Nat × Nat)
 | .c x, .c y=>Fj x y
 | .agg xs, .agg ys=>AK xs ys
 | _,_=>[]
def AL:List V→List V→List (Nat × Nat)
 | v::vs,w::ws=>LL v w++AL vs ws
 | _,_=>[]
def Fk (bs tb:List (Nat × ak)):List (Nat × Nat)→List (Nat × Nat)
 | []=>[]
 | p::r=>(match aL bs p.1,aL tb p.2 with | some (.box cs),some (.box ds)=>AK cs ds | _,_=>[])++Fk bs tb r
def Fl (tb:List (Nat × ak)):Nat→List V→List V→List pC
 | j,v::vs,w::ws=>(match v,w with
   | .c .nil, .c (.own k)=>(match aL tb k with | some (.own E _ _)=>[.env j E (9000000+k)] | _=>[])
   | _,_=>[])++Fl tb (j+1) vs ws
 | _,_,_=>[]
def Fm (tb:List (Nat × ak)) (bk:Nat):Nat→List C→List C→List pC
 | j,c::cs,d::ds=>(match c,d with
   | .nil, .own k=>(match aL tb k with | some (.own E _ _)=>[.box bk j E (9000000+k)] | _=>[])
   | _,_=>[])++Fm tb bk (j+1) cs ds
 | _,_,_=>[]
def Fo (bs tb:List (Nat × ak)):List (Nat × Nat)→List pC
 | []=>[]
 | p::r=>(match aL bs p.1,aL tb p.2 with | some (.box cs),some (.box ds)=>Fm tb p.1 0 cs ds | _,_=>[])++Fo bs tb r
def Fp:List (Nat × Nat)→Nat→Option Nat
 | [],_=>none
 | p::r,k=>if p.2=k then some p.1 else Fp r k
def AM (pr:List (Nat × Nat)):List (Nat × ak)→List (Nat × Nat)
 | []=>[]
 | q::r=>match Fp pr q.1 with | some k=>(k,q.1)::AM pr r | none=>AM pr r
def AN:Nat→List V→List Nat
 | _,[]=>[]
 | j,v::vs=>match v with | .c .undef=>AN (j+1) vs | _=>j::AN (j+1) vs
def LM (σ τ:SS):Norm:=
 let ms:=Fl τ.af 0 σ.env τ.env++Fo σ.af τ.af (AL σ.env τ.env)
 match σ.oh ms with
 | some cA=>
   let p1:=AL cA.env τ.env
   { ms:=ms,L:=AN 0 τ.env,nm:=AM (p1++Fk cA.af τ.af p1) τ.af}
 | none=>{ms:=[],L:=[],nm:=[]}
def sI:List (Nat × ak)→List (Nat × ak)→Prop→Prop
 | [],[],K=>K
 | p ::ps,q::qs,K=>
   if p.1=q.1 then
    match p.2,q.2 with
    | .bP E' t i' ph, .bP E x i fs=>iU (fun _=>ak.bP E' t i' ph=ak.bP E x i fs) (sI ps qs K)
    | B,B'=>l8 [(p.1,B)] [(p.1,B')] (sI ps qs K)
   else False
 | _,_,_=>False
theorem Fq:∀{ps qs:List (Nat × ak)} {K:Prop},sI ps qs K→K∧qs.map (·.1)=ps.map (·.1)∧∀k B',(k,B')∈qs→∃B,(k,B)∈ps∧
   (∀{h:Array Obj} {H:Hp} {ρ:aF} {D:Nat→Prop} {p:Value × (Nat→Nat)},cD h H ρ D B p→cD h H ρ D B' p)∧∀(p:Value × (Nat→Nat)) x,fa B' p x→fa B p x
 | [],[],K,h=>⟨h,rfl,fun k B' hk=>by cases hk⟩
 | [],_::_,K,h=>by cases h
 | _::_,[],K,h=>by cases h
 | (k, A)::ps,(k',A')::qs,K,h=>by
   have fin:∀(h:sI ps qs K),(∀{h:Array Obj} {H:Hp} {ρ:aF} {D:Nat→Prop} {p:Value × (Nat→Nat)},cD h H ρ D A p→cD h H ρ D A' p)→(∀(p:Value × (Nat→Nat)) x,fa A' p x→fa A p x)→k=k'→
       K ∧((k',A')::qs).map (·.1)=((k,A)::ps).map (·.1)∧∀j B',(j,B')∈(k',A')::qs→∃B,(j,B)∈(k,A)::ps∧
   (∀ {h:Array Obj} {H:Hp} {ρ:aF} {D:Nat→Prop} {p:Value × (Nat→Nat)},cD h H ρ D B p→cD h H ρ D B' p)∧∀(p:Value × (Nat→Nat)) x,fa B' p x→fa B p x:=fun hh g1 g2 hk=>by
     obtain⟨h2,h3,h4⟩:=Fq hh;clear h;subst hk;refine⟨h2,by simp[h3],fun j B' hj=> ?_⟩;rcases List.mem_cons.1 hj with hj | hj
     · cases hj; exact⟨_,List.mem_cons_self,g1,g2⟩
     · obtain⟨B,q1,q2⟩:=h4 j B' hj; exact⟨B,List.mem_cons_of_mem _ q1,q2⟩
   unfold sI at h
   split at h
   · rename_i hk
     split at h
     · rename_i Fs Ft;obtain⟨h1,h⟩:=h;simp only at Fs Ft;subst Fs Ft;rw[h1] at fin ⊢;exact fin h (fun h=>h) (fun _ _ h=>h) hk
     · obtain⟨h,h2,h3⟩:=oz h;obtain⟨B,g1,g2,g3⟩:=h3 k A' List.mem_cons_self;cases List.mem_singleton.1 g1;exact fin h g2 g3 hk
   · cases h
def gx (pk:List Nat) (σ τ:SS):Prop:=
 match σ.norm pk (LM σ τ) with
 | some aw=>sH aw.env τ.env (sI aw.af τ.af True)
 | none=>False
theorem Fu:∀{vs ws:List V} {K:Prop},sH vs ws K→K∧vs.length=ws.length∧∀{H:Hp} {ρ:aF} {D:Nat→Prop} {j:Nat} {w:V},ws[j]? = some w→∃v,vs[j]? = some v∧∀{x:Value},RV H ρ D v x→RV H ρ D w x
 | [],[],K,h=>⟨h,rfl,fun hj=>by simp at hj⟩
 | [],_::_,K,h=>by cases h
 | _::_,[],K,h=>by cases h
 | v :: vs,w::ws,K,h=>by
   have step:∀{K':Prop},sH vs ws K→(∀{H:Hp} {ρ:aF} {D:Nat→Prop} {x:Value},RV H ρ D v x→RV H ρ D w x)→
      K ∧(v::vs).length=(w::ws).length∧∀{H:Hp} {ρ:aF} {D:Nat→Prop} {j:Nat} {w':V},(w::ws)[j]? = some w'→∃v',(v::vs)[j]? = some v'∧∀{x:Value},RV H ρ D v' x→RV H ρ D w' x:=by
     intro _ h1 h2;obtain⟨h3,h4,h5⟩:=Fu h1;refine⟨h3,by simp[h4],fun {H ρ D j e} hj=> ?_⟩;cases j with
     | zero=>simp at hj; subst hj; exact⟨v,rfl,h2⟩
     | succ j=>simpa using h5 (by simpa using hj)
   simp only[sH] at h
   split at h
   · exact step (K':=True) h fun _=>trivial
   · obtain⟨h1,h2⟩:=xt h;exact step (K':=True) h1 h2
theorem ky {pk:List Nat} {σ τ:SS} (h:gx pk σ τ):Sub pk σ τ:=by
 intro Γ a w bC fP r;unfold gx at h
 split at h
 · rename_i aw hn;obtain⟨H,ρ,r'⟩:=r.norm bC fP hn;obtain⟨h1,h2,h3⟩:=Fu h;obtain⟨_,h4,h5⟩:=Fq h1;have jz:av τ.af=av aw.af:=by funext k; simp only[av,h4]
   refine⟨H,ρ,r'.b.as h4 h5,⟨by rw[r'.e.size,h2],fun j c hj=> ?_⟩,r'.d,r'.n,fun p hp=> ?_,fun p hp=> ?_⟩
   · rw[jz];obtain⟨v,hv,hi⟩:=h3 hj;exact hi (r'.e.get j v hv)
   · rw[jz]; exact r'.hd p hp
   · rw[jz]; exact r'.hm p hp
 · cases h
theorem aW.by {pk:List Nat} {σ:SS} {R:SS→(SS→Prop)→Prop} {X:Type} (sl:X→List (Nat × V)) (bl:X→List (Nat × ak)) (φ:X→Prop) (m:X→Unit→Nat) (x0:X) (h0:φ x0)
  (hn:gx pk σ {env:=de (sl x0) 0 σ.env.length,af:=bl x0})
  (hr:∀x,φ x→R {env:=de (sl x) 0 σ.env.length,af:=bl x} fun aw=>aO pk X (fun x=>{env:=de (sl x) 0 σ.env.length,af:=bl x}) φ m (m x) aw):aW pk σ R:=
 ⟨X,_,φ,m,x0,h0,ky hn,hr⟩
theorem aO.by {pk:List Nat} {X:Type} {st:X→SS} {φ:X→Prop} {m:X→Unit→Nat} {n:Unit→Nat} {σ:SS} (x:X) (hm:m x ()<n ()) (w6:φ x) (hn:gx pk σ (st x)):aO pk X st φ m n σ:=⟨x,hm,w6,ky hn⟩
theorem ko.Fv {pk:List Nat} {σ:SS} {R:SS→Prop} {A:Type} (n:Nat) (he:σ.env.length=n) (sl:A→List (Nat × V)) (bl:A→List (Nat × ak)) (φ:A→Prop) (a:A)
  (hn:gx pk σ {env:=de (sl a) 0 n,af:=bl a}) (h0:φ a) (hr:∀a,φ a→R {env:=de (sl a) 0 n,af:=bl a}):ko pk σ R:=
 ⟨A,fun x=>{env:=de (sl x) 0 n,af:=bl x},fun x=>φ x,a,h0,ky hn,fun x hx=>hr x hx⟩
theorem ko.rh {pk:List Nat} {σ:SS} {R:SS→Prop} {A B:Type} (n:Nat) (he:σ.env.length=n) (sl:A→B→List (Nat × V)) (bl:A→B→List (Nat × ak)) (φ:A→B→Prop) (a:A) (b:B)
  (hn:gx pk σ {env:=de (sl a b) 0 n,af:=bl a b}) (h0:φ a b) (hr:∀a b,φ a b→R {env:=de (sl a b) 0 n,af:=bl a b}):ko pk σ R:=
 ⟨A × B,fun x=>{env:=de (sl x.1 x.2) 0 n,af:=bl x.1 x.2},fun x=>φ x.1 x.2,(a,b),h0,ky hn,fun x hx=>hr x.1 x.2 hx⟩
theorem ko.Fw {pk:List Nat} {σ:SS} {R:SS→Prop} {A B C:Type} (n:Nat) (he:σ.env.length=n) (sl:A→B→C→List (Nat × V)) (bl:A→B→C→List (Nat × ak)) (φ:A→B→C→Prop) (a:A) (b:B) (c:C)
  (hn:gx pk σ {env:=de (sl a b c) 0 n,af:=bl a b c}) (h0:φ a b c) (hr:∀a b c,φ a b c→R {env:=de (sl a b c) 0 n,af:=bl a b c}):ko pk σ R:=
 ⟨A × B × C,fun x=>{env:=de (sl x.1 x.2.1 x.2.2) 0 n,af:=bl x.1 x.2.1 x.2.2},fun x=>φ x.1 x.2.1 x.2.2,(a,b,c),h0,ky hn,fun x hx=>hr x.1 x.2.1 x.2.2 hx⟩
theorem ko.AO {pk:List Nat} {σ:SS} {R:SS→Prop} {A B C D:Type} (n:Nat) (he:σ.env.length=n) (sl:A→B→C→D→List (Nat × V)) (bl:A→B→C→D→List (Nat × ak)) (φ:A→B→C→D→Prop) (a:A) (b:B) (c:C) (d:D)
  (hn:gx pk σ {env:=de (sl a b c d) 0 n,af:=bl a b c d}) (h0:φ a b c d) (hr:∀a b c d,φ a b c d→R {env:=de (sl a b c d) 0 n,af:=bl a b c d}):ko pk σ R:=
 ⟨A × B × C × D,fun x=>{env:=de (sl x.1 x.2.1 x.2.2.1 x.2.2.2) 0 n,af:=bl x.1 x.2.1 x.2.2.1 x.2.2.2},fun x=>φ x.1 x.2.1 x.2.2.1 x.2.2.2,(a,b,c,d),h0,ky hn,fun x hx=>hr x.1 x.2.1 x.2.2.1 x.2.2.2 hx⟩
theorem ko.AP {pk:List Nat} {σ:SS} {R:SS→Prop} {A B C D E:Type} (n:Nat) (he:σ.env.length=n) (sl:A→B→C→D→E→List (Nat × V)) (bl:A→B→C→D→E→List (Nat × ak)) (φ:A→B→C→D→E→Prop) (a:A) (b:B) (c:C) (d:D) (e:E)
  (hn:gx pk σ {env:=de (sl a b c d e) 0 n,af:=bl a b c d e}) (h0:φ a b c d e) (hr:∀a b c d e,φ a b c d e→R {env:=de (sl a b c d e) 0 n,af:=bl a b c d e}):ko pk σ R:=
 ⟨A × B × C × D × E,fun x=>{env:=de (sl x.1 x.2.1 x.2.2.1 x.2.2.2.1 x.2.2.2.2) 0 n,af:=bl x.1 x.2.1 x.2.2.1 x.2.2.2.1 x.2.2.2.2},fun x=>φ x.1 x.2.1 x.2.2.1 x.2.2.2.1 x.2.2.2.2,(a,b,c,d,e),h0,ky hn,fun x hx=>hr x.1 x.2.1 x.2.2.1 x.2.2.2.1 x.2.2.2.2 hx⟩
theorem ko.Fx {pk:List Nat} {σ:SS} {R:SS→Prop} {A B C D E F:Type} (n:Nat) (he:σ.env.length=n) (sl:A→B→C→D→E→F→List (Nat × V)) (bl:A→B→C→D→E→F→List (Nat × ak)) (φ:A→B→C→D→E→F→Prop) (a:A) (b:B) (c:C) (d:D) (e:E) (f:F)
  (hn:gx pk σ {env:=de (sl a b c d e f) 0 n,af:=bl a b c d e f}) (h0:φ a b c d e f) (hr:∀a b c d e f,φ a b c d e f→R {env:=de (sl a b c d e f) 0 n,af:=bl a b c d e f}):ko pk σ R:=
 ⟨A × B × C × D × E × F,fun x=>{env:=de (sl x.1 x.2.1 x.2.2.1 x.2.2.2.1 x.2.2.2.2.1 x.2.2.2.2.2) 0 n,af:=bl x.1 x.2.1 x.2.2.1 x.2.2.2.1 x.2.2.2.2.1 x.2.2.2.2.2},fun x=>φ x.1 x.2.1 x.2.2.1 x.2.2.2.1 x.2.2.2.2.1 x.2.2.2.2.2,(a,b,c,d,e,f),h0,ky hn,fun x hx=>hr x.1 x.2.1 x.2.2.1 x.2.2.2.1 x.2.2.2.2.1 x.2.2.2.2.2 hx⟩
def pU (m:List (Nat × Nat)):List (Bool × List C)→List (Bool × List C)
 | []=>[]
 | p::r=>(p.1,kW m p.2)::pU m r
def V.pV (m:List (Nat × Nat)):V→V
 | .ba ps=> .ba (pU m ps)
 | v=>v.dv m
section
variable {H : Hp} {ρ ρ' : aF} {D D' : Nat → Prop} {m : List (Nat × Nat)}
theorem Fy:∀{cs:List (Bool × List C)} {j:Nat} {p:Bool × List C},(pU m cs)[j]? = some p→∃p0,cs[j]? = some p0∧p=(p0.1,kW m p0.2)
 | [],j,p,h=>by simp[pU] at h
 | c0::cs,0,p,h=>by simp[pU] at h; exact⟨c0,rfl,h.symm⟩
 | c0::cs,j+1,p,h=>by simp only[pU,List.getElem?_cons_succ] at h ⊢; exact Fy h
theorem Fz:∀{cs:List (Bool × List C)},(pU m cs).length=cs.length
 | []=>rfl
 | c::cs=>by simp[pU,Fz (cs:=cs)]
theorem RV.pV (hm:∀k k',lk m k=some k'→D' k'∧(ρ' k').1=(ρ k).1) {c:V} {v:Value} (h:RV H ρ D c v):RV H ρ' D' (c.pV m) v:=by
 cases c with
 | c x=>exact RV.dv hm (c:= .c x) h
 | agg cs=>exact RV.dv hm (c:= .agg cs) h
 | ba cs=>
   obtain⟨vs,h1,h2,h3⟩:=h;refine⟨vs,h1,by rw[h2,Fz],fun j p hj=> ?_⟩;obtain⟨p0,g1,rfl⟩:=Fy hj;have h4:=h3 j p0 g1;obtain⟨b,AQ⟩:=p0;cases b with
   | true=>
     obtain⟨us,q1,q2⟩:=h4;exact⟨us,q1,q2.dv hm⟩
   | false=>
     obtain⟨c,q1,q2⟩:=h4;have q1:AQ = [c]:=q1;subst q1;exact⟨c.dv m,rfl,q2.dv hm⟩
end
def l9:List Sh→List C→List C
 | [],cs=>cs
 | _::_,[]=>[]
 | s::ss,c::cs=>(match s with | .any=> .undef | _=>c)::l9 ss cs
def pW:List (Bool × List Sh)→List (Bool × List C)→List (Bool × List C)
 | p::ps,q::qs=>(q.1,l9 p.2 q.2)::pW ps qs
 | _,qs=>qs
def xv (s:cN) (v:V):V:=
 match s,v with
 | .ba ps, .ba qs=> .ba (pW ps qs)
 | _,v=>v
section
variable {H : Hp} {ρ : aF} {D : Nat → Prop}
theorem FA:∀{ss:List Sh} {cs:List C},(l9 ss cs).length=cs.length
 | [],cs=>rfl
 | _::_,[]=>rfl
 | s::ss,c::cs=>by simp[l9,FA (ss:=ss) (cs:=cs)]
theorem FB:∀{ss:List Sh} {cs:List C} {j:Nat} {c:C},(l9 ss cs)[j]? = some c→∃c0,cs[j]? = some c0∧(c=c0∨c = .undef)
 | [],cs,j,c,h=>⟨c,h, .inl rfl⟩
 | _::_,[],j,c,h=>by simp[l9] at h
 | s ::ss,c0::cs,0,c,h=>by
   simp only[l9,List.getElem?_cons_zero,Option.some.injEq] at h;refine⟨c0,rfl, ?_⟩;subst h
   split
   · exact .inr rfl
   · exact .inl rfl
 | s ::ss,c0::cs,j+1,c,h=>by
   simp only[l9,List.getElem?_cons_succ] at h ⊢;exact FB h
theorem FC:∀{ps:List (Bool × List Sh)} {qs:List (Bool × List C)},(pW ps qs).length=qs.length
 | [],qs=>by cases qs <;> rfl
 | _::_,[]=>rfl
 | p::ps,q::qs=>by simp[pW,FC (ps:=ps) (qs:=qs)]
theorem FD:∀{ps:List (Bool × List Sh)} {qs:List (Bool × List C)} {j:Nat} {q:Bool × List C},(pW ps qs)[j]? = some q→∃q0 ss,qs[j]? = some q0∧(q=q0∨q=(q0.1,l9 ss q0.2))
 | [],qs,j,q,h=>⟨q,[],by cases qs <;> exact h, .inl rfl⟩
 | _::_,[],j,q,h=>by simp[pW] at h
 | p ::ps,q0::qs,0,q,h=>by
   simp only[pW,List.getElem?_cons_zero,Option.some.injEq] at h;exact⟨q0,p.2,rfl, .inr h.symm⟩
 | p ::ps,q0::qs,j+1,q,h=>by
   simp only[pW,List.getElem?_cons_succ] at h ⊢;exact FD h
theorem cG.mask {ss:List Sh} {cs:List C} {vs:Array Value} (h:cG H ρ D cs vs):cG H ρ D (l9 ss cs) vs:=by
 refine⟨by rw[FA]; exact h.1,fun j c hj=> ?_⟩;obtain⟨c0,h1,h2⟩:=FB hj;rcases h2 with rfl | rfl
 · exact h.2 j _ h1
 · trivial
theorem RV.mask {s:cN} {c:V} {v:Value} (h:RV H ρ D c v):RV H ρ D (xv s c) v:=by
 unfold xv
 split
 · rename_i ps qs;obtain⟨vs,h1,h2,h3⟩:=h;refine⟨vs,h1,by rw[h2,FC],fun j q hj=> ?_⟩;obtain⟨q0,ss,g1,g2⟩:=FD hj;have h4:=h3 j q0 g1;rcases g2 with rfl | rfl
   · exact h4
   · obtain⟨b,AQ⟩:=q0;cases b with
     | true=>
       obtain⟨us,q1,q2⟩:=h4;exact⟨us,q1,q2.mask⟩
     | false=>
       obtain⟨c,q1,q2⟩:=h4;have q1:AQ = [c]:=q1;subst q1;cases ss with
       | nil=>exact⟨c,rfl,q2⟩
       | cons s ss=>
         refine⟨_,by simp only[l9]; cases ss <;> rfl, ?_⟩
         split
         · trivial
         · exact q2
 · exact h
end
def AR (tab :aX) (rs:List ResultVar) (s:cN) (kp:List (Nat × dw)) (σ:SS):Prop:=
 match rS tab σ rs with
 | some r0 =>
   match pO s (xv s r0) 9000000 with
   | (r', l)=>
     match la l (closeAll (σ.af.map (·.1)) σ.af) with
     | some bs=>
       match mR bs (gJ (gI kp) (gl (dZ r') 100)) (gJ (gI kp) (gl (dZ r') 100)) with
       | some out=>
         if dL ((gJ (gI kp) (gl (dZ r') 100)).map (·.1))=true∧dL ((gJ (gI kp) (gl (dZ r') 100)).map (·.2))=true∧(r'.pV (gJ (gI kp) (gl (dZ r') 100))).cl=true then
          l8 out (gZ s kp) (mV (r'.pV (gJ (gI kp) (gl (dZ r') 100))) (kx s) True)
         else False
       | none=>False
     | none=>False
 | none=>False
section
variable {P : Program} {tab : aX} (hT : eC P tab = true) {Γ : Ctx} {H : Hp} {ρ : aF} {σ : SS} {a : Act} {w : World} (r : aG Γ H ρ σ a w)
include hT r
theorem LN (bC:Γ.hd = []) {fn:Func} {s:cN} {kp:List (Nat × dw)} (h:AR tab fn.results.toList s kp σ) :
   ∃ v,(results fn a.tmps).run P w = .ok v w∧∃H' ρ',fl w.heap Γ.H0 H' ρ' (gZ s kp)∧RV eP ρ' (av (gZ s kp)) (kx s) v∧∀p∈kp,av σ.af p.1→(ρ' p.1).1=(ρ p.1).1:=by
 unfold AR at h
 split at h
 · rename_i rv qI;obtain⟨v,hv,pQ⟩:=wz hT r qI;cases hm:pO s (xv s rv) 9000000 with
   | mk uP l=>
   rw[hm] at h;simp only at h
   split at h
   · rename_i bs oy
     split at h
     · rename_i out uQ
       split at h
       · rename_i hc;obtain⟨jM,uR,eJ⟩:=hc;obtain⟨ρ1,r1,f1,f2⟩:=r.closeAll bC (ks:=σ.af.map (·.1));obtain⟨ρ2,r2,f3,f4⟩:=aG.la (σ:={σ with af:=Go.Proofs.YtpklefhdkkegiaaGreat.closeAll (σ.af.map (·.1)) σ.af}) r1 oy
         have hg:∀k,av σ.af k→av bs k∧(ρ2 k).1=(ρ k).1:=fun k hk=>by
           obtain⟨q1,q2⟩:=f3 k (by show av (Go.Proofs.YtpklefhdkkegiaaGreat.closeAll (σ.af.map (·.1)) σ.af) k; rw[f2]; exact hk);exact⟨q1,by rw[q2,f1]⟩
         have gq:=AH hg hm f4 (RV.mask (s:=s) hv);obtain⟨rb,uS,fH⟩:=fl.mJ uQ jM uR r2.b;have uT:=RV.pV uS gq;obtain⟨uU,mO,gb⟩:=oz h;obtain⟨_,uV⟩:=xt uU;have jz:av (gZ s kp)=av out:=by funext k; simp only[av,mO]
         refine⟨v,pQ,H,_,rb.as mO gb, ?_,fun p hp=> ?_⟩
         · rw[jz];exact uV (uT.cl eJ)
         · have cM:=AI (l:=gl (dZ uP) 100) p hp;obtain⟨q1,q2⟩:=fH _ _ cM;intro hd;show(ρ2 (inv _ p.1)).1=_;rw[q2,(hg _ hd).2]
       · cases h
     · cases h
   · cases h
 · cases h
end
def AS (tab:aX) (rs:List ResultVar) (X:Type) (φ:X→Prop) (s:X→cN) (kp:X→List (Nat × dw)) (σ:SS):Prop:=∃x:X,φ x∧AR tab rs (s x) (kp x) σ
theorem LO {P : Program} {tab : aX} (hT : eC P tab = true) {f : FuncId} {fn : Func} {c : Code} (hf : P.funcs[f]? = some fn) (hb : fn.body = some c) (eM : (fn.name == "runtime.NumGoroutine") = false) {fr : Bool} (d_ : fr = true → fG c = true)
  {as:List V} {bs:List (Nat × ak)} {X:Type} {φ:X→Prop} {s:X→cN} {kp:X→List (Nat × dw)} {pk:List Nat} (fP:∀x,(kp x).map (·.1)=pk) (ix:pk.all (fun k=>(bs.map (·.1)).contains k)=true)
  (aR:(bs.map (·.1)).all (fun k=>decide (k<100))=true)
  (h:jK as→lg bs→pR P tab fr fn c as bs pk (AS tab fn.results.toList X φ s kp)):bY P f as bs fun r b=>∃x,φ x∧r=kx (s x)∧b=gZ (s x) (kp x):=by
 refine⟨⟨fn,hf,eM,by rw[hb]; rfl⟩,fun w vs ρ pS du=> ?_⟩;refine calls_of_wp hf hb ?_
 have uW:∀k∈pk,av bs k:=fun k hk=>by
  have:=List.all_eq_true.1 ix k hk;have:k∈bs.map (·.1):=List.contains_iff_mem.1 this;exact this
 let Γ:Ctx:=⟨eI w (aP ρ bs),[],w,pk.map fun k=>(k,(ρ k).1)⟩
 have r :Rel Γ (m0 as bs fn.ntmps) {tmps:=vs++Array.replicate (fn.ntmps - vs.size) Go.undef,defers:=[]} w:=by
  refine⟨eI w (aP ρ bs),ρ,⟨pS,⟨by simp[m0,du.1],fun j c hj=> ?_⟩,rfl,Ext.refl _,(fun p hp=>by cases hp),fun p hp=> ?_⟩⟩
  · simp only[m0] at hj;rcases Nat.lt_or_ge j as.length with aR | ku
    · rw[List.getElem?_append_left aR] at hj;have:=du.2 j c hj;rw[Array.getD_eq_getD_getElem?,Array.getElem?_append_left (by rw[du.1]; exact aR),←Array.getD_eq_getD_getElem?];exact this
    · rw[List.getElem?_append_right ku,List.getElem?_replicate] at hj
      split at hj
      · cases hj; trivial
      · cases hj
  · obtain⟨k,hk,rfl⟩:=List.mem_map.1 hp;exact⟨uW k hk,rfl⟩
 refine xj hT rfl (pk:=pk) (fun p hp=>by obtain⟨k,hk,rfl⟩:=List.mem_map.1 hp; exact hk) c d_ (h (xn du.2) (AJ fun k B hk=>pS.af k B hk)) r fun e aw a' w' h' r'=> ?_
 have done :AS tab fn.results.toList X φ s kp aw→∃v,(results fn a'.tmps).run P w' = .ok v w'∧∃v' r bX H' ρ',Ending.returned v = .returned v'∧(∃x,φ x∧r=kx (s x)∧bX=gZ (s x) (kp x))∧fl w'.heap (eI w (aP ρ bs)) H' ρ' bX∧
    RV eP ρ' (av bX) r v'∧Ext w w'∧∀k,av bX k→av bs k→(ρ' k).1=(ρ k).1:=fun hf=>by
  obtain⟨x,hx,hf⟩:=hf;obtain⟨H,ρ1,r'⟩:=r';obtain⟨v,h1,H',ρ',h2,h3,h4⟩:=LN hT r' rfl (fn:=fn) hf;refine⟨v,h1,v,_,_,H',ρ',rfl,⟨x,hx,rfl,rfl⟩,h2,h3,r'.n,fun k hk nW=> ?_⟩
  have cM : ∃q∈kp x,q.1=k:=by
    have bw:k∈(gZ (s x) (kp x)).map (·.1):=hk
    have LK:k<100:=by
      have:=List.all_eq_true.1 aR k nW;simpa using this
    have key:∀(l:List (Nat × dw)) (m:List (Nat × ak)),k∈(sE (iz l) m).map (·.1)→(∃q∈l,q.1=k)∨k∈m.map (·.1):=by
      intro l m
      induction l with
      | nil=>intro h; exact .inr h
      | cons q l ih=>
        intro h;simp only[iz,sE,List.map_cons,List.mem_cons] at h;rcases h with h | h
        · exact .inl ⟨q,List.mem_cons_self,h.symm⟩
        · rcases ih h with⟨q',h1,h2⟩ | h1
          · exact .inl ⟨q',List.mem_cons_of_mem _ h1,h2⟩
          · exact .inr h1
    rcases key _ _ bw with h | h
    · exact h
    · have:av (num 100 (s x).bs) k:=h;have:=mA.1 this;omega
  obtain⟨q,hq,rfl⟩:=cM;have uX:q.1∈pk:=by rw[←fP x]; exact List.mem_map.2 ⟨q,hq,rfl⟩
  have pT:=r'.hm (q.1,(ρ q.1).1) (List.mem_map.2 ⟨q.1,uX,rfl⟩);rw[h4 q hq pT.1];exact pT.2
 have l7:a'.defers = []:=by obtain⟨H,ρ,r'⟩:=r'; exact r'.d
 cases e with
 | normal=>obtain⟨v,h1,h2⟩:=done h'; exact⟨l7,v,h1,h2⟩
 | ret=>obtain⟨v,h1,h2⟩:=done h'; exact⟨l7,v,h1,h2⟩
 | exit id=>cases h'
 | goto l=>cases h'
 | panic ch=>cases h'
 | outgrown=>cases h'
end Go.Proofs.YtpklefhdkkegiaaGreat

