/- Parts of a proof. No conditions. -/

import Derived.Test.YtpklefhdkkegiaaGreatG02
import Derived.Laws.BytesArg
import Derived.OrdersHeld
set_option linter.unusedSimpArgs false
set_option linter.unusedVariables false
namespace Go.Proofs.YtpklefhdkkegiaaGreat
open Go
def SS.rB (σ:SS) (ks:List Nat) (k:Nat) (B:an):SS:={σ with ah:=dA (fR σ.ah ks) k B}
def tE (tab :bh) (o:Oper) (σ:SS) (K:SS→Prop):Prop:=
 match o.op,o.dst with
 | .buildSlice T n parts,some d=>
   match cY tab T,aP σ.ah (8*d) with
   | some (.sl E _ _),none=>
     match w_ σ.ah E (parts.toList.map fun p=>σ.ev p.2) with
     | some (xs,ks)=>if zy 0 parts.toList=true∧parts.toList.length=n∧n*E.sz≤16777216∧eX ks=true then K ((σ.rB ks (8*d) (.own E xs false)).put (some d) (.c (.own (8*d)))) else False
     | none=>False
   | _,_=>False
 | .call c, some d=>
   match c.callee,c.args.toList,c.argTypes.toList with
   | .builtin .len,_,_=>ry tab o σ K
   | .builtin .append,[x,y],[T,T2]=>
     match cY tab T,aP σ.ah (8*d) with
     | some (.sl E _ bytes),none=>
       match qd σ.ah E (σ.ev x),CB tab T2 σ.ah E (σ.ev y) with
       | some (xs,k1),some (ys,k2)=>
         if eX (k1++k2)=true∧0<bytes then
          Ob (fun _=>((xs ()).length+(ys ()).length)*bytes≤140737488355328) fun _=>K ((σ.rB (k1++k2) (8*d) (.own E (fun _=>xs ()++ys ()) false)).put (some d) (.c (.own (8*d))))
         else False
       | _,_=>False
     | _,_=>False
   | _,_,_=>False
 | .makeSlice T l c,some d=>
   match cY tab T,aP σ.ah (8*d),σ.ev l,σ.ev c with
   | some (.sl E _ bytes),none, .c (.lf (.int _ i)), .c (.lf (.int _ j))=>
     if 0<bytes then
       Ob (fun _=>0≤i ()∧i ()≤j ()∧j ()*(bytes:Int)≤140737488355328) fun _=>K ((σ.rB [] (8*d) (.own E (fun _=>List.replicate (i ()).toNat E.mE) false)).put (some d) (.c (.own (8*d))))
     else False
   | _,_,_,_=>False
 | .slice T x lo hi none,some d=>
   match cY tab T,aP σ.ah (8*d),σ.ev x with
   | some (.sl E _ _),none, .c (.own k)=>
     match qd σ.ah E (.c (.own k)) with
     | some (xs,ks)=>
       match p_ (lo.map σ.ev) fun _=>0,p_ (hi.map σ.ev) fun _=>((xs ()).length:Int) with
       | some l,some h=>Ob (fun _=>0≤l ()∧l ()≤h ()∧h ()≤(xs ()).length) fun _=>
          K ((σ.rB ks (8*d) (.own E (fun _=>((xs ()).take (h ()).toNat).drop (l ()).toNat) false)).put (some d) (.c (.own (8*d))))
       | _,_=>False
     | none=>False
   | _,_,_=>False
 | .convert S D x,some d=>
   match cY tab S,cY tab D,σ.ev x with
   | some (.sl .byte e _),some .ss, .c (.own k)=>
     match aP σ.ah k,cY tab e with
     | some (.own E xs _),some (.it .u8)=>(match rC .byte E xs with | some ys=>K (σ.put (some d) (.c (.lf (.str ys)))) | none=>False)
     | _,_=>False
   | _,_,_=>False
 | .store T p v,none=>
   match σ.ev p with
   | .c (.fx k E i off)=>CU tab σ K T k E i off (σ.ev v)
   | _=>ry tab o σ K
 | .load T x,some d=>
   match σ.ev x with
   | .c (.fx k E i off)=>if wX tab T=true then CT tab σ K T d k E i off else False
   | _=>False
 | _,_=>ry tab o σ K
section
variable {P : Program} {tab : bh} (hT : fy P tab = true) {Γ : Ctx} {H : Hp} {ρ : aK} {σ : SS} {a : Act} {w : World} (r : aM Γ H ρ σ a w)
include hT r
omit hT in
theorem uZ {ks:List Nat} (hn:eX ks=true) (hu:gy σ.ah ks=true) {d:Nat} (hk:aP σ.ah (8*d)=none) {E:av} {xs:Unit→List E.α} {v:Value} {p:Nat→Nat} {w':World}
  (hh:∀x,x<w.heap.size→bW ρ ks x=0→w'.heap[x]? = w.heap[x]?) (bq:Ext w w') (cZ:bx w'.heap (.list E xs) v p)
  (hp:∀x,x<w.heap.size→p x≤bW ρ ks x) (cS:∀x,w.heap.size≤x→p x≤1) :
  ∃ ρ,aM Γ H ρ ((σ.rB ks (8*d) (.own E xs false)).put (some d) (.c (.own (8*d)))) (a.put (some d) v) w':=by
 obtain⟨ρ',r1,h1,_⟩:=r.rB hn hu hk (p:=(v,p)) hh bq cZ cZ.one hp cS;exact⟨ρ',aM.put r1 (v:= .c (.own (8*d))) ⟨gx.2 (.inl rfl),h1.symm⟩ (some d)⟩
omit hT in
theorem xb {E:av} {v:V} {xs:Unit→List E.α} {ks:List Nat} {u:Value} (h:qd σ.ah E v=some (xs,ks)) (hv:RV H ρ (ay σ.ah) v u) :
   gy σ.ah ks=true∧bx w.heap (.list E xs) u (bW ρ ks):=by
 unfold qd at h
 split at h
 · cases h;simp only[RV,RC] at hv;subst hv;exact⟨rfl,bx.nil rfl⟩
 · rename_i k
   split at h
   · rename_i E' rF hg
     split at h
     · rename_i ys hc;cases h;obtain⟨_,rfl⟩:=hv;have:=uE r hg;rw[uR hc] at this;refine⟨by simp[gy,hg], ?_⟩;have e:bW ρ [k]=(ρ k).2:=by funext x; simp[bW]
       rw[e]; exact this
     · cases h
   · cases h
 · cases h
omit hT r in
theorem CX {E:av} {xs:Unit→List E.α} {u:Value} {p:Nat→Nat} (ho:bx w.heap (.list E xs) u p):∃news S,jz w E (xs ()) u news S∧∀x,cp (xs ()).length E.sz S x≤p x:=by
 rcases ho.fY with⟨rfl,h0,rfl⟩ | ⟨b,off,c,vs,e,fz,S,rfl,rfl,hb,hf,hl,hm,eM,hs⟩
 · rw[h0]; exact⟨[],_,jz.nil none 0,fun x=>by simp[cp,cd]⟩
 · obtain⟨news,hN⟩:=jz.of (c:=c) hb (by have:=Nat.mul_le_mul_right E.sz hl; omega) hs;exact⟨news,S,hN,fun x=>by simp only[b0,cp]; exact Nat.le_add_left _ _⟩
omit hT in
theorem OF {E:av} {v:V} {xs:Unit→List E.α} {ks:List Nat} {u:Value} (h:CA σ.ah E v=some (xs,ks)) (hv:RV H ρ (ay σ.ah) v u) :
   gy σ.ah ks=true∧∃news S,jz w E (xs ()) u news S∧∀x,cp (xs ()).length E.sz S x≤bW ρ ks x:=by
 unfold CA at h
 split at h
 · rename_i E' t
   split at h
   · rename_i hf
     split at h
     · rename_i ys hc;cases h;have hr:RL H (.list E' t) u:=hv;rw[uR hc] at hr;refine⟨rfl, ?_⟩;rcases hr.fY (h:=w.heap) r.b.hh hf with⟨a,c,rfl,h0⟩ | ⟨b,off,c,vs,e,fz,rfl,hb,ho,hm,hs⟩
       · rw[h0]; exact⟨[],_,jz.nil a c,fun x=>by simp[cp,cd]⟩
       · obtain⟨news,hN⟩:=jz.of (c:=c) hb ho hs;refine⟨news,_,hN,fun x=> ?_⟩;have:cp (xs ()).length E.sz (fun _ _ _=>0) x=0:=mF fun i _=>mF fun j _=>rfl;omega
     · cases h
   · cases h
 · rename_i k
   split at h
   · rename_i hf
     split at h
     · rename_i E' rF l hg
       split at h
       · rename_i ys hc;cases h;obtain⟨_,rfl⟩:=hv;have ho:=uE r hg;rw[uR hc] at ho;obtain⟨news,S,hN,_⟩:=CX ho;refine⟨rfl,news,fun _ _ _=>0,⟨hN.len,hN.one,hN.fY.flat hf,hN.val⟩,fun x=> ?_⟩;have:cp (xs ()).length E.sz (fun _ _ _=>0) x=0:=mF fun i _=>mF fun j _=>rfl;omega
       · cases h
     · cases h
   · obtain⟨h1,h2⟩:=xb r h hv;exact⟨h1,CX h2⟩
 · obtain⟨h1,h2⟩:=xb r h hv;exact⟨h1,CX h2⟩
omit r in
theorem ly {T:TypeId} {E:av} {elem bytes:Nat} (h:cY tab T=some (.sl E elem bytes)) :
  P.underlying T=some (.slice elem)∧∃i z,P.info? elem=some i∧i.size=E.sz∧i.bytes=bytes∧i.zero=some z∧Z.hM (oD E) z.cells.toList=true∧z.cells.size=E.sz:=by
 obtain⟨h1,i,z,h2,h3,h4,h5,h6⟩:=nv (cI hT h);refine⟨h1,i,z,h2,h3,h4,h5,h6, ?_⟩;have:=Z.zz h6;rw[Hf] at this;simpa using this
theorem HB {T:TypeId} {E:av} {v:V} {xs:Unit→List E.α} {ks:List Nat} {u:Value} (h:CB tab T σ.ah E v=some (xs,ks)) (hv:RV H ρ (ay σ.ah) v u) :
   gy σ.ah ks=true∧∃news S,uS P w E (xs ()) T u news S∧∀x,cp (xs ()).length E.sz S x≤bW ρ ks x:=by
 unfold CB at h
 split at h
 · rename_i bc;obtain⟨hU,_⟩:=ly hT bc;obtain⟨h1,news,S,h2,h3⟩:=OF r h hv;exact⟨h1,news,S,h2.zw hU,h3⟩
 · rename_i bc;have hU:=(nx (cI hT bc)).1
   split at h
   · rename_i t;cases h;have hr:RL H (.str t) u:=hv;obtain⟨rfl,_⟩:=RL.l9 hr;refine⟨rfl,_,_,uS.str hU _,fun x=> ?_⟩;have:cp (t ()).length (av.byte).sz (fun _ _ _=>0) x=0:=mF fun i _=>mF fun j _=>rfl;rw[this]; exact Nat.zero_le _
   · cases h
 · cases h
theorem OG {o : Oper} {K:SS→Prop} {Q:Exit→Act→World→Prop} (hw:gS tab o=true→Γ.hd = []) (h:tE tab o σ K) :
   o.wp P a w (fun a' w'=>∃az,K az∧rr Γ H (gS tab o) w az a' w') Q:=by
 have ev:=km r.e;unfold tE at h
 split at h
 · -- a literal
   rename_i T n parts d aY hd
   split at h
   · rename_i E elem bytes bc hg
     split at h
     · rename_i xs ks hm
       split at h
       · rename_i hc;obtain⟨iM,lq,zu,xc⟩:=hc;obtain⟨hU,i,z,hi,bq,iw,hz,qZ,tB⟩:=ly hT bc
         obtain⟨g1,g2,g3,g4,S,g5,g6⟩:=Hd r hm (us:=parts.toList.map fun p=>a.eval p.2) (by simp) fun j v u hj cQ=>by
           rw[List.getElem?_map,Option.map_eq_some_iff] at hj cQ;obtain⟨p,h1,rfl⟩:=hj;obtain⟨p',h2,rfl⟩:=cQ;rw[h1] at h2;cases h2;exact ev _
         have hlen:(parts.toList.map fun p=>a.eval p.2).length=n:=by simpa using lq
         generalize oR:(parts.toList.map fun p=>a.eval p.2)=us at g1 g2 g3 g5 g6 hlen;generalize fA:(us.flatMap fun u=>u.cells.toList)=cl at g3 g5
         have cR:(Instr.buildSlice T n (parts.map fun p=>(p.1,a.eval p.2))).run P w = .ok (.slice (some ⟨w.heap.size,0,none⟩) n n) (w.alloc (.cells cl.toArray elem)):=by
           have p8:(parts.map fun p=>(p.1,a.eval p.2)).toList=(us.zipIdx 0).map fun x=>(x.2,x.1):=by
             rw[Array.toList_map,Hc (f:=a.eval) iM,oR]
           rcases Nat.eq_zero_or_pos n with h0 | h0
           · subst h0;have:us = []:=List.length_eq_zero_iff.1 hlen;subst this;simp only[List.flatMap_nil] at fA;subst fA;have OH:parts = #[]:=Array.toList_inj.1 (List.length_eq_zero_iff.1 lq);subst OH;simp[Instr.buildSlice,run_underlying hU,sizeOf,typeInfo,hi,Instr.fill,newRow];have OI:Array.map (fun _:Nat=>(default:Value)) (Array.range 0) = #[]:=by simp[Array.range]
             rw[OI]
           · refine run_buildSlice w T elem n _ _ i z hU hi hz (by rw[bq]; omega) (by rw[bq]; have:=Nat.mul_pos h0 (wu E); omega) ?_;rw[p8,bq,←fA];refine Great.fill_whole (wu E) us _ g2 ?_;simp[hlen]
         refine kZ (v:= .slice (some ⟨w.heap.size,0,none⟩) n n) (w':=w.alloc (.cells cl.toArray elem)) ?_ ⟨_,h, ?_,fun _=>ir.alloc w _⟩
         · simp only[execOp,aY,Sem.run_bind,cR,Result.andThen_ok]; rfl
         · rw [hd]
           have cZ:=(bO.mono (h':=(w.alloc (.cells cl.toArray elem)).heap) (g5.cells (ds:=fun q=>cl.toArray.getD (0+q) Go.undef) fun q hq=>by
               rw[Nat.zero_add,Array.getD_eq_getD_getElem?,List.getElem?_toArray,List.getD_eq_getElem?_getD]) fun x hx=>by
               rw[g1,g6] at hx;have:=mI (ρ:=ρ) ks xc (fun k hk=>by obtain⟨E,xs,hg⟩:=oM g4 k hk; exact fP hg) x;exact alloc_old w _ x (r.lt (by omega))).own (b:=w.heap.size) (c:=n) (fz:=(0,0)) (uI w _) (nz _) (by omega) (by unfold cM; have:=Nat.le_mul_of_pos_right n (wu E); omega)
               (by rw[Nat.zero_add,List.size_toArray,g3,hlen]; exact Nat.le_refl _)
           rw[g1,hlen] at cZ;refine uZ r xc g4 hg (fun x hx _=>alloc_old w _ x hx) (tj w _ _) cZ (fun x hx=> ?_) fun x hx=> ?_
           · simp only[b0];rw[if_neg (Nat.ne_of_lt hx)];have:=g6 x;rw[hlen] at this;simp only[cp] at this;omega
           · have h1:=g6 x;have h2:=mI (ρ:=ρ) ks xc (fun k hk=>by obtain⟨E,xs,hg⟩:=oM g4 k hk; exact fP hg) x;have h3:=(r.uH hx).2;rw[hlen] at h1;simp only[cp] at h1;simp only[b0]
             split <;> omega
       · cases h
     · cases h
   · cases h
 · -- append
   rename_i c d aY hd
   split at h
   · exact Cx hT r h
   · rename_i x y T T2 fl dN CY
     split at h
     · rename_i E elem bytes bc hg
       split at h
       · rename_i xs k1 ys k2 hx hy
         split at h
         · rename_i hc;obtain⟨iM,lq⟩:=hc;obtain⟨CZ,hk⟩:=h;obtain⟨hU,i,z,hi,bq,iw,hz,qZ,tB⟩:=ly hT bc;obtain⟨u1,ox⟩:=xb r hx (ev x);obtain⟨u2,news,S2,hN,C0⟩:=HB hT r hy (ev y);have mM:∀k∈k1++k2,ay σ.ah k:=fun k hk=>by obtain⟨E,xs,hg⟩:=oM (tD u1 u2) k hk; exact fP hg
           have hle:∀x,bW ρ k1 x+bW ρ k2 x≤aT ρ σ.ah x:=fun x=>by rw[←qg]; exact mI (ρ:=ρ) _ iM mM x
           obtain⟨v,p,w',r1,r2,r3,r4,r5,r6⟩:=w5 (P:=P) (T:=T) (T2:=T2) (ty:=o.type) (E:=E) (xs:=xs ()) (ys:=ys ()) ox hN C0 (fun x=>Nat.le_trans (hle x) (r.b.sum x)) (fun x hx=>r.lt (Nat.lt_of_lt_of_le hx (hle x)))
             hU hi hz bq tB (by omega) (by rw[iw]; exact CZ)
           refine kZ (v:=v) (w':=w') ?_ ⟨_,hk, ?_,fun hw=>by simp[gS,aY,fl] at hw⟩
           · have e1:c.args = #[x,y]:=by rw[←Array.toArray_toList (xs:=c.args),dN]
             have e2:c.argTypes = #[T,T2]:=by rw[←Array.toArray_toList (xs:=c.argTypes),CY]
             obtain⟨callee,args,argTypes⟩:=c;simp only at fl e1 e2;subst fl e1 e2;simp[execOp,aY,resolve,invoke,builtin,r1,Result.andThen]
           · rw[hd];refine uZ r iM (tD u1 u2) hg (fun x hx h0=> ?_) r3 r2 (fun x hx=> ?_) r6
             · rw[qg] at h0;exact r4 x hx (by omega)
             · rw[qg]; exact r5 x hx
         · cases h
       · cases h
     · cases h
   · cases h
 · -- make
   rename_i T l c d aY hd
   split at h
   · rename_i E elem bytes kl i kc j bc hg hl oO
     split at h
     · rename_i hb;obtain⟨⟨o1,o2,o3⟩,hk⟩:=h;obtain⟨hU,ii,z,hi,bq,iw,hz,qZ,tB⟩:=ly hT bc;have el:=ev l;have ec:=ev c;rw[hl] at el;rw[oO] at ec;obtain⟨el,_⟩:=RL.of_int el;obtain⟨ec,_⟩:=RL.of_int ec
       have Wh:j ()≤140737488355328:=by
         have:j ()*1≤j ()*(bytes:Int):=Int.mul_le_mul_of_nonneg_left (by omega) (by omega);omega
       have cR:=run_make (P:=P) w T elem ii z hU hi hz kl kc (i ()) (j ()) o1 o2 (by rw[iw,Int.mul_comm]; omega) (by omega);refine kZ (v:=_) (w':=_) (by simp only[execOp,aY,el,ec,Sem.run_bind,cR,Result.andThen_ok]; rfl) ⟨_,hk, ?_,fun _=>ir.alloc w _⟩;rw[hd];have hlen:(List.replicate (i ()).toNat E.mE).length=(i ()).toNat:=by simp
       have cB:bO (w.alloc (.cells (madeCells z.cells ((j ()).toNat*ii.size)) elem)).heap E (List.replicate (i ()).toNat E.mE) (fun q=>(madeCells z.cells ((j ()).toNat*ii.size)).getD (0+q) Go.undef) fun _ _ _=>0:=by
         rw[bq];intro q x hx jj ll hj;refine N9 qZ (j ()).toNat q x ?_ jj ll hj;have:=bC hx;rw[hlen] at this;rw[List.getElem?_replicate,if_pos this] at hx;rw[List.getElem?_replicate,if_pos (by omega)];exact hx
       have cZ:=cB.own (b:=w.heap.size) (c:=(j ()).toNat) (fz:=(0,0)) (uI w _) (nz _) (by rw[hlen]; omega) (by rw[hlen]; unfold cM; omega) (by rw[size_madeCells,bq]; omega);rw[hlen] at cZ
       have xd:∀x,b0 w.heap.size (i ()).toNat E.sz (fun _ _ _=>0) x=if x=w.heap.size then 1 else 0:=fun x=>by
         simp only[b0];rw[mF fun i _=>mF fun j _=>rfl];rfl
       refine uZ r (ks:=[]) rfl rfl hg (fun x hx _=>alloc_old w _ x hx) (tj w _ _) cZ (fun x hx=> ?_) fun x hx=> ?_
       · rw[xd,if_neg (Nat.ne_of_lt hx)]; exact Nat.zero_le _
       · rw[xd]; split <;> omega
     · cases h
   · cases h
 · -- a part of a list
   rename_i T x lo hi d aY hd
   split at h
   · rename_i E elem bytes k bc hg qc
     split at h
     · rename_i xs ks hm
       split at h
       · rename_i l hh hl mH;obtain⟨⟨o1,o2,o3⟩,hk⟩:=h;obtain⟨hU,ii,z,dW,bq,_⟩:=ly hT bc;have xe:=ev x;rw[qc] at xe;obtain⟨hu,ho⟩:=xb r hm xe
         have je:ks = [k]:=by
           simp only[qd] at hm
           split at hm
           · split at hm
             · cases hm; rfl
             · cases hm
           · cases hm
         subst je;obtain⟨L,hL⟩:=Int.eq_ofNat_of_zero_le o1;obtain⟨U,ny⟩:=Int.eq_ofNat_of_zero_le (show 0≤hh () by omega)
         have e1:(lo.map a.eval=none∧L=0)∨∃k,lo.map a.eval=some (.int k (L:Int)):=by
           rcases uF hl ev with⟨h1,h2⟩ | ⟨k,h1⟩
           · refine .inl ⟨h1, ?_⟩; rw[h2] at hL; simp at hL; omega
           · exact .inr ⟨k,by rw[h1,hL]⟩
         have e2:(hi.map a.eval=none∧U=(xs ()).length)∨∃k,hi.map a.eval=some (.int k (U:Int)):=by
           rcases uF mH ev with⟨h1,h2⟩ | ⟨k,h1⟩
           · refine .inl ⟨h1, ?_⟩; rw[h2] at ny; simp at ny; omega
           · exact .inr ⟨k,by rw[h1,ny]⟩
         have Cc:L≤U:=by omega
         have ND:U≤(xs ()).length:=by omega
         have eL:(l ()).toNat=L:=by omega
         have eU:(hh ()).toNat=U:=by omega
         have hlen:(((xs ()).take U).drop L).length=U - L:=by simp; omega
         have cR:∀(bb:Option Addr) (cc:Nat),(xs ()).length≤cc→a.eval x = .slice bb (xs ()).length cc→(execOp a.eval o).run P w =
             .ok (.value (.slice (if cc=L then bb else bb.map (·.add (L*E.sz))) (U - L) (cc - L))) w:=fun bb cc zn hv=>by
           simp only[execOp,aY,Option.map_none,hv,Instr.sliceAt,Sem.run_bind,jf w hU,Result.andThen_ok,Instr.slice];rw[Ca true w e1 e2 Cc (by omega)];simp only[Result.andThen_ok,mG w dW,bq,Sem.run_pure]
         rcases ho.fY with⟨hv,h0,hp⟩ | ⟨b,off,c,vs,e,fz,S,hv,hp,hb,hf,C1,uG,eM,hs⟩
         · have OJ:(xs ()).length=0:=by rw[h0]; rfl
           refine kZ (cR none 0 (by omega) (by rw[hv,OJ])) ⟨_,hk, ?_,fun _=>ir.refl w⟩;rw[hd];have:(if 0=L then none else Option.map (fun x:Addr=>x.add (L*E.sz)) none)=none:=by split <;> rfl
           rw[this,show U - L=0 by omega,Nat.zero_sub];exact uZ r rfl hu hg (fun _ _ _=>rfl) (Ext.refl _) (bx.nil (by rw[eL,eU,h0]; simp)) (fun _ _=>Nat.zero_le _) fun _ _=>Nat.zero_le _
         · refine kZ (cR _ c C1 hv) ⟨_,hk, ?_,fun _=>ir.refl w⟩;rw[hd]
           have dw:∀x,cp (U - L) E.sz (fun i=>S (L+i)) x≤cp (xs ()).length E.sz S x:=fun x=>by
             have h1:cp (xs ()).length E.sz S x=cp L E.sz S x+cp ((xs ()).length - L) E.sz (fun i=>S (L+i)) x:=by
               have:(xs ()).length=L+((xs ()).length - L):=by omega
               rw[this];unfold cp;rw[wZ];simp
             have h2:cp ((xs ()).length - L) E.sz (fun i=>S (L+i)) x=cp (U - L) E.sz (fun i=>S (L+i)) x+cp ((xs ()).length - U) E.sz (fun i=>S (L+(U - L+i))) x:=by
               have:(xs ()).length - L=(U - L)+((xs ()).length - U):=by omega
               rw[this];unfold cp;rw[wZ]
             omega
           have cB:∀o',o'=off+L*E.sz→bO w.heap E (((xs ()).take (hh ()).toNat).drop (l ()).toNat) (fun q=>vs.getD (o'+q) Go.undef) fun i=>S (L+i):=by
             intro o' C2 i y hy j l' hj;subst C2;rw[eL,eU,List.getElem?_drop,List.getElem?_take] at hy
             split at hy
             · have:=hs (L+i) y hy j l' hj;simp only[Nat.add_mul] at this;simp only;rw[show off+L*E.sz+(i*E.sz+j)=off+(L*E.sz+i*E.sz+j) by omega];exact this
             · cases hy
           have zn:L*E.sz≤c*E.sz:=Nat.mul_le_mul_right _ (by omega)
           have fin:∀(o':Nat) (p':Nat→Nat),bx w.heap (.list E fun _=>((xs ()).take (hh ()).toNat).drop (l ()).toNat) (.slice (some ⟨b,o',none⟩) (U - L) (c - L)) p'→(∀x,p' x≤b0 b (xs ()).length E.sz S x)→
               ∃ ρ,aM Γ H ρ ((σ.rB [k] (8*d) (.own E (fun _=>((xs ()).take (hh ()).toNat).drop (l ()).toNat) false)).put (some d) (.c (.own (8*d)))) (a.put (some d) (.slice (some ⟨b,o',none⟩) (U - L) (c - L))) w:=fun o' p' h1 h2=>by
             have hq:∀x,p' x≤bW ρ [k] x:=fun x=>by rw[hp]; exact h2 x
             refine uZ r rfl hu hg (fun _ _ _=>rfl) (Ext.refl _) h1 (fun x _=>hq x) fun x _=> ?_;have h3:=mI (ρ:=ρ) [k] rfl (fun k' bL=>by obtain⟨E,xs,hg⟩:=oM hu k' bL; exact fP hg) x;have h4:=r.b.sum x;have h5:=hq x;omega
           have xd:∀x,b0 b (U - L) E.sz (fun i=>S (L+i)) x≤b0 b (xs ()).length E.sz S x:=fun x=>by
             have:=dw x;simp only[cp] at this;simp only[b0]; omega
           by_cases fA:c=L
           · rw [if_pos fA];have BZ:((xs ()).take (hh ()).toNat).drop (l ()).toNat = []:=List.length_eq_zero_iff.1 (by rw[eL,eU,hlen]; omega);have zo:U - L=0:=by omega
             refine fin off (b0 b 0 E.sz fun i=>S (L+i)) ?_ fun x=> ?_
             · have h7:=bO.own (h:=w.heap) (E:=E) (xs:=[]) (S:=fun i=>S (L+i)) (b:=b) (off:=off) (c:=c - L) (vs:=vs) (e:=e) (fz:=fz) bO.nil hb hf (by simp) (by simp) (by
                have:(c - L)*E.sz≤c*E.sz:=Nat.mul_le_mul_right _ (Nat.sub_le _ _);omega)
               rw[zo,BZ];exact h7
             · have:=xd x;rw[zo] at this;exact this
           · rw [if_neg fA];simp only[Option.map_some,fj];refine fin (off+L*E.sz) (b0 b (U - L) E.sz fun i=>S (L+i)) ?_ xd
             have h7:=(cB _ rfl).own (b:=b) (c:=c - L) (e:=e) (fz:=fz) hb hf (by rw[eL,eU,hlen]; omega) (by rw[eL,eU,hlen]; omega) (by
               have:L*E.sz+(c - L)*E.sz=c*E.sz:=by rw[←Nat.add_mul]; congr 1; omega
               omega)
             rw[eL,eU,hlen] at h7;rw[eL,eU];exact h7
       · cases h
     · cases h
   · cases h
 · -- bytes to a string
   rename_i S D x d aY hd
   split at h
   · rename_i e bytes k bc hD qc
     split at h
     · rename_i E xs s7 hg OK
       split at h
       · rename_i ys hc;obtain⟨hU,_⟩:=ly hT bc;have HC:=(pY (cI hT OK)).1;have HD:=(nx (cI hT hD)).1;have xe:=ev x;rw[qc] at xe;obtain⟨_,kV⟩:=xe;have ho:=uE r hg;rw[uR hc] at ho
         have cR :(convert S D (a.eval x)).run P w = .ok (.string ⟨(ys ()).toArray⟩) w∧(ys ()).length≤cM:=by
           rw[kV];rcases ho.fY with⟨hv,h0,hp⟩ | ⟨b,off,c,vs,e',fz,SS,hv,hp,hb,hf,C1,uG,eM,hs⟩
           · rw[hv,h0];exact⟨run_convert_bytes_nil w S e hU HC 0 0 D HD,by simp⟩
           · rw [hv]
             have:=run_convert_bytes_arg w S e hU HC b off (ys ()).length c ((ys ()).map fun y=>(y.toNat:Int)) (by simp) (fun i hi=>by
               have h1:=hs i _ (List.getElem?_eq_getElem hi) 0 _ rfl;simp only[av.sz,Nat.mul_one,Nat.add_zero] at h1;have h2:(⟨b,off+i,none⟩:Addr)=⟨b,off+i,none⟩:=rfl;rw[cell_of hb (getD_some (show off+i<vs.size by simp only[av.sz,Nat.mul_one] at eM; omega))];generalize vs.getD (off+i) Go.undef=u,SS i 0=T at h1;cases h1 with
               | int hr=>simp[List.getD_eq_getElem?_getD,hi]) D HD
             rw[this];refine⟨?_,uG⟩
             congr 2
             unfold strOfNums;rw[List.map_map];refine congrArg (fun l:List UInt8=>(⟨l.toArray⟩:ByteArray)) ?_;refine Eq.trans (List.map_congr_left fun y _=> ?_) (List.map_id _);simp
         refine kZ (v:= .string ⟨(ys ()).toArray⟩) (w':=w) (by simp only[execOp,aY,Sem.run_bind,cR.1,Result.andThen_ok]; rfl) ⟨_,h,⟨ρ, ?_⟩,fun _=>ir.refl w⟩;rw[hd];exact aM.put r (v:= .c (.lf (.str ys))) (RL.str cR.2) (some d)
       · cases h
     · cases h
   · cases h
 · -- an element is stored
   rename_i T p v aY hd
   split at h
   · rename_i k E i off hp;have ep:=ev p;rw[hp] at ep;obtain⟨az,w',ρ',h1,h2,_,h3⟩:=HA hT r (fun p hp=>by rw[hw (by simp[gS,aY])] at hp; cases hp) h ep (ev v);refine wY (w':=w') ?_ hd ⟨_,h1,⟨ρ',h2⟩,fun hw=>by simp[gS,aY] at hw⟩;simp only[execOp,aY,Sem.run_bind,h3,Result.andThen_ok];rfl
   · exact Cx hT r h
 · -- an element is loaded
   rename_i T x d aY hd
   split at h
   · rename_i k E i off hp
     split at h
     · rename_i OL;have ep:=ev x;rw[hp] at ep;obtain⟨az,y,ρ',h1,h2,h3⟩:=Oz hT r (hw (by simp[gS,aY,OL])) h ep;refine kZ (v:=y) (w':=w) ?_ ⟨_,h1,⟨ρ',by rw[hd]; exact h2⟩,fun _=>ir.refl w⟩;simp only[execOp,aY,Sem.run_bind,h3,Result.andThen_ok];rfl
     · cases h
   · cases h
 · exact Cx hT r h
omit hT r in
theorem OM {bs:List (Nat × an)} {E:av} {v:V} {xs:Unit→List E.α} {ks:List Nat} (h:qd bs E v=some (xs,ks)):ks = []∨∃k,v = .c (.own k)∧ks = [k]:=by
 unfold qd at h
 split at h
 · cases h; exact .inl rfl
 · split at h
   · split at h
     · cases h; exact .inr ⟨_,rfl,rfl⟩
     · cases h
   · cases h
 · cases h
theorem ON {o :Oper} {K:SS→Prop} {Q:Exit→Act→World→Prop} {c:Call} {x y:Operand} (aY:o.op = .call c) (fl:c.callee = .builtin .append) (dN:c.args.toList = [x,y]) (h:tE tab o σ K) :
   o.wp P a w (fun a' w'=>∃az,K az∧(∃ρ',aM Γ H ρ' az a' w')∧∀b,b<w.heap.size→(∀k,σ.ev x = .c (.own k)→(ρ k).2 b=0)→w'.heap[b]? = w.heap[b]?) Q:=by
 have ev:=km r.e;unfold tE at h;rw[aY] at h;cases hd:o.dst with
 | none=>rw[hd] at h; simp only[ry,aY,hd] at h
 | some d =>
   rw[hd] at h;simp only[fl,dN] at h
   split at h
   · rename_i _ _ heq; cases heq
   · rename_i x' y' T T2 _ OO CY;cases OO
     split at h
     · rename_i E elem bytes bc hg
       split at h
       · rename_i xs k1 ys k2 hx hy
         split at h
         · rename_i hc;obtain⟨iM,lq⟩:=hc;obtain⟨CZ,hk⟩:=h;obtain⟨hU,i,z,hi,bq,iw,hz,qZ,tB⟩:=ly hT bc;obtain⟨u1,ox⟩:=xb r hx (ev x);obtain⟨u2,news,S2,hN,C0⟩:=HB hT r hy (ev y);have mM:∀k∈k1++k2,ay σ.ah k:=fun k hk=>by obtain⟨E,xs,hg⟩:=oM (tD u1 u2) k hk; exact fP hg
           have hle:∀x,bW ρ k1 x+bW ρ k2 x≤aT ρ σ.ah x:=fun x=>by rw[←qg]; exact mI (ρ:=ρ) _ iM mM x
           obtain⟨v,p,w',r1,r2,r3,r4,r5,r6⟩:=w5 (P:=P) (T:=T) (T2:=T2) (ty:=o.type) (E:=E) (xs:=xs ()) (ys:=ys ()) ox hN C0 (fun x=>Nat.le_trans (hle x) (r.b.sum x)) (fun x hx=>r.lt (Nat.lt_of_lt_of_le hx (hle x)))
             hU hi hz bq tB (by omega) (by rw[iw]; exact CZ)
           refine kZ (v:=v) (w':=w') ?_ ⟨_,hk, ?_,fun b hb hz=> ?_⟩
           · have e1:c.args = #[x,y]:=by rw[←Array.toArray_toList (xs:=c.args),dN]
             have e2:c.argTypes = #[T,T2]:=by rw[←Array.toArray_toList (xs:=c.argTypes),CY]
             obtain⟨callee,args,argTypes⟩:=c;simp only at fl e1 e2;subst fl e1 e2;simp[execOp,aY,resolve,invoke,builtin,r1,Result.andThen]
           · rw[hd];refine uZ r iM (tD u1 u2) hg (fun x hx h0=> ?_) r3 r2 (fun x hx=> ?_) r6
             · rw[qg] at h0;exact r4 x hx (by omega)
             · rw[qg]; exact r5 x hx
           · refine r4 b hb ?_;rcases OM hx with e | ⟨k,e1,e2⟩
             · rw[e]; rfl
             · rw[e2];have:=hz k e1;simp only[bW];omega
         · cases h
       · cases h
     · cases h
   · cases h
end
def zH (bs:List (Nat × an)):C→Option Lf
 | .lf l=>some l
 | .bl b=>some (.bool fun _=>b)
 | .own k=>match aP bs k with | some (.own E xs _)=>some (.list E xs) | some (.view E xs)=>some (.list E xs) | _=>none
 | _=>none
def xf (bs:List (Nat × an)):List C→Option (List Lf)
 | []=>some []
 | c::cs=>match zH bs c,xf bs cs with | some l,some ls=>some (l::ls) | _,_=>none
def xg (bs:List (Nat × an)) (k:Nat):Option (List Lf):=
 match aP bs k with
 | some (.box cs)=>xf bs cs
 | _=>none
def rL (bs:List (Nat × an)):Cp→Cp
 | .ptr k off=>match xg bs k with | some ls=> .cg ls off | none=> .ptr k off
 | c=>c
def rM (bs:List (Nat × an)) (z:Z):C→C
 | .nil=>match z with | .nl E=> .lf (.list E fun _=>[]) | _=> .undef
 | .own k=>match zH bs (.own k) with | some l=> .lf l | none=> .undef
 | .ptr k off=>match xg bs k with | some ls=> .cg ls off | none=> .undef
 | .fx _ _ _ _=> .undef
 | .fn f l=> .fn f (l.map (rL bs))
 | c=>c
def mN (bs:List (Nat × an)):List Z→List C→List C
 | _,[]=>[]
 | [],c::cs=>rM bs .un c::mN bs [] cs
 | z::zs,c::cs=>rM bs z c::mN bs zs cs
def zI (tab:bh) (bs:List (Nat × an)) (T:TypeId):V→V
 | .c x=> .c (rM bs (match cY tab T with | some (.sl E _ _)=> .nl E | _=> .un) x)
 | .agg cs=> .agg (mN bs (match cY tab T with | some (.st _ _ z _)=>z | _=>[]) cs)
 | .aS _=> .c .undef
def me (tab:bh) (bs:List (Nat × an)):List TypeId→List V→List V
 | _,[]=>[]
 | [],_::vs=> .c .undef::me tab bs [] vs
 | T::Ts,v::vs=>zI tab bs T v::me tab bs Ts vs
def u9 (bs:List (Nat × an)) (c:Cp):V:=
 match rL bs c with
 | .el E x off=> .c (.el E x off)
 | .cg ls off=> .c (.cg ls off)
 | .ptr _ _=> .c .undef
def C3 (bs:List (Nat × an)) (l:List Cp):Bool:=l.all fun c=>match rL bs c with | .ptr _ _=>false | _=>true
def C.qk (bs:List (Nat × an)):C→Bool
 | .fn _ l=>C3 bs l
 | _=>true
def V.qk (bs:List (Nat × an)):V→Bool
 | .c x=>x.qk bs
 | .agg cs=>cs.all (C.qk bs)
 | .aS _=>true
structure zJ (w:World) (H H1:Hp) (ρ:aK) (D:Nat→Prop) (bs:List (Nat × an)):Prop where
 hH:∀b o,H b=some o→H1 b=some o
 ah:∀k B,aP bs k=some B→cO w.heap H ρ D B (ρ k)∧∀x,0<(ρ k).2 x→H1 x=w.heap[x]?
theorem aM.HE {Γ:Ctx} {H:Hp} {ρ:aK} {σ:SS} {a:Act} {w:World} (r:aM Γ H ρ σ a w):zJ w H (fun b=>w.heap[b]?) ρ (ay σ.ah) σ.ah:=
 ⟨r.b.hh,fun k B hk=>⟨r.b.ah k B (dk hk),fun _ _=>rfl⟩⟩
section
variable {w : World} {H H1 : Hp} {ρ ρ1 : aK} {D D1 : Nat → Prop} {bs : List (Nat × an)} (L : zJ w H H1 ρ D bs)
include L
theorem HF {c:C} {l:Lf} {v:Value} (h:zH bs c=some l) (hv:RC H ρ D c v):RL H1 l v:=by
 unfold zH at h
 split at h
 · cases h; exact RL.mono hv L.hH
 · cases h; simp only[RC] at hv; subst hv; exact RL.bool (t:=fun _=>_)
 · rename_i k
   split at h
   · rename_i E xs l hg;cases h;obtain⟨_,rfl⟩:=hv;obtain⟨h1,h2⟩:=L.ah k _ hg;exact bx.rl h1 h2
   · rename_i E xs hg;cases h;obtain⟨_,rfl⟩:=hv;obtain⟨h1,h2⟩:=L.ah k _ hg;exact h1.1.mono L.hH
   · cases h
 · cases h
theorem HH:∀{cs:List C} {ls:List Lf} {f:Nat→Value},xf bs cs=some ls→(∀(j:Nat) c,cs[j]? = some c→RC H ρ D c (f j))→ls.length=cs.length∧∀(j:Nat) l,ls[j]? = some l→RL H1 l (f j)
 | [],ls,f,h,_=>by simp only[xf,Option.some.injEq] at h; subst h; exact⟨rfl,fun j l hj=>by simp at hj⟩
 | c ::cs,ls,f,h,hc=>by
   simp only[xf] at h
   split at h
   · rename_i l qh h1 h2;cases h;obtain⟨g1,g2⟩:=HH (f:=fun j=>f (j+1)) h2 fun j c hj=>hc (j+1) c (by simpa using hj);refine⟨by simp[g1],fun j l' hj=> ?_⟩;cases j with
     | zero=>simp at hj; subst hj; exact HF L h1 (hc 0 c rfl)
     | succ j=>exact g2 j l' (by simpa using hj)
   · cases h
theorem HI {k off:Nat} {ls:List Lf} {v:Value} (h:xg bs k=some ls) (hv:dX H ρ D (.ptr k off) v) :
   dX H1 ρ1 D1 (.cg ls off) v:=by
 unfold xg at h
 split at h
 · rename_i cs hg;obtain⟨_,b,h1,rfl⟩:=hv;obtain⟨⟨b',vs,e,fz,h2,h3,h4,h5,h6⟩,h0⟩:=L.ah k _ hg;rw[h1] at h2;simp only[Value.pointer.injEq,Option.some.injEq,Addr.mk.injEq,and_true] at h2;subst h2;obtain⟨g1,g2⟩:=HH (f:=fun j=>vs.getD j Go.undef) L h h6.2;refine⟨b,off,vs,e,fz,by rw[h0 b (by simp[h3,one])]; exact h4,rfl,fun j l hj=>⟨?_,g2 _ _ hj⟩⟩;have:=bC hj;rw[h6.1,←g1]; exact this
 · cases h
theorem dX.HJ {E:av} {x:Unit→E.α} {off:Nat} {v:Value} (hv:dX H ρ D (.el E x off) v):dX H1 ρ1 D1 (.el E x off) v:=by
 obtain⟨b,o,cs,e,fz,h1,h2,h3⟩:=hv;exact⟨b,o,cs,e,fz,L.hH _ _ h1,h2,fun j l hj=>⟨(h3 j l hj).1,(h3 j l hj).2.mono L.hH⟩⟩
theorem dX.HK {ls:List Lf} {off:Nat} {v:Value} (hv:dX H ρ D (.cg ls off) v):dX H1 ρ1 D1 (.cg ls off) v:=by
 obtain⟨b,o,cs,e,fz,h1,h2,h3⟩:=hv;exact⟨b,o,cs,e,fz,L.hH _ _ h1,h2,fun j l hj=>⟨(h3 j l hj).1,(h3 j l hj).2.mono L.hH⟩⟩
theorem HL {c:Cp} {v:Value} (hv:dX H ρ D c v) (ho:(match rL bs c with | .ptr _ _=>false | _=>true)=true) :
   dX H1 ρ1 D1 (rL bs c) v:=by
 cases c with
 | ptr k off=>
   cases ht:xg bs k with
   | some t=>simp only[rL,ht]; exact HI L ht hv
   | none=>simp[rL,ht] at ho
 | el E x off=>exact dX.HJ (ρ1:=ρ1) (D1:=D1) L hv
 | cg ls off=>exact dX.HK (ρ1:=ρ1) (D1:=D1) L hv
theorem HM {c:C} {v:Value} (z:Z) (hv:RC H ρ D c v) (ho:c.qk bs=true):RC H1 ρ1 D1 (rM bs z c) v:=by
 cases c with
 | lf l=>exact RL.mono hv L.hH
 | bl b=>exact hv
 | nil=>
   simp only[rM]
   split
   · simp only[RC] at hv; subst hv; exact RL.nil rfl
   · trivial
 | own k=>
   simp only[rM]
   split
   · rename_i l hl; exact HF L hl hv
   · trivial
 | ptr k off=>
   simp only[rM]
   split
   · rename_i t ht; exact HI (ρ1:=ρ1) (D1:=D1) L ht hv
   · trivial
 | el E x off=>exact dX.HJ (ρ1:=ρ1) (D1:=D1) L hv
 | cg ls off=>exact dX.HK (ρ1:=ρ1) (D1:=D1) L hv
 | fx k E i off=>trivial
 | fn f l=>
   obtain⟨vs,h1,h2,h3⟩:=hv;refine⟨vs,h1,by simpa using h2,fun j c hj=> ?_⟩;rw[List.getElem?_map,Option.map_eq_some_iff] at hj;obtain⟨c0,hj,rfl⟩:=hj;exact HL L (h3 j c0 hj) (List.all_eq_true.1 ho c0 (List.mem_of_getElem? hj))
 | undef=>trivial
omit L in
theorem C4 {bs:List (Nat × an)}:∀{cs:List C} {zs:List Z} {j:Nat} {c:C},(mN bs zs cs)[j]? = some c→∃c0 z,cs[j]? = some c0∧c=rM bs z c0
 | [],zs,j,c,h=>by cases zs <;> simp[mN] at h
 | c0::cs,[],0,c,h=>by simp[mN] at h; exact⟨c0,_,rfl,h.symm⟩
 | c0::cs,[],j+1,c,h=>by simp only[mN,List.getElem?_cons_succ] at h ⊢; exact C4 h
 | c0::cs,z::zs,0,c,h=>by simp[mN] at h; exact⟨c0,_,rfl,h.symm⟩
 | c0::cs,z::zs,j+1,c,h=>by simp only[mN,List.getElem?_cons_succ] at h ⊢; exact C4 h
omit L in
theorem C5 {bs:List (Nat × an)}:∀{cs:List C} {zs:List Z},(mN bs zs cs).length=cs.length
 | [],zs=>by cases zs <;> rfl
 | c0::cs,[]=>by simp[mN,C5 (cs:=cs)]
 | c0::cs,z::zs=>by simp[mN,C5 (cs:=cs)]
theorem HN {tab:bh} {T:TypeId} {c:V} {v:Value} (hv:RV H ρ D c v) (ho:c.qk bs=true):RV H1 ρ1 D1 (zI tab bs T c) v:=by
 cases c with
 | c x=>exact HM L _ hv ho
 | agg cs=>
   obtain⟨vs,h1,h2⟩:=hv;refine⟨vs,h1,by rw[C5]; exact h2.1,fun j c hj=> ?_⟩;obtain⟨c0,z,h3,rfl⟩:=C4 hj;exact HM L z (h2.2 j c0 h3) (List.all_eq_true.1 ho c0 (List.mem_of_getElem? h3))
 | aS cs=>trivial
theorem HO {c:Cp} {v:Value} (hv:dX H ρ D c v) (ho:(match rL bs c with | .ptr _ _=>false | _=>true)=true):RV H1 ρ1 D1 (u9 bs c) v:=by
 have h:=HL (ρ1:=ρ1) (D1:=D1) L hv ho;unfold u9
 split
 · rename_i E x off heq; rw[heq] at h; exact h
 · rename_i ls off heq; rw[heq] at h; exact h
 · trivial
end
inductive af (P:Program) (f:FuncId) (as:List V) (K:V→List an→Prop):Prop where
 | mk (post:V→List an→Prop) (hs:Spec P f as post) (hk:∀r nb,post r nb→K r nb)
def rN:List (Nat × an)→Nat→List an→List (Nat × an)
 | bs,_,[]=>bs
 | bs,k,B::nb=>rN (dA bs k B) (k+1) nb
def u_ (bs:List (Nat × an)) (d:Nat):Bool:=bs.all fun p=>p.1<8*d || 8*d+8≤p.1
theorem aM.rN {Γ:Ctx} {H:Hp} {a:Act} {w':World} {H':Hp} {ρ':aK}:∀(nb:List an) (j k:Nat) {ρ:aK} {σ:SS} {w:World},aM Γ H ρ σ a w→
   (∀b o,H b=some o→w'.heap[b]? = w.heap[b]?)→(∀b,0<aT ρ σ.ah b→w'.heap[b]? = w.heap[b]?)→Ext w w'→
   (∀i B,nb[i]? = some B→cO w'.heap H' ρ' (fun _=>False) B (ρ' (j+i))∧ownB B=true)→(∀i,i<nb.length→(ρ' (j+i)).1.oneCell'=true)→
   (∀i x,i<nb.length→0<(ρ' (j+i)).2 x→H x=none∧aT ρ σ.ah x=0)→(∀x,aT ρ' (num j nb) x≤1)→(∀i,i<nb.length→aP σ.ah (k+i)=none)→
   ∃ tF,aM Γ H tF {σ with ah:=rN σ.ah k nb} a w'∧(∀i,i<nb.length→ay (rN σ.ah k nb) (k+i)∧(tF (k+i)).1=(ρ' (j+i)).1)∧(∀i,ay σ.ah i→ay (rN σ.ah k nb) i∧tF i=ρ i)
 | [],j,k,ρ,σ,w,r,h1,h2,h3,_,_,_,_,_=>by
   refine⟨ρ,⟨⟨r.b.oc,r.b.nd,r.b.h0,fun b o hb=> ?_,fun k B hk=> ?_,r.b.sum,r.b.fresh,r.b.im⟩,r.e,r.d,r.n.trans h3,r.hd,r.hm⟩,fun i hi=>by simp at hi,fun i hi=>⟨hi,rfl⟩⟩
   · rw[h1 b o hb]; exact r.b.hh b o hb
   · exact(r.b.ah k B hk).mono (ki.refl _ _ _) fun b hb=>h2 b (Nat.lt_of_lt_of_le hb (nu hk b))
 | B :: nb, j,k,ρ,σ,w,r,h1,h2,h3,h4,h5,h6,h7,h8=>by
   have hk:aP σ.ah k=none:=h8 0 (by simp);obtain⟨hB,cZ⟩:=h4 0 B rfl
   have hle:∀x,(ρ' j).2 x≤1:=fun x=>by
     have:=h7 x;simp only[num,aT] at this;omega
   have r1:=r.th (w':=w') (k:=k) (B:=B) (p:=ρ' j) hk h1 h2 h3 (h5 0 (by simp)) (fun x hx=>h6 0 x (by simp) hx) hle
     (by cases B with
       | own E xs l=>exact hB
       | dead=>simp[ownB] at cZ
       | box cs=>simp[ownB] at cZ
       | view E xs=>simp[ownB] at cZ
       | mp m=>simp[ownB] at cZ
       | ck E xs i fs=>simp[ownB] at cZ) (by rintro rfl; simp[ownB] at cZ)
   have gR:=jO hk;have hne:∀i,ay σ.ah i→i≠k:=fun i hi he=>gR (he▸hi);have e1:∀i,j+1+i=j+(i+1):=fun i=>by omega
   have e2:∀i,k+1+i=k+(i+1):=fun i=>by omega
   obtain ⟨tF,r2,g1,g2⟩:=aM.rN nb (j+1) (k+1) r1 (fun _ _ _=>rfl) (fun _ _=>rfl) (Ext.refl _)
     (fun i A hi=>by rw[e1]; exact h4 (i+1) A (by simpa using hi)) (fun i hi=>by rw[e1]; exact h5 (i+1) (by simpa using hi))
     (fun i x hi hx=>by
       rw[e1] at hx;obtain⟨g1,g2⟩:=h6 (i+1) x (by simpa using hi) hx;refine⟨g1, ?_⟩;show aT (de ρ k (ρ' j)) (dA σ.ah k B) x=0;rw[y6,dM,wA (ρ:=ρ) (ρ':=de ρ k (ρ' j)) (fun i hi=>dm (hne i hi)),g2];have h9:=h7 x;simp only[num,aT] at h9;have bI:=nu (ρ:=ρ') (bs:=num (j+1) nb) (k:=j+(i+1)) (B:=nb[i]) (rf.2 ⟨by omega,by rw[show j+(i+1) - (j+1)=i by omega]; exact List.getElem?_eq_getElem hi⟩) x;omega)
     (fun x=>by have:=h7 x; simp only[num,aT] at this; omega)
     (fun i hi=>by
       rw[e2];have h9:=h8 (i+1) (by simpa using hi)
       have : ∀bs:List (Nat × an),aP bs (k+(i+1))=none→aP (dA bs k B) (k+(i+1))=none:=by
        intro bs
        induction bs with
        | nil=>intro _; simp[dA,aP]
        | cons p bs ih=>
          intro h;simp only[aP] at h
          split at h
          · cases h
          · rename_i hp;simp only[dA]
            split
            · simp only[aP];rw[if_neg (by omega),if_neg hp]; exact h
            · simp only[aP];rw[if_neg hp]; exact ih h
       exact this _ h9)
   refine⟨tF,r2,fun i hi=> ?_,fun i hi=> ?_⟩
   · cases i with
     | zero=>
       obtain⟨g3,g4⟩:=g2 k (gx.2 (.inl rfl));exact⟨g3,by rw[Nat.add_zero,g4,dM]; rfl⟩
     | succ i=>
       have:=g1 i (by simpa using hi);rw[e1,e2] at this;exact this
   · obtain⟨g3,g4⟩:=g2 i (gx.2 (.inr hi));exact⟨g3,by rw[g4,dm (hne i hi)]⟩
def gD (σ:SS) (o:Oper):Option (V × Call):=
 match o.op with
 | .call c=>match c.callee with
   | .value x=>some (σ.ev x,c)
   | _=>none
 | _=>none
def C6 (P:Program) (tab:bh) (σ:SS) (v:V) (c:Call) (dst:Option Nat) (K:SS→Prop):Prop:=
 match v,dst with
 | .c (.fn f l),some d=>
   if u_ σ.ah d=true∧C3 σ.ah l=true∧(c.args.toList.map σ.ev).all (V.qk σ.ah)=true∧c.argTypes.size=c.args.size then
    af P f (me tab σ.ah c.argTypes.toList (c.args.toList.map σ.ev)++l.map (u9 σ.ah)) fun r nb=>
     nb.length≤8∧K (({σ with ah:=rN σ.ah (8*d) nb}:SS).put (some d) (r.du (8*d + ·)))
   else False
 | _,_=>False
theorem va {tab:bh} {bs:List (Nat × an)}:∀{vs:List V} {Ts:List TypeId},(me tab bs Ts vs).length=vs.length
 | [],Ts=>by cases Ts <;> rfl
 | v::vs,[]=>by simp[me,va (vs:=vs)]
 | v::vs,T::Ts=>by simp[me,va (vs:=vs)]
section
variable {P : Program} {tab : bh} {Γ : Ctx} {H : Hp} {ρ : aK} {σ : SS} {a : Act} {w : World} (r : aM Γ H ρ σ a w)
include r
theorem C7:∀{vs:List V} {Ts:List TypeId} {us:List Value},(∀(j:Nat) c v,vs[j]? = some c→us[j]? = some v→RV H ρ (ay σ.ah) c v)→vs.all (V.qk σ.ah)=true→vs.length=us.length→
   ∀ (j:Nat) c v,(me tab σ.ah Ts vs)[j]? = some c→us[j]? = some v→RV (fun b=>w.heap[b]?) (fun _=>default) (fun _=>False) c v
 | [],Ts,us,_,_,_,j,c,v,h,_=>by cases Ts <;> simp[me] at h
 | x :: vs,[],us,hv,ho,hl,j,c,v,h,h'=>by
   cases us with
   | nil=>simp at hl
   | cons u us=>
     simp only[List.all_cons,Bool.and_eq_true] at ho;cases j with
     | zero=>simp[me] at h; subst h; trivial
     | succ j=>
       simp only[me,List.getElem?_cons_succ] at h h';exact C7 (Ts:=[]) (fun j c v g1 g2=>hv (j+1) c v (by simpa using g1) (by simpa using g2)) ho.2 (by simpa using hl) j c v h h'
 | x :: vs,T::Ts,us,hv,ho,hl,j,c,v,h,h'=>by
   cases us with
   | nil=>simp at hl
   | cons u us=>
     simp only[List.all_cons,Bool.and_eq_true] at ho;cases j with
     | zero=>
       simp[me] at h h'; subst h h';exact HN r.HE (hv 0 x u rfl rfl) ho.1
     | succ j=>
       simp only[me,List.getElem?_cons_succ] at h h';exact C7 (Ts:=Ts) (fun j c v g1 g2=>hv (j+1) c v (by simpa using g1) (by simpa using g2)) ho.2 (by simpa using hl) j c v h h'
theorem OP {o : Oper} {v:V} {c:Call} {K:SS→Prop} {Q:Exit→Act→World→Prop} (hc:gD σ o=some (v,c)) (h:C6 P tab σ v c o.dst K) :
   o.wp P a w (fun a' w'=>∃az,K az∧rr Γ H (gS tab o) w az a' w') Q:=by
 unfold gD at hc
 split at hc
 · rename_i c0 aY
   split at hc
   · rename_i x fl;cases hc;unfold C6 at h
     split at h
     · rename_i f l d hx hd
       split at h
       · rename_i tf;obtain⟨iO,C8,CN,Cd⟩:=tf;obtain⟨post,⟨⟨fn,ql,mO,C9⟩,hs⟩,hk⟩:=h;have ev:=km r.e x;rw[hx] at ev;obtain⟨vs,e1,e2,e3⟩:=ev
         have cR:(execOp a.eval o).run P w = .ok (.enter f (c.args.map a.eval++vs)) w:=by
          simp only[execOp,aY,resolve,fl,Deferred.ofValue,e1,Sem.run_bind,Sem.run_pure,Result.andThen_ok,invoke,callFunc,run_program,ql,mO,C9];simp
         have dN:args (fun b=>w.heap[b]?) (fun _=>default) (fun _=>False) (me tab σ.ah c.argTypes.toList (c.args.toList.map σ.ev)++l.map (u9 σ.ah)) (c.args.map a.eval++vs):=by
          refine⟨by simp[va,e2],fun j cv hj=> ?_⟩;rw[Array.getD_eq_getD_getElem?]
          by_cases aQ:j<c.args.size
          · rw[List.getElem?_append_left (by simpa [va] using aQ)] at hj;rw[Array.getElem?_append_left (by simpa using aQ)];have h1:(c.args.map a.eval).toList[j]? = some (a.eval c.args[j]):=by simp[aQ]
            have h2:=C7 r (wK r c.args) CN (by simp) j cv _ hj h1;simpa [aQ] using h2
          · rw[List.getElem?_append_right (by simpa [va] using Nat.le_of_not_lt aQ)] at hj;rw[Array.getElem?_append_right (by simpa using Nat.le_of_not_lt aQ)];simp only[va,List.length_map,Array.length_toList,Array.size_map,List.getElem?_map,Option.map_eq_some_iff] at hj ⊢;obtain⟨c0,h1,rfl⟩:=hj;have h2:=e3 _ c0 h1;have h3:=List.all_eq_true.1 C8 c0 (List.mem_of_getElem? h1);rw[←Array.getD_eq_getD_getElem?];exact HO r.HE h2 h3
         unfold Oper.wp;rw[cR];simp only[Oper.upon];refine(hs w _ dN).mono fun e w' he=> ?_;obtain⟨v,rv,nb,H',ρ',rfl,hp,cZ,hB,hv,bq⟩:=he;obtain⟨hlen,hK⟩:=hk rv nb hp;have nB:∀x o,w.heap[x]? = some o→w'.heap[x]? = some o:=fun x o hx=>hB.hh x o (hB.h0 x o hx);have oS:∀x,x<w.heap.size→w'.heap[x]? = w.heap[x]? :=fun x hx=>by rw[Array.getElem?_eq_getElem hx]; exact nB x _ (Array.getElem?_eq_getElem hx)
         have oT:∀i,i<nb.length→aP σ.ah (8*d+i)=none:=fun i hi=>by
          have :∀bs:List (Nat × an),u_ bs d=true→aP bs (8*d+i)=none:=by
            intro bs
            induction bs with
            | nil=>intro _; rfl
            | cons p bs ih=>
              intro xh;simp only[u_,List.all_cons,Bool.and_eq_true,Bool.or_eq_true,decide_eq_true_eq] at xh;simp only[aP];rw[if_neg (by omega)];exact ih xh.2
          exact this _ iO
         have HP:∀(i:Nat) B,nb[i]? = some B→(i,B)∈num 0 nb:=fun i B hi=>rf.2 ⟨Nat.zero_le _,by simpa using hi⟩
         obtain⟨tF,r1,g1,g2⟩:=aM.rN (H':=H') (ρ':=ρ') (w':=w') nb 0 (8*d) r (fun b o hb=>oS b (kW (r.b.hh b o hb))) (fun b hb=>oS b (r.lt hb)) bq
          (fun i B hi=>by
            have h1:=hB.ah i B (HP i B hi);rw[Nat.zero_add];have h2:=List.all_eq_true.1 cZ B (List.mem_of_getElem? hi);refine⟨?_,h2⟩;cases B with
            | own E xs l=>exact h1
            | dead=>cases h2
            | box cs=>cases h2
            | view E xs=>cases h2
            | mp m=>cases h2
            | ck E xs i fs=>cases h2)
          (fun i hi=>by rw[Nat.zero_add]; exact hB.oc i (oI.2 ⟨Nat.zero_le _,by omega⟩))
          (fun i x hi hx=>by
            rw[Nat.zero_add] at hx;have h1:=hB.fresh i _ (HP i _ (List.getElem?_eq_getElem hi)) x hx;refine r.uH ?_;rcases Nat.lt_or_ge x w.heap.size with h2 | h2
            · rw[Array.getElem?_eq_getElem h2] at h1; cases h1
            · exact h2)
          hB.sum oT
         refine⟨_,hK,⟨tF, ?_⟩,fun _=>nB⟩;rw[hd];refine aM.put r1 (RV.du (m:=fun i=>8*d+i) (D:=ay (num 0 nb)) (ρ:=ρ') (fun i hi=> ?_) (hv.grow (H':=H) (ρ':=ρ') (D':=ay (num 0 nb)) ⟨(fun _ _ h=>by cases h),(fun _ h=>⟨h,rfl⟩)⟩)) (some d);obtain⟨_,hi⟩:=oI.1 hi;have:=g1 i (by omega);rw[Nat.zero_add] at this;exact this
       · cases h
     · cases h
   · cases hc
 · cases hc
end
def C.nm:C→List Nat
 | .own k=>[k]
 | .ptr k _=>[k]
 | _=>[]
def xi:List C→List Nat
 | []=>[]
 | c::cs=>c.nm++xi cs
def V.nm:V→List Nat
 | .c x=>x.nm
 | .agg cs=>xi cs
 | .aS _=>[]
def C.pass:C→Bool
 | .own _ | .ptr _ _ | .bl _ | .nil | .undef=>true
 | .lf l=>l.sc
 | _=>false
def V.pass:V→Bool
 | .c x=>x.pass
 | .agg cs=>cs.all C.pass
 | .aS _=>false
def rO (ks:List Nat):List Nat→List Nat
 | []=>ks
 | x::xs=>if ks.contains x then rO ks xs else rO (ks ++ [x]) xs
def OQ:Option an→List Nat
 | some (.box cs)=>xi cs
 | _=>[]
def ku:List Bool→List V→List Nat
 | true::ms,v::vs=>v.nm++ku ms vs
 | false::ms,_::vs=>ku ms vs
 | _,_=>[]
def HQ (bs:List (Nat × an)):List Nat→List Nat
 | []=>[]
 | k::ks=>OQ (aP bs k)++HQ bs ks
def iy (bs:List (Nat × an)) (ms:List Bool) (vs:List V):List Nat:=
 rO (rO [] (ku ms vs)) (HQ bs (rO [] (ku ms vs)))
def mP (ks:List Nat):List (Nat × an)→List (Nat × an)
 | []=>[]
 | p::bs=>if ks.contains p.1 then mP ks bs else p::mP ks bs
def C.box (ks:List Nat):C→Bool
 | .own k=>ks.contains k
 | .lf l=>l.sc
 | .bl _ | .nil | .undef=>true
 | _=>false
def vd (ks:List Nat):Option an→Option an
 | some (.own E xs false)=>some (.own E xs false)
 | some (.view E xs)=>some (.view E xs)
 | some (.box cs)=>if cs.all (C.box ks)=true then some (.box (kX (place ks) cs)) else none
 | _=>none
def xj (bs:List (Nat × an)) (ks:List Nat):List Nat→Option (List an)
 | []=>some []
 | k::r=>match vd ks (aP bs k),xj bs ks r with | some B,some l=>some (B::l) | _,_=>none
def jB (tab:bh) (bs:List (Nat × an)) (ks:List Nat):List Bool→List TypeId→List V→List V
 | _,_,[]=>[]
 | true::ms,Ts,v::vs=>v.du (place ks)::jB tab bs ks ms Ts.tail vs
 | ms,T::Ts,v::vs=>zI tab bs T v::jB tab bs ks ms.tail Ts vs
 | ms,[],_::vs=> .c .undef::jB tab bs ks ms.tail [] vs
def qm (bs:List (Nat × an)):List Bool→List V→Bool
 | _,[]=>true
 | true::ms,v::vs=>v.pass && qm bs ms vs
 | ms,v::vs=>v.qk bs && qm bs ms.tail vs
def kx (ks:List Nat) (d j:Nat):Nat:=if j<100 then ks.getD j 0 else 8*d+(j - 100)
def an.du (m:Nat→Nat):an→an
 | .box cs=> .box (kX m cs)
 | B=>B
def mQ (bs:List (Nat × an)) (k:Nat) (B:an):List (Nat × an):=
 match aP bs k with
 | some _=>bZ bs k B
 | none=>dA bs k B
def rP (m:Nat→Nat):List (Nat × an)→List (Nat × an)→List (Nat × an)
 | [],bs=>bs
 | (_, .dead)::r,bs=>rP m r bs
 | (j,B)::r,bs=>rP m r (mQ bs (m j) (B.du m))
def mf (bs:List (Nat × an)):List Nat→List (Nat × an)→List (Nat × an)
 | [],cs=>cs
 | k ::ks,cs=>match aP bs k with
   | some (.view E xs)=>(match aP cs k with | some .dead=>mf bs ks (bZ cs k (.view E xs)) | _=>mf bs ks cs)
   | _=>mf bs ks cs
def C.bk (n:Nat):C→Bool
 | .own k=>decide (k<n)
 | .lf l=>l.sc
 | .bl _ | .nil | .undef=>true
 | _=>false
def xk (n:Nat) (p:Nat × an):Bool:=
 (decide (p.1<n) || (decide (100≤p.1) && decide (p.1<108))) &&
  match p.2 with
  | .own _ _ false=>true
  | .box cs=>cs.all (C.bk n)
  | .dead=>decide (p.1<n)
  | _=>false
inductive aD (P:Program) (f:FuncId) (as:List V) (bs:List (Nat × an)) (K:V→List (Nat × an)→Prop):Prop where
 | mk (post:V→List (Nat × an)→Prop) (hs:bJ P f as bs post) (hk:∀r cm,post r cm→K r cm)
def C_ (P:Program) (tab:bh) (σ:SS) (f:FuncId) (l:List Cp) (ms:List Bool) (c:Call) (d:Nat) (K:SS→Prop):Prop:=
 match xj σ.ah (iy σ.ah ms (c.args.toList.map σ.ev)) (iy σ.ah ms (c.args.toList.map σ.ev)) with
 | some nb=>
   if u_ σ.ah d=true∧nb.length≤100∧eX (iy σ.ah ms (c.args.toList.map σ.ev))=true∧C3 (mP (iy σ.ah ms (c.args.toList.map σ.ev)) σ.ah) l=true∧c.argTypes.size=c.args.size∧
     qm (mP (iy σ.ah ms (c.args.toList.map σ.ev)) σ.ah) ms (c.args.toList.map σ.ev)=true then
    aD P f (jB tab (mP (iy σ.ah ms (c.args.toList.map σ.ev)) σ.ah) (iy σ.ah ms (c.args.toList.map σ.ev)) ms c.argTypes.toList (c.args.toList.map σ.ev)++l.map (u9 (mP (iy σ.ah ms (c.args.toList.map σ.ev)) σ.ah))) (num 0 nb) fun r cm=>
     (cm.all (xk nb.length)=true∧r.cl=true)∧
      K (({σ with ah:=mf σ.ah (iy σ.ah ms (c.args.toList.map σ.ev)) (rP (kx (iy σ.ah ms (c.args.toList.map σ.ev)) d) cm (fR σ.ah (iy σ.ah ms (c.args.toList.map σ.ev))))}:SS).put (some d) (r.du (kx (iy σ.ah ms (c.args.toList.map σ.ev)) d)))
   else False
 | none=>False
def zK (P:Program) (tab:bh) (σ:SS) (v:V) (c:Call) (dst:Option Nat) (K:SS→Prop):Prop:=
 match v,dst with
 | .c (.fn f l),some d=>
   match wB tab f with
   | some ms=>C_ P tab σ f l ms c d K
   | none=>C6 P tab σ v c dst K
 | _,_=>False
theorem OR {ks:List Nat} {bs:List (Nat × an)} {k:Nat} {B:an} (h:aP (mP ks bs) k=some B):aP bs k=some B∧k∉ks:=by
 induction bs with
 | nil=>simp[mP,aP] at h
 | cons p bs ih=>
   simp only[mP] at h
   split at h
   · rename_i hc;obtain⟨h1,h2⟩:=ih h;refine⟨?_,h2⟩;simp only[aP];rw[if_neg fun he=>h2 (by rw[←he]; simpa using hc)];exact h1
   · rename_i hc;simp only[aP] at h ⊢
     split at h
     · rename_i he;cases h;rw[if_pos he];exact⟨rfl,by rw[←he]; simpa using hc⟩
     · rename_i he;rw[if_neg he];exact ih h
theorem Da {bs:List (Nat × an)} {k:Nat} {B:an} {j:Nat}:ay (mQ bs k B) j↔j=k∨ay bs j:=by
 unfold mQ
 split
 · rename_i hk;rw[fh];exact⟨.inr,fun h=>by rcases h with rfl | h; exact fP hk; exact h⟩
 · exact gx
theorem OS {l:List Nat} (h:eX l=true):l.Nodup:=by
 induction l with
 | nil=>simp
 | cons x l ih=>obtain⟨h1,h2⟩:=wQ h; exact List.nodup_cons.2 ⟨h1,ih h2⟩
section
variable {Γ : Ctx} {H : Hp} {a : Act} {w w' : World}
theorem aM.move {ρ:aK} {σ:SS} (r:aM Γ H ρ σ a w) (h1:∀b o,H b=some o→w'.heap[b]? = w.heap[b]?) (h2:∀b,0<aT ρ σ.ah b→w'.heap[b]? = w.heap[b]?) (h3:Ext w w'):aM Γ H ρ σ a w':=by
 refine⟨⟨r.b.oc,r.b.nd,r.b.h0,fun b o hb=> ?_,fun k B hk=> ?_,r.b.sum,r.b.fresh,r.b.im⟩,r.e,r.d,r.n.trans h3,r.hd,r.hm⟩
 · rw[h1 b o hb]; exact r.b.hh b o hb
 · exact(r.b.ah k B hk).mono (ki.refl _ _ _) fun b hb=>h2 b (Nat.lt_of_lt_of_le hb (nu hk b))
theorem Db {bs:List (Nat × an)} {k:Nat} {B:an}:ay (bZ bs k B)=ay bs:=by funext j; exact propext fh
theorem aM.OT {ρ:aK} {σ:SS} (r:aM Γ H ρ σ a w) {k:Nat} (hne:∀p∈Γ.hd,p.1≠k) {B:an} {p:Value × (Nat→Nat)} (hk:aP σ.ah k=none∨(aP σ.ah k=some .dead∧p.1=(ρ k).1)) (eI:p.1.oneCell'=true)
   (dP:∀x,0<p.2 x→H x=none∧aT ρ σ.ah x=0) (hle:∀x,p.2 x≤1) (hB:∀ρ':aK,∀D':Nat→Prop,(∀q,q≠k→ρ' q=ρ q)→(ρ' k).1=p.1→(∀q,ay σ.ah q→D' q)→D' k→cO w.heap H ρ' D' B p) (wM:B≠ .dead)
   (tz:∀x,gk B p x→0<p.2 x) :
   ∃ ρ',aM Γ H ρ' {σ with ah:=mQ σ.ah k B} a w∧(∀q,q≠k→ρ' q=ρ q)∧ρ' k=p:=by
 rcases hk with hk | ⟨hk,hp⟩
 · have r1:=r.th (w':=w) (k:=k) (B:=B) (p:=p) hk (fun _ _ _=>rfl) (fun _ _=>rfl) (Ext.refl _) eI dP hle (hB _ _ (fun q hq=>dm hq) (by rw[dM]) (fun q hq=>gx.2 (.inr hq)) (gx.2 (.inl rfl))) wM;refine⟨_, ?_,fun q hq=>dm hq,dM _ _ _⟩;unfold mQ;rw[hk];exact r1
 · have hz:∀x,(ρ k).2 x=0:=fun x=>by
    have:=r.b.ah k _ (dk hk);rw[this]
   obtain⟨pv,ps⟩:=p;simp only at hp;subst hp
   have r1:=r.CK (w':=w) (k:=k) hne (B:=B) (p:=ps) (fP hk) hz (fun _ _ _=>rfl) (Ext.refl _)
    (hB (de ρ k ((ρ k).1,ps)) (ay (bZ σ.ah k B)) (fun q hq=>dm hq) (by rw[dM]) (fun q hq=>fh.2 hq) (fh.2 (fP hk))) tz dP hle
   refine⟨_, ?_,fun q hq=>dm hq,dM _ _ _⟩;unfold mQ;rw[hk];exact r1
theorem aM.OU {ρ:aK} {σ:SS} (r:aM Γ H ρ σ a w) {k:Nat} {E:av} {xs:Unit→List E.α} (hk:aP σ.ah k=some .dead) (hv:RL H (.list E xs) (ρ k).1):aM Γ H ρ {σ with ah:=bZ σ.ah k (.view E xs)} a w:=by
 have hz:(ρ k).2=fun _=>0:=r.b.ah k _ (dk hk);have hd:ay (bZ σ.ah k (.view E xs))=ay σ.ah:=Db;refine⟨⟨fun j hj=>r.b.oc j (hd▸hj),by rw[s9]; exact r.b.nd,r.b.h0,r.b.hh,fun j B hj=> ?_,fun x=> ?_,fun j B hj x hx=> ?_,fun j B hj x hx=> ?_⟩, ?_,r.d,r.n,fun p hp=> ?_,fun p hp=> ?_⟩
 · show cO w.heap H ρ (ay (bZ σ.ah k (.view E xs))) B (ρ j);rw[hd];rcases kR r.b.nd hj with⟨rfl,rfl⟩ | ⟨_,h⟩
   · exact⟨hv,hz⟩
   · exact r.b.ah j B h
 · have h1:=s_ (ρ:=ρ) (ρ':=ρ) r.b.nd (B:= .view E xs) (fP hk) (fun _ _=>rfl) x;have h2:=r.b.sum x;show aT ρ (bZ σ.ah k (.view E xs)) x≤1;omega
 · rcases kR r.b.nd hj with⟨rfl,rfl⟩ | ⟨_,h⟩
   · rw[hz] at hx; simp at hx
   · exact r.b.fresh j B h x hx
 · rcases kR r.b.nd hj with⟨rfl,rfl⟩ | ⟨_,h⟩
   · exact hx.elim
   · exact r.b.im j B h x hx
 · show oC H ρ (ay (bZ σ.ah k (.view E xs))) σ.env a.tmps;rw[hd]; exact r.e
 · have:=r.hd p hp;exact⟨by show ay (bZ σ.ah k (.view E xs)) p.1; rw[hd]; exact this.1,this.2⟩
 · have:=r.hm p hp;exact⟨by show ay (bZ σ.ah k (.view E xs)) p.1; rw[hd]; exact this.1,this.2⟩
theorem aM.mf {ρ:aK} {bs:List (Nat × an)}:∀(ks:List Nat) {σ:SS},aM Γ H ρ σ a w→(∀k∈ks,∀(E:av) (xs:Unit→List E.α),aP bs k=some (.view E xs)→RL H (.list E xs) (ρ k).1)→
   aM Γ H ρ {σ with ah:=Go.Proofs.YtpklefhdkkegiaaGreat.mf bs ks σ.ah} a w∧ay (Go.Proofs.YtpklefhdkkegiaaGreat.mf bs ks σ.ah)=ay σ.ah
 | [],σ,r,_=>⟨r,rfl⟩
 | k ::ks,σ,r,h=>by
   have h':=fun j hj=>h j (List.mem_cons_of_mem _ hj);simp only[Go.Proofs.YtpklefhdkkegiaaGreat.mf]
   split
   · rename_i E xs hg
     split
     · rename_i hk;obtain⟨q1,q2⟩:=aM.mf ks (r.OU hk (h k List.mem_cons_self E xs hg)) h';exact⟨q1,q2.trans Db⟩
     · exact aM.mf ks r h'
   · exact aM.mf ks r h'
theorem aM.Dc {m :Nat→Nat} {n:Nat} {H':Hp} {ρ2:aK} {D2:Nat→Prop}:∀(l:List (Nat × an)) {ρ:aK} {σ:SS},aM Γ H ρ σ a w→(∀p∈Γ.hd,∀j B,(j,B)∈l→p.1≠m j)→
   (l.all (xk n)=true)→(∀j B,(j,B)∈l→cO w.heap H' ρ2 D2 B (ρ2 j)∧(ρ2 j).1.oneCell'=true∧(aP σ.ah (m j)=none∨(aP σ.ah (m j)=some .dead∧(ρ2 j).1=(ρ (m j)).1)))→
   (∀j B,(j,B)∈l→∀x,0<(ρ2 j).2 x→H x=none∧aT ρ σ.ah x=0)→(∀x,aT ρ2 l x≤1)→((l.map fun p=>m p.1).Nodup)→(∀j,j<n→D2 j→ay σ.ah (m j)∧(ρ2 j).1=(ρ (m j)).1)→(∀j B,(j,B)∈l→D2 j)→
   ∃ ρ',aM Γ H ρ' {σ with ah:=rP m l σ.ah} a w∧(∀q,ay σ.ah q→ay (rP m l σ.ah) q)∧(∀q,q∉l.map (fun p=>m p.1)→ρ' q=ρ q)∧(∀j B,(j,B)∈l→ay (rP m l σ.ah) (m j)∧ρ' (m j)=ρ2 j)
 | [],ρ,σ,r,_,_,_,_,_,_,_,_=>⟨ρ,r,fun q hq=>hq,fun q _=>rfl,fun j B hj=>by cases hj⟩
 | (j, B) :: l, ρ,σ,r,hne,cL,hX,dP,fZ,jy,fB,hD=>by
   by_cases mM:B = .dead
   · subst mM;simp only[List.all_cons,Bool.and_eq_true] at cL;simp only[List.map_cons,List.nodup_cons] at jy
     obtain⟨ρ',r',g3,g4,g5⟩:=aM.Dc (m:=m) (n:=n) (H':=H') (ρ2:=ρ2) (D2:=D2) l r (fun p hp j' B' h=>hne p hp j' B' (List.mem_cons_of_mem _ h)) cL.2 (fun j' B' h=>hX j' B' (List.mem_cons_of_mem _ h)) (fun j' B' h=>dP j' B' (List.mem_cons_of_mem _ h))
       (fun x=>by have:=fZ x; simp only[aT] at this; omega) jy.2 fB (fun j' B' h=>hD j' B' (List.mem_cons_of_mem _ h))
     refine⟨ρ',r',g3,fun q hq=>g4 q fun h=>hq (List.mem_cons_of_mem _ h),fun j' B' h=> ?_⟩;rcases List.mem_cons.1 h with h | h
     · cases h;obtain⟨hB,_,hk⟩:=hX j .dead List.mem_cons_self
       have hj:j<n:=by
         have:=cL.1;simp only[xk,Bool.and_eq_true,decide_eq_true_eq] at this;exact this.2
       obtain⟨q1,q2⟩:=fB j hj (hD j _ List.mem_cons_self);rcases hk with hk | ⟨hk,_⟩
       · exact(jO hk q1).elim
       · refine⟨g3 _ q1, ?_⟩;rw[g4 _ jy.1];have e1:(ρ (m j)).2=fun _=>0:=r.b.ah _ _ (dk hk);have e2:(ρ2 j).2=fun _=>0:=hB;exact Prod.ext q2.symm (by rw[e1,e2])
     · exact g5 j' B' h
   have eg:∀bs,rP m ((j,B)::l) bs=rP m l (mQ bs (m j) (B.du m)):=fun bs=>by
     cases B with
     | dead=>exact(mM rfl).elim
     | _=>rfl
   simp only[eg];simp only[List.all_cons,Bool.and_eq_true] at cL;simp only[List.map_cons,List.nodup_cons] at jy;obtain⟨hB,eI,hk⟩:=hX j B List.mem_cons_self;have hle:∀x,(ρ2 j).2 x≤1:=fun x=>by have:=fZ x; simp only[aT] at this; omega
   have nE:=cL.1;unfold xk at nE;simp only[Bool.and_eq_true] at nE
   obtain ⟨ρ1, r1,g1,g2⟩:=r.OT (B:=B.du m) (p:=ρ2 j) (fun p hp=>hne p hp j B List.mem_cons_self) hk eI (dP j B List.mem_cons_self) hle (fun ρ' D' h1 OV h2 h3=>by
       cases B with
       | own E xs l=>exact hB
       | box cs=>
         obtain⟨b,vs,e,fz,e1,e2,e3,e4,e5⟩:=hB;refine⟨b,vs,e,fz,e1,e2,e3,e4,by rw[uK]; exact e5.1,fun q c hq=> ?_⟩;obtain⟨c0,dZ,rfl⟩:=uJ hq;have hc:=e5.2 q c0 dZ;have oU:=List.all_eq_true.1 nE.2 c0 (List.mem_of_getElem? dZ);cases c0 with
         | own k=>
           simp only[C.bk,decide_eq_true_eq] at oU;obtain⟨f1,f2⟩:=hc;obtain⟨f3,f4⟩:=fB k oU f1;refine⟨h2 _ f3, ?_⟩;rw[f2]
           by_cases qj:m k=m j
           · rw[qj,OV,f4,qj];rcases hk with hk | ⟨hk,bL⟩
             · exact(jO hk (qj▸f3)).elim
             · exact bL.symm
           · rw[h1 _ qj]; exact f4
         | lf l=>cases l <;> first | exact(RC.cl (H':=H) (ρ:=ρ') (D:=D') (c:= .lf _) (by first | exact hc) rfl) | exact(by cases oU)
         | bl b=>exact hc
         | nil=>exact hc
         | undef=>trivial
         | ptr k off=>cases oU
         | el E x off=>cases oU
         | cg ls off=>cases oU
         | fx k E i off=>cases oU
         | fn f l=>cases oU
       | dead=>exact(mM rfl).elim
       | view E xs=>cases nE.2
       | mp m=>cases nE.2
       | ck E xs i fs=>cases nE.2) (by cases B <;> simp[an.du] at nE mM ⊢) (fun x hx=>by
       cases B with
       | own E xs l=>cases l with
         | false=>exact hx
         | true=>cases nE.2
       | box cs=>exact hx
       | dead=>exact(mM rfl).elim
       | view E xs=>cases nE.2
       | mp m=>cases nE.2
       | ck E xs i fs=>cases nE.2)
   have cA:∀j' B',(j',B')∈l→m j'≠m j:=fun j' B' h he=>jy.1 (by rw[←he]; exact List.mem_map.2 ⟨_,h,rfl⟩)
   have gK :∀x,aT ρ1 (mQ σ.ah (m j) (B.du m)) x=aT ρ σ.ah x+(ρ2 j).2 x:=fun x=>by
     unfold mQ
     split
     · rename_i A hA;have h1:=s_ (ρ:=ρ) (ρ':=ρ1) r.b.nd (B:=B.du m) (fP hA) (fun q hq=>g1 q hq) x;rw[g2] at h1
       have h2:(ρ (m j)).2 x=0:=by
         rcases hk with hk | ⟨hk,_⟩
         · rw[hk] at hA; cases hA
         · have:=r.b.ah _ _ (dk hk); rw[this]
       omega
     · rename_i hA;rw[y6,g2,wA (ρ:=ρ) (ρ':=ρ1) fun q hq=>g1 q fun he=>jO hA (he▸hq)];omega
   obtain ⟨ρ', r',g3,g4,g5⟩:=aM.Dc (m:=m) (n:=n) (H':=H') (ρ2:=ρ2) (D2:=D2) l r1 (fun p hp j' B' h=>hne p hp j' B' (List.mem_cons_of_mem _ h)) cL.2
     (fun j' B' cQ=>by
       obtain⟨q1,q2,q3⟩:=hX j' B' (List.mem_cons_of_mem _ cQ);have hne:=cA j' B' cQ;refine⟨q1,q2, ?_⟩
       have dY : aP (mQ σ.ah (m j) (B.du m)) (m j')=aP σ.ah (m j'):=by
         unfold mQ
         split
         · have :∀bs:List (Nat × an),aP (bZ bs (m j) (B.du m)) (m j')=aP bs (m j'):=by
             intro bs
             induction bs with
             | nil=>rfl
             | cons p bs ih=>
               simp only[bZ]
               split
               · rename_i hp;simp only[aP,hp,if_neg (Ne.symm hne)]
               · simp only[aP,ih]
           exact this _
         · have :∀bs:List (Nat × an),aP (dA bs (m j) (B.du m)) (m j')=aP bs (m j'):=by
             intro bs
             induction bs with
             | nil=>simp only[dA,aP,if_neg (Ne.symm hne)]
             | cons p bs ih=>
               simp only[dA]
               split
               · simp only[aP,if_neg (Ne.symm hne)]
               · simp only[aP,ih]
           exact this _
       rw[dY,g1 _ hne];exact q3)
     (fun j' B' cQ x hx=>by
       obtain⟨q1,q2⟩:=dP j' B' (List.mem_cons_of_mem _ cQ) x hx;refine⟨q1, ?_⟩;show aT ρ1 (mQ σ.ah (m j) (B.du m)) x=0;rw[gK,q2];have h1:=fZ x;have h2:=nu (ρ:=ρ2) cQ x;simp only[aT] at h1;omega)
     (fun x=>by have:=fZ x; simp only[aT] at this; omega) jy.2
     (fun q hq hD=>by
       obtain⟨q1,q2⟩:=fB q hq hD;refine⟨Da.2 (.inr q1), ?_⟩
       by_cases he:m q=m j
       · rw[he,g2];rw[q2,he];rcases hk with hk | ⟨_,hk⟩
         · exact(jO hk (he▸q1)).elim
         · exact hk.symm
       · rw[g1 _ he]; exact q2) (fun j' B' h=>hD j' B' (List.mem_cons_of_mem _ h))
   refine⟨ρ',r',fun q hq=>g3 q (Da.2 (.inr hq)),fun q hq=> ?_,fun j' B' cQ=> ?_⟩
   · simp only[List.map_cons,List.mem_cons,not_or] at hq;rw[g4 q hq.2,g1 q hq.1]
   · rcases List.mem_cons.1 cQ with h | h
     · cases h;exact⟨g3 _ (Da.2 (.inl rfl)),by rw[g4 _ jy.1,g2]⟩
     · exact g5 j' B' h
end
theorem OW {bs:List (Nat × an)} {k j:Nat} {B:an} (h:j≠k):aP (bZ bs k B) j=aP bs j:=by
 induction bs with
 | nil=>rfl
 | cons p bs ih=>
   simp only[bZ]
   split
   · rename_i hp;simp only[aP,hp,if_neg (Ne.symm h)]
   · simp only[aP,ih]
theorem HS:∀{ks:List Nat} {bs:List (Nat × an)} {k:Nat},ay bs k→(k∈ks∨aP bs k=some .dead)→aP (fR bs ks) k=some .dead
 | [],bs,k,_,h=>h.resolve_left (by simp)
 | j :: ks,bs,k,hd,h=>by
   simp only[fR];refine HS (fh.2 hd) ?_
   by_cases hk:k=j
   · subst hk; exact .inr (CJ hd)
   · rw [OW hk];rcases h with h | h
     · rcases List.mem_cons.1 h with h | h
       · exact(hk h).elim
       · exact .inl h
     · exact .inr h
theorem HT:∀{ks r:List Nat} {bs:List (Nat × an)} {nb:List an},xj bs ks r=some nb→nb.length=r.length∧∀(j:Nat) B,nb[j]? = some B→∃k A,r[j]? = some k∧aP bs k=some A∧vd ks (some A)=some B
 | ks,[],bs,nb,h=>by simp only[xj,Option.some.injEq] at h; subst h; exact⟨rfl,fun j B hj=>by simp at hj⟩
 | ks, k ::r,bs,nb,h=>by
   simp only[xj] at h
   split at h
   · rename_i B l h1 h2;cases h;obtain⟨g1,g2⟩:=HT h2;refine⟨by simp[g1],fun j B' hj=> ?_⟩;cases j with
     | zero=>
       simp at hj; subst hj;cases hg:aP bs k with
       | none=>rw[hg] at h1; simp[vd] at h1
       | some A=>exact⟨k,A,rfl,hg,by rw[←hg]; exact h1⟩
     | succ j=>simpa using g2 j B' (by simpa using hj)
   · cases h
theorem Dd {ks:List Nat} {A B:an} (h:vd ks (some A)=some B):(∃E xs,A = .own E xs false∧B = .own E xs false)∨(∃cs,A = .box cs∧cs.all (C.box ks)=true∧B = .box (kX (place ks) cs))∨∃E xs,A = .view E xs∧B = .view E xs:=by
 unfold vd at h
 split at h
 · rename_i E xs hA; cases hA; cases h; exact .inl ⟨E,xs,rfl,rfl⟩
 · rename_i E xs hA; cases hA; cases h; exact .inr (.inr ⟨E,xs,rfl,rfl⟩)
 · rename_i cs hA;cases hA
   split at h
   · rename_i hc; cases h; exact .inr (.inl ⟨cs,rfl,hc,rfl⟩)
   · cases h
 · cases h
theorem HU {ks xs:List Nat} {k:Nat} (h:k∈ks∨k∈xs):k∈rO ks xs:=by
 induction xs generalizing ks with
 | nil=>simpa [rO] using h
 | cons x xs ih=>
   simp only[rO]
   split
   · rename_i hc;refine ih ?_;rcases h with h | h
     · exact .inl h
     · rcases List.mem_cons.1 h with rfl | h
       · exact .inl (by simpa using hc)
       · exact .inr h
   · refine ih ?_;rcases h with h | h
     · exact .inl (List.mem_append_left _ h)
     · rcases List.mem_cons.1 h with rfl | h
       · exact .inl (List.mem_append_right _ List.mem_cons_self)
       · exact .inr h
theorem OX {cs:List C} {c:C} {k:Nat} (hc:c∈cs) (hk:k∈c.nm):k∈xi cs:=by
 induction cs with
 | nil=>cases hc
 | cons x cs ih=>
   simp only[xi,List.mem_append];cases hc with
   | head=>exact .inl hk
   | tail _ hc=>exact .inr (ih hc)
section
variable {H H1 : Hp} {ρ ρ1 : aK} {D D1 : Nat → Prop} {ks : List Nat}
theorem RC.hand (je:∀k,k∈ks→D1 (place ks k)∧(ρ1 (place ks k)).1=(ρ k).1) {c:C} {v:Value} (h:RC H ρ D c v) (hp:c.pass=true) (hn:∀k∈c.nm,k∈ks):RC H1 ρ1 D1 (c.du (place ks)) v:=by
 cases c with
 | own k=>
   obtain⟨_,h1⟩:=h;have:=je k (hn k (by simp[C.nm]));exact⟨this.1,by rw[this.2]; exact h1⟩
 | ptr k off=>
   obtain⟨_,b,h1,h2⟩:=h;have:=je k (hn k (by simp[C.nm]));exact⟨this.1,b,by rw[this.2]; exact h1,h2⟩
 | lf l=>cases l <;> first | exact(RC.cl (H':=H1) (ρ:=ρ1) (D:=D1) (c:= .lf _) (by first | exact h) rfl) | exact(by cases hp)
 | bl b=>exact h
 | nil=>exact h
 | undef=>trivial
 | el E x off=>cases hp
 | cg ls off=>cases hp
 | fx k E i off=>cases hp
 | fn f l=>cases hp
theorem RV.hand (je:∀k,k∈ks→D1 (place ks k)∧(ρ1 (place ks k)).1=(ρ k).1) {c:V} {v:Value} (h:RV H ρ D c v) (hp:c.pass=true) (hn:∀k∈c.nm,k∈ks):RV H1 ρ1 D1 (c.du (place ks)) v:=by
 cases c with
 | c x=>exact RC.hand je h hp hn
 | agg cs=>
   obtain⟨vs,h1,h2⟩:=h;refine⟨vs,h1,by rw[uK]; exact h2.1,fun j c hj=> ?_⟩;obtain⟨c0,dZ,rfl⟩:=uJ hj;exact RC.hand je (h2.2 j c0 dZ) (List.all_eq_true.1 hp c0 (List.mem_of_getElem? dZ)) fun k hk=>hn k (OX (List.mem_of_getElem? dZ) hk)
 | aS cs=>cases hp
theorem ve {tab:bh} {bs:List (Nat × an)}:∀{vs:List V} {ms:List Bool} {Ts:List TypeId},(jB tab bs ks ms Ts vs).length=vs.length
 | [],ms,Ts=>by cases ms <;> simp[jB]
 | v ::vs,ms,Ts=>by
   rcases ms with _ | ⟨m,ms⟩
   · cases Ts <;> simp[jB,ve (vs:=vs)]
   · cases m <;> cases Ts <;> simp[jB,ve (vs:=vs)]
def De (tab:bh) (bs:List (Nat × an)) (x:V):List TypeId→V
 | T::_=>zI tab bs T x
 | []=> .c .undef
theorem HV {w:World} {tab:bh} {bs:List (Nat × an)} (L:zJ w H H1 ρ D bs) (je:∀k,k∈ks→D1 (place ks k)∧(ρ1 (place ks k)).1=(ρ k).1) :
   ∀ {vs:List V} {ms:List Bool} {Ts:List TypeId} {us:List Value},(∀(j:Nat) c v,vs[j]? = some c→us[j]? = some v→RV H ρ D c v)→qm bs ms vs=true→(∀k∈ku ms vs,k∈ks)→vs.length=us.length→
   ∀ (j:Nat) c v,(jB tab bs ks ms Ts vs)[j]? = some c→us[j]? = some v→RV H1 ρ1 D1 c v
 | [],ms,Ts,us,_,_,_,_,j,c,v,h,_=>by rcases ms with _ | ⟨m,ms⟩ <;> simp[jB] at h
 | x::vs,ms,Ts,[],_,_,_,hl,_,_,_,_,_=>by simp at hl
 | x :: vs,ms,Ts,u::us,hv,ho,hn,hl,j,c,v,h,h'=>by
   have rest:∀{ms':List Bool} {Ts':List TypeId},qm bs ms' vs=true→(∀k∈ku ms' vs,k∈ks)→∀(j:Nat) c v,(jB tab bs ks ms' Ts' vs)[j]? = some c→us[j]? = some v→RV H1 ρ1 D1 c v:=fun g1 g2=>
     HV L je (fun j c v q1 q2=>hv (j+1) c v (by simpa using q1) (by simpa using q2)) g1 g2 (by simpa using hl)
   have ro:∀{ms':List Bool},x.qk bs=true→qm bs ms' vs=true→(∀k∈ku ms' vs,k∈ks)→jB tab bs ks ms Ts (x::vs)=De tab bs x Ts::jB tab bs ks ms' Ts.tail vs→RV H1 ρ1 D1 c v:=by
     intro ms' g1 g2 g3 ge;rw[ge] at h;cases j with
     | zero=>
       simp only[List.getElem?_cons_zero,Option.some.injEq] at h h';subst h; subst h';cases Ts with
       | nil=>trivial
       | cons T Ts=>exact HN L (hv 0 x u rfl rfl) g1
     | succ j=>exact rest g2 g3 j c v (by simpa using h) (by simpa using h')
   rcases ms with _ | ⟨m,ms⟩
   · simp only[qm,Bool.and_eq_true] at ho;refine ro (ms':=[]) ho.1 ho.2 (fun k hk=>by cases vs <;> simp[ku] at hk) ?_;cases Ts <;> simp[jB,De]
   · cases m with
     | false=>
       simp only[qm,Bool.and_eq_true,List.tail_cons] at ho;refine ro (ms':=ms) ho.1 ho.2 (fun k hk=>hn k (by simpa [ku] using hk)) ?_;cases Ts <;> simp[jB,De]
     | true=>
       simp only[qm,Bool.and_eq_true] at ho;cases j with
       | zero=>
         simp only[jB,List.getElem?_cons_zero,Option.some.injEq] at h h';subst h; subst h';exact RV.hand je (hv 0 x u rfl rfl) ho.1 fun k hk=>hn k (by simp[ku,hk])
       | succ j=>exact rest (ms':=ms) (Ts':=Ts.tail) ho.2 (fun k hk=>hn k (by simp[ku,hk])) j c v (by simpa [jB] using h) (by simpa using h')
end
theorem HW {m:Nat→Nat}:∀{l:List (Nat × an)},(l.map (·.1)).Nodup→(∀p∈l,∀q∈l,m p.1=m q.1→p.1=q.1)→(l.map fun p=>m p.1).Nodup
 | [],_,_=>by simp
 | p ::l,hn,hi=>by
   simp only[List.map_cons,List.nodup_cons] at hn ⊢;refine⟨fun hm=> ?_,HW hn.2 fun a ha b hb=>hi a (List.mem_cons_of_mem _ ha) b (List.mem_cons_of_mem _ hb)⟩;obtain⟨q,hq,he⟩:=List.mem_map.1 hm;refine hn.1 (List.mem_map.2 ⟨q,hq, ?_⟩);exact hi q (List.mem_cons_of_mem _ hq) p List.mem_cons_self he
section
variable {P : Program} {tab : bh} {Γ : Ctx} {H : Hp} {ρ : aK} {σ : SS} {a : Act} {w : World} (r : aM Γ H ρ σ a w)
include r
theorem HX {o : Oper} {f:FuncId} {l:List Cp} {ms:List Bool} {c:Call} (hne:∀p∈Γ.hd,p.1∉iy σ.ah ms (c.args.toList.map σ.ev)) {d:Nat} {K:SS→Prop} {Q:Exit→Act→World→Prop} (hc:gD σ o=some (.c (.fn f l),c)) (hd:o.dst=some d) (h:C_ P tab σ f l ms c d K) :
   o.wp P a w (fun a' w'=>∃az,K az∧(∃ρ',aM Γ H ρ' az a' w')∧∀j,ay σ.ah j→j∉iy σ.ah ms (c.args.toList.map σ.ev)→∀x,0<(ρ j).2 x→w'.heap[x]? = w.heap[x]?) Q:=by
 unfold C_ at h;generalize je:iy σ.ah ms (c.args.toList.map σ.ev)=ks at h hne ⊢
 split at h
 · rename_i nb Cm
   split at h
   · rename_i tf;obtain⟨iO,Wi,xl,C8,Cd,cL⟩:=tf;obtain⟨hlen,dY⟩:=HT Cm
     have OY:∀k∈ku ms (c.args.toList.map σ.ev),k∈ks:=fun k hk=>by
       rw[←je]; exact HU (.inl (HU (.inr hk)))
     let mR:aK:=fun j=>ρ (ks.getD j 0)
     have zL:∀(j k:Nat),ks[j]? = some k→mR (0+j)=ρ k:=fun j k hj=>by
       simp only[mR,Nat.zero_add,List.getD_eq_getElem?_getD,hj,Option.getD_some]
     have HY:∀k∈ks,∃A,aP σ.ah k=some A∧((∃E xs,A = .own E xs false)∨(∃cs,A = .box cs)∨∃E xs,A = .view E xs):=fun k hk=>by
       obtain⟨j,hj,hO⟩:=List.getElem_of_mem hk;obtain⟨B,hB⟩:∃B,nb[j]? = some B:=⟨_,List.getElem?_eq_getElem (by omega)⟩;obtain⟨k',A,h1,h2,h3⟩:=dY j B hB;rw[List.getElem?_eq_getElem hj,hO] at h1;cases h1;refine⟨A,h2, ?_⟩;rcases Dd h3 with⟨E,xs,rfl,_⟩ | ⟨cs,rfl,_⟩ | ⟨E,xs,rfl,_⟩
       · exact .inl ⟨E,xs,rfl⟩
       · exact .inr (.inl ⟨cs,rfl⟩)
       · exact .inr (.inr ⟨E,xs,rfl⟩)
     have iN:∀k∈ks,ay σ.ah k:=fun k hk=>by obtain⟨A,h1,_⟩:=HY k hk; exact fP h1
     have OZ:∀k∈ks,∀x,0<(ρ k).2 x→H x=none:=fun k hk x hx=>by
       obtain⟨A,h1,h2⟩:=HY k hk;rcases h2 with⟨E,xs,rfl⟩ | ⟨cs,rfl⟩ | ⟨E,xs,rfl⟩
       · exact r.b.im k _ (dk h1) x hx
       · exact r.b.im k _ (dk h1) x hx
       · rw[(r.b.ah k _ (dk h1)).2] at hx; simp at hx
     have HZ:∀x,0<bW ρ ks x→H x=none:=fun x hx=>by
       obtain⟨k,hk,h1⟩:=zv hx;exact OZ k hk x h1
     have Df:∀x,aT mR (num 0 nb) x=bW ρ ks x:=fun x=>Ck hlen zL
     have H2:∀k∈ks,ay (num 0 nb) (place ks k)∧(mR (place ks k)).1=(ρ k).1:=fun k hk=>by
       have h1:=Cl hk;refine⟨oI.2 ⟨Nat.zero_le _,by rw[Nat.zero_add,hlen]; exact bC h1⟩, ?_⟩;have:=zL _ _ h1;rw[Nat.zero_add] at this;rw[this]
     let H1:Hp:=fQ w (aT mR (num 0 nb))
     have zM:∀x,bW ρ ks x=0→H1 x=w.heap[x]? :=fun x hx=>by
       simp only[H1,fQ,Df,hx,if_true]
     have H3:∀x o,H1 x=some o→w.heap[x]? = some o∧bW ρ ks x=0:=fun x o hx=>by
       simp only[H1,fQ,Df] at hx
       split at hx
       · rename_i h0; exact⟨hx,h0⟩
       · cases hx
     have Dg:∀b o,H b=some o→H1 b=some o:=fun b o hb=>by
       rw[zM b ?_]
       · exact r.b.hh b o hb
       · rcases Nat.eq_zero_or_pos (bW ρ ks b) with h0 | h0
         · exact h0
         · rw[HZ b h0] at hb; cases hb
     have H4:zJ w H H1 ρ (ay σ.ah) (mP ks σ.ah):=⟨Dg,fun k B hk=>by
       obtain⟨h1,h2⟩:=OR hk;refine⟨r.b.ah k B (dk h1),fun x hx=>zM x ?_⟩;have h3:=mI (ρ:=ρ) (k::ks) (bs:=σ.ah) (by simp[eX,h2,xl]) (fun j hj=>by rcases List.mem_cons.1 hj with rfl | hj; exact fP h1; exact iN j hj) x;have h4:=r.b.sum x;simp only[bW] at h3;omega⟩
     have O0 : gw w.heap H1 H1 mR (num 0 nb):=by
       have eI:∀j B,(j,B)∈num 0 nb→∃k A,ks[j]? = some k∧aP σ.ah k=some A∧vd ks (some A)=some B∧mR j=ρ k:=fun j B hj=>by
         obtain⟨_,h1⟩:=rf.1 hj;obtain⟨k,A,h2,h3,h4⟩:=dY j B (by simpa using h1);exact⟨k,A,h2,h3,h4,by have:=zL j k h2; rwa [Nat.zero_add] at this⟩
       have H5:∀j B x,(j,B)∈num 0 nb→0<(mR j).2 x→H1 x=none:=fun j B x hj hx=>by
         have h1:=nu (ρ:=mR) hj x;simp only[H1,fQ];rw[if_neg (by omega)]
       refine⟨fun j hj=> ?_,Cj,fun _ _ h=>h,fun b o hb=>(H3 b o hb).1,fun j B hj=> ?_,fun x=> ?_,fun j B hj x hx=>H5 j B x hj hx,fun j B hj x hx=>H5 j B x hj ?_⟩
       · obtain⟨⟨j',B⟩,wS,rfl⟩:=List.mem_map.1 hj;obtain⟨k,A,_,h2,_,h4⟩:=eI j' B wS;simp only;rw[h4]; exact r.b.oc k (fP h2)
       · obtain ⟨k,A,h1,h2,h3,h4⟩:=eI j B hj;have hA:=r.b.ah k A (dk h2);rw[h4];rcases Dd h3 with⟨E,xs,rfl,rfl⟩ | ⟨cs,rfl,dB,rfl⟩ | ⟨E,xs,rfl,rfl⟩;rotate_right
         · exact⟨hA.1.mono Dg,hA.2⟩
         · exact hA
         · obtain⟨b,vs,e,fz,e1,e2,e3,e4,e5⟩:=hA;refine⟨b,vs,e,fz,e1,e2,e3,e4,by rw[uK]; exact e5.1,fun q cq hq=> ?_⟩;obtain⟨c0,dZ,rfl⟩:=uJ hq;have hb:=List.all_eq_true.1 dB c0 (List.mem_of_getElem? dZ);have O1:=e5.2 q c0 dZ;refine RC.hand (fun k hk=>H2 k hk) O1 ?_ ?_
           · cases c0 <;> first | rfl | exact hb | exact(by cases hb)
           · intro k hk;cases c0 with
             | own k'=>
               simp only[C.nm,List.mem_singleton] at hk;subst hk;simpa [C.box] using hb
             | ptr k' off=>cases hb
             | _=>simp[C.nm] at hk
       · rw[Df];exact Nat.le_trans (mI ks xl iN x) (r.b.sum x)
       · obtain⟨k,A,h1,h2,h3,h4⟩:=eI j B hj;rcases Dd h3 with⟨E,xs,rfl,rfl⟩ | ⟨cs,rfl,dB,rfl⟩ | ⟨E,xs,rfl,rfl⟩
         · exact hx
         · exact hx
         · exact hx.elim
     unfold gD at hc
     split at hc
     · rename_i c0 aY
       split at hc
       · rename_i x fl;simp only[Option.some.injEq,Prod.mk.injEq] at hc;obtain⟨hx,rfl⟩:=hc;obtain⟨post,⟨⟨fn,ql,mO,C9⟩,hs⟩,hk⟩:=h;have ev:=km r.e x;rw[hx] at ev;obtain⟨vs,e1,e2,e3⟩:=ev
         have cR:(execOp a.eval o).run P w = .ok (.enter f (c0.args.map a.eval++vs)) w:=by
           simp only[execOp,aY,resolve,fl,Deferred.ofValue,e1,Sem.run_bind,Sem.run_pure,Result.andThen_ok,invoke,callFunc,run_program,ql,mO,C9];simp
         have dN:args H1 mR (ay (num 0 nb)) (jB tab (mP ks σ.ah) ks ms c0.argTypes.toList (c0.args.toList.map σ.ev)++l.map (u9 (mP ks σ.ah))) (c0.args.map a.eval++vs):=by
           refine⟨by simp[ve,e2],fun j cv hj=> ?_⟩;rw[Array.getD_eq_getD_getElem?]
           by_cases aQ:j<c0.args.size
           · rw[List.getElem?_append_left (by simpa [ve] using aQ)] at hj;rw[Array.getElem?_append_left (by simpa using aQ)];have h1:(c0.args.map a.eval).toList[j]? = some (a.eval c0.args[j]):=by simp[aQ]
             have h2:=HV H4 H2 (wK r c0.args) cL OY (by simp) j cv _ hj h1;simpa [aQ] using h2
           · rw[List.getElem?_append_right (by simpa [ve] using Nat.le_of_not_lt aQ)] at hj;rw[Array.getElem?_append_right (by simpa using Nat.le_of_not_lt aQ)];simp only[ve,List.length_map,Array.length_toList,Array.size_map,List.getElem?_map,Option.map_eq_some_iff] at hj ⊢;obtain⟨c1,h1,rfl⟩:=hj;have h2:=e3 _ c1 h1;have h3:=List.all_eq_true.1 C8 c1 (List.mem_of_getElem? h1);rw[←Array.getD_eq_getD_getElem?];exact HO H4 h2 h3
         unfold Oper.wp;rw[cR];simp only[Oper.upon];refine(hs w _ mR O0 dN).mono fun e w' he=> ?_;obtain⟨v,rv,cm,H',ρ2,rfl,hp,hB,hv,O2,O3⟩:=he;obtain⟨⟨H6,fA⟩,hK⟩:=hk rv cm hp;have O4:∀x o,H1 x=some o→w'.heap[x]? = some o:=fun x o hx=>hB.hh x o (hB.h0 x o hx)
         have oS:∀x,x<w.heap.size→bW ρ ks x=0→w'.heap[x]? = w.heap[x]? :=fun x hx h0=>by
           rw[Array.getElem?_eq_getElem hx];exact O4 x _ (by rw[zM x h0,Array.getElem?_eq_getElem hx])
         have H7:=fun x=>w4 (ρ:=ρ) (x:=x) r.b.nd xl iN;have r1:=r.fR iN
         have r2:=r1.move (w':=w') (fun b o hb=>by
             have h0:=(H3 b o (Dg b o hb)).2;exact oS b (kW (r.b.hh b o hb)) h0) (fun b hb=>by
             have h1:=H7 b;have h2:=r.b.sum b;have fF:0<aT (jk ρ ks) (Go.Proofs.YtpklefhdkkegiaaGreat.fR σ.ah ks) b:=hb;exact oS b (r.lt (by omega)) (by omega)) O2
         have qn:∀j,j<nb.length→kx ks d j∈ks∧ks[j]? = some (kx ks d j):=fun j hj=>by
           have h1:ks[j]? = some ks[j]:=List.getElem?_eq_getElem (by omega)
           have h2:kx ks d j=ks[j]:=by
             simp only[kx];rw[if_pos (by omega),List.getD_eq_getElem?_getD,h1,Option.getD_some]
           exact⟨by rw[h2]; exact List.getElem_mem _,by rw[h2]; exact h1⟩
         have eY:∀j,j<nb.length→ay cm j→(ρ2 j).1=(jk ρ ks (kx ks d j)).1:=fun j hj hD=>by
           rw[oL,O3 j hD (oI.2 ⟨Nat.zero_le _,by omega⟩)];have:=zL j _ (qn j hj).2;rw[Nat.zero_add] at this;rw[this]
         have s6:∀j B,(j,B)∈cm→j<nb.length∨(100≤j∧j<108):=fun j B hj=>by
           have:=List.all_eq_true.1 H6 _ hj;simp only[xk,Bool.and_eq_true,Bool.or_eq_true,decide_eq_true_eq] at this;exact this.1
         have eZ :∀i,i<8→aP σ.ah (8*d+i)=none:=fun i hi=>by
           have :∀bs:List (Nat × an),u_ bs d=true→aP bs (8*d+i)=none:=by
             intro bs
             induction bs with
             | nil=>intro _; rfl
             | cons p bs ih=>
               intro xh;simp only[u_,List.all_cons,Bool.and_eq_true,Bool.or_eq_true,decide_eq_true_eq] at xh;simp only[aP];rw[if_neg (by omega)];exact ih xh.2
           exact this _ iO
         have tG:∀j,100≤j→j<108→kx ks d j=8*d+(j - 100)∧aP σ.ah (kx ks d j)=none:=fun j h1 h2=>by
           have:kx ks d j=8*d+(j - 100):=by simp only[kx]; rw[if_neg (by omega)]
           exact⟨this,by rw[this]; exact eZ _ (by omega)⟩
         have O5:∀j1 B1 j2 B2,(j1,B1)∈cm→(j2,B2)∈cm→kx ks d j1=kx ks d j2→j1=j2:=fun j1 B1 j2 B2 h1 h2 he=>by
           rcases s6 j1 B1 h1 with k1 | ⟨k1,rQ⟩ <;> rcases s6 j2 B2 h2 with k2 | ⟨k2,H8⟩
           · have q1:=(qn j1 k1).2;have q2:=(qn j2 k2).2;rw[←he] at q2;have jy:=OS xl;exact(List.getElem?_inj (i:=j1) (j:=j2) (by omega) jy).1 (q1.trans q2.symm)
           · have q1:=iN _ (qn j1 k1).1;have q2:=(tG j2 k2 H8).2;rw[←he] at q2;exact(jO q2 q1).elim
           · have q1:=iN _ (qn j2 k2).1;have q2:=(tG j1 k1 rQ).2;rw[he] at q2;exact(jO q2 q1).elim
           · rw[(tG j1 k1 rQ).1,(tG j2 k2 H8).1] at he;omega
         obtain ⟨ρ',r3,g1,g2,g3⟩:=aM.Dc (m:=kx ks d) (n:=nb.length) (H':=H') (ρ2:=ρ2) (D2:=ay cm) cm r2 (fun p hp j B hj he=>by
             rcases s6 j B hj with k1 | ⟨k1,rQ⟩
             · exact hne p hp (by rw[he]; exact(qn j k1).1)
             · exact jO (tG j k1 rQ).2 (by rw[←he]; exact(r.hd p hp).1)) H6
           (fun j B hj=>by
             refine⟨hB.ah j B hj,hB.oc j (rk hj), ?_⟩;rcases s6 j B hj with k1 | ⟨k1,rQ⟩
             · exact .inr ⟨HS (iN _ (qn j k1).1) (.inl (qn j k1).1),eY j k1 (rk hj)⟩
             · exact .inl (Cz (tG j k1 rQ).2))
           (fun j B hj x hx=>by
             have h1:=hB.fresh j B hj x hx;have h2:=H7 x;have h3:=r.b.sum x;rcases Nat.lt_or_ge x w.heap.size with h4 | h4
             · have h5:0<bW ρ ks x:=by
                rcases Nat.eq_zero_or_pos (bW ρ ks x) with h0 | h0
                · rw[show fQ w (aT mR (num 0 nb)) x=H1 x from rfl,zM x h0,Array.getElem?_eq_getElem h4] at h1;cases h1
                · exact h0
               exact⟨HZ x h5,by show aT (jk ρ ks) (Go.Proofs.YtpklefhdkkegiaaGreat.fR σ.ah ks) x=0; omega⟩
             · have h5:=r.uH h4;exact⟨h5.1,by show aT (jk ρ ks) (Go.Proofs.YtpklefhdkkegiaaGreat.fR σ.ah ks) x=0; omega⟩)
           hB.sum
           (HW hB.nd fun p hp q hq he=>O5 p.1 p.2 q.1 q.2 hp hq he)
           (fun j hj hD=>⟨w3.2 (iN _ (qn j hj).1),eY j hj hD⟩) (fun j B hj=>rk hj)
         have zA:∀k∈ks,(ρ' k).1=(ρ k).1:=fun k hk=>by
           by_cases hm:k∈cm.map fun p=>kx ks d p.1
           · obtain⟨⟨j,B⟩,hj,rfl⟩:=List.mem_map.1 hm;rw[(g3 j B hj).2];rcases s6 j B hj with k1 | ⟨k1,rQ⟩
             · rw[eY j k1 (rk hj),oL]
             · exact(jO (tG j k1 rQ).2 (iN _ hk)).elim
           · rw[g2 k hm,oL]
         obtain⟨r4,g4⟩:=aM.mf ks r3 fun k hk E xs hg=>by
           rw[zA k hk];exact(r.b.ah k _ (dk hg)).1
         refine⟨_,hK,⟨ρ', ?_⟩,fun j hj hO x hx=> ?_⟩;rotate_left
         · have h3:=mI (ρ:=ρ) (j::ks) (bs:=σ.ah) (by simp[eX,hO,xl]) (fun q hq=>by rcases List.mem_cons.1 hq with rfl | hq; exact hj; exact iN q hq) x;have h4:=r.b.sum x;simp only[bW] at h3;exact oS x (r.lt (by omega)) (by omega)
         rw[hd];refine aM.put r4 (RV.du (m:=kx ks d) (D:=ay cm) (ρ:=ρ2) (fun i hi=> ?_) (hv.grow (H':=H) (ρ':=ρ2) (D':=ay cm) ⟨(fun _ _ h=>by cases h),(fun _ h=>⟨h,rfl⟩)⟩)) (some d);obtain⟨⟨i',B⟩,O6,rfl⟩:=List.mem_map.1 hi;obtain⟨q1,q2⟩:=g3 i' B O6;exact⟨by show ay (Go.Proofs.YtpklefhdkkegiaaGreat.mf _ _ _) _; rw[g4]; exact q1,by rw[q2]⟩
       · cases hc
     · cases hc
   · cases h
 · cases h
theorem O7 {o:Oper} (O8:gS tab o=true→Γ.hd = []) {v:V} {c:Call} {K:SS→Prop} {Q:Exit→Act→World→Prop} (hc:gD σ o=some (v,c)) (h:zK P tab σ v c o.dst K) :
   o.wp P a w (fun a' w'=>∃az,K az∧rr Γ H (gS tab o) w az a' w') Q:=by
 generalize H9:o.dst=dst at h;unfold zK at h
 split at h
 · rename_i f l d
   split at h
   · rename_i ms Dh
     have hw:gS tab o=true:=by
      unfold gD at hc;unfold gS
      split at hc
      · rename_i c0 aY
        split at hc
        · rename_i x fl;simp only[Option.some.injEq,Prod.mk.injEq] at hc;obtain⟨hx,rfl⟩:=hc;rw[aY];simp only[fl]
          split
          · cases ‹Callee.value x=_›
          · rename_i g heq;cases heq;simp only[SS.ev,V.c.injEq,C.fn.injEq] at hx;rw[hx.1,Dh]; rfl
          · rfl
        · cases hc
      · cases hc
     exact Oper.wp_mono (fun a' w' ⟨az,h1,h2,_⟩=>⟨az,h1,h2,fun hh=>by rw[hw] at hh; cases hh⟩) (HX r (fun p hp=>by rw[O8 hw] at hp; cases hp) hc H9 h)
   · exact OP r hc (by rw[H9]; exact h)
 · cases h
end
def vf:V→Bool
 | .c (.own _)=>true
 | _=>false
def Di:V→Bool
 | .c (.lf (.str _))=>true
 | _=>false
def Dj:V→Bool
 | .c (.fx _ _ _ _)=>true
 | _=>false
def lz (tab:bh) (σ:SS) (o:Oper):Bool:=
 match o.op with
 | .load T x=>Dj (σ.ev x) && wX tab T
 | .box _ _ | .alloc _ | .buildSlice _ _ _ | .store _ _ _ | .makeSlice _ _ _=>true
 | .slice _ x _ _ _=>vf (q_ σ.ah (σ.ev x))
 | .convert _ D x=>vf (σ.ev x) || (Di (σ.ev x) && (match cY tab D with | some (.sl _ _ _)=>true | _=>false))
 | .makeMap _ _ | .lookup _ _ _ _ | .mapUpdate _ _ _ _=>true
 | .call c=>match c.callee with | .builtin .append=>true | .builtin .copy=>true | .builtin .clear=>true | .builtin .len=>(match c.argTypes.toList with | [T]=>(match cY tab T with | some (.mp _ _)=>true | _=>false) | _=>false) | _=>false
 | _=>false
def jm (P:Program) (tab:bh) (o:Oper) (σ:SS) (K:SS→Prop):Prop:=
 match gD σ o with
 | some (v,c)=>zK P tab σ v c o.dst K
 | none=>if lz tab σ o then tE tab o σ K else B_ tab o σ fun v=>K (σ.put o.dst v)
def qo:V:= .aS []
def SS.hY (σ:SS) (d:Nat) (v:V):SS:={σ with env:=σ.env.set d v}
def zN (all:List Oper) (j:Nat):Option Nat:=(all[j]?).bind (·.dst)
def oV (P :Program) (tab:bh) (all:List Oper):List Oper→SS→(SS→Prop)→Prop
 | [],σ,K=>K σ
 | o :: rest,σ,K=>
   match o.guard with
   | none=>jm P tab o σ fun az=>oV P tab all rest az K
   | some (j,want)=>
     match zN all j with
     | some d=>
       match σ.env.getD d (.c .undef) with
       | .c (.bl b)=>if b=want then jm P tab o σ fun az=>oV P tab all rest az K else oV P tab all rest (σ.put o.dst qo) K
       | .aS []=>oV P tab all rest (σ.put o.dst qo) K
       | .c (.lf (.bool t))=>Br t fun b=>
        if b=want then jm P tab o (σ.hY d (.c (.bl b))) fun az=>oV P tab all rest az K else oV P tab all rest ((σ.hY d (.c (.bl b))).put o.dst qo) K
       | _=>False
     | none=>False
inductive rR where
 | env (slot:Nat) (E:av) (key:Nat)
 | box (bk cell:Nat) (E:av) (key:Nat)
def H_:V→Bool
 | .c .nil=>true
 | _=>false
def Ia:C→Bool
 | .nil=>true
 | _=>false
def SS.vg (σ:SS):rR→Option SS
 | .env s E k=>
   match σ.env[s]?,aP σ.ah k with
   | some v,none=>if H_ v then some {env:=σ.env.set s (.c (.own k)),ah:=dA σ.ah k (.own E (fun _=>[]) false)} else none
   | _,_=>none
 | .box bk c E k=>
   match aP σ.ah bk,aP σ.ah k with
   | some (.box cs),none=>
     match cs[c]? with
     | some x=>if Ia x then some {σ with ah:=bZ (dA σ.ah k (.own E (fun _=>[]) false)) bk (.box (cs.set c (.own k)))} else none
     | none=>none
   | _,_=>none
def SS.qp (σ:SS):List rR→Option SS
 | []=>some σ
 | m::ms=>match σ.vg m with | some az=>az.qp ms | none=>none
def lk:List (Nat × Nat)→Nat→Option Nat
 | [],_=>none
 | p::r,k=>if p.1=k then some p.2 else lk r k
def Cp.rd:Cp→Bool
 | .ptr _ _=>false
 | _=>true
def C.d_ (m:List (Nat × Nat)):C→C
 | .own k=>match lk m k with | some k'=> .own k' | none=> .undef
 | .ptr k off=>match lk m k with | some k'=> .ptr k' off | none=> .undef
 | .fx k E i off=>match lk m k with | some k'=> .fx k' E i off | none=> .undef
 | .fn f l=>if l.all Cp.rd=true then .fn f l else .undef
 | c=>c
def mT (m:List (Nat × Nat)):List C→List C
 | []=>[]
 | c::cs=>c.d_ m::mT m cs
def V.d_ (m:List (Nat × Nat)):V→V
 | .c x=> .c (x.d_ m)
 | .agg cs=> .agg (mT m cs)
 | .aS []=> .aS []
 | .aS _=> .c .undef
def mU (m:List (Nat × Nat)):List (Option Nat)→List (Option Nat)
 | []=>[]
 | none::fs=>none::mU m fs
 | some k::fs=>lk m k::mU m fs
def oW (m:List (Nat × Nat)):List (Option Nat)→Bool
 | []=>true
 | none::fs=>oW m fs
 | some k::fs=>match lk m k with | some _=>oW m fs | none=>false
def Ib:List (Option Nat)→Bool
 | []=>false
 | none::fs=>Ib fs
 | some _::_=>true
def an.d_ (m:List (Nat × Nat)):an→an
 | .box cs=> .box (mT m cs)
 | .ck E xs i fs=> .ck E xs i (mU m fs)
 | B=>B
def an.zO (m:List (Nat × Nat)):an→Bool
 | .ck _ _ _ fs=> !oW m fs
 | _=>false
def qq (L:List Nat) (m:List (Nat × Nat)):Nat→List V→List V
 | _,[]=>[]
 | j,v::vs=>(if L.contains j then v.d_ m else .c .undef)::qq L m (j+1) vs
def oX (bs:List (Nat × an)) (m:List (Nat × Nat)):List (Nat × Nat)→Option (List (Nat × an))
 | []=>some []
 | p::r=>match aP bs p.1,oX bs m r with | some B,some l=>if B.zO m=true then none else some ((p.2,B.d_ m)::l) | _,_=>none
structure Norm where
 ms:List rR
 L :List Nat
 nm:List (Nat × Nat)
def mW (bs:List (Nat × an)) (k:Nat):List (Nat × an):=
 match aP bs k with
 | some (.ck _ _ _ _)=>(match uV bs k with | some cm=>cm | none=>bs)
 | _=>bs
def closeAll:List Nat→List (Nat × an)→List (Nat × an)
 | [],bs=>bs
 | k::ks,bs=>closeAll ks (mW bs k)
def O9 (m:List (Nat × Nat)) (bs:List (Nat × an)) (k:Nat):Bool:=
 match aP bs k with
 | some (.ck _ _ _ fs)=>Ib fs && oW m fs && (match lk m k with | some _=>true | none=>false)
 | _=>false
def oY (m:List (Nat × Nat)):List Nat→List (Nat × an)→List (Nat × an)
 | [],bs=>bs
 | k ::ks,bs=>match O9 m bs k with
   | true=>oY m ks bs
   | false=>oY m ks (mW bs k)
def zP (m:List (Nat × Nat)):List Nat→Bool
 | []=>true
 | k::ks=>(match lk m k with | some k'=>k' == k | none=>false) && zP m ks
def SS.norm (σ:SS) (pk:List Nat) (N:Norm):Option SS:=
 match σ.qp N.ms with
 | some az=>
   match oX (oY N.nm (az.ah.map (·.1)) az.ah) N.nm N.nm with
   | some bs=>if eX (N.nm.map (·.1))=true∧eX (N.nm.map (·.2))=true∧zP N.nm pk=true then some {env:=qq N.L N.nm 0 az.env,ah:=bs} else none
   | none=>none
 | none=>none
def Sub (pk:List Nat) (σ τ:SS):Prop:=∀(Γ:Ctx) (a:Act) (w:World),Γ.hd = []→(∀p∈Γ.hm,p.1∈pk)→Rel Γ σ a w→Rel Γ τ a w
inductive aL (pk:List Nat) (X:Type) (st:X→SS) (φ:X→Prop) (m:X→Unit→Nat) (n:Unit→Nat) (σ:SS):Prop where
 | mk (x:X) (hm:m x ()<n ()) (zQ:φ x) (hs:Sub pk σ (st x))
inductive aR (pk:List Nat) (σ:SS) (R:SS→(SS→Prop)→Prop):Prop where
 | mk (X:Type) (st:X→SS) (φ:X→Prop) (m:X→Unit→Nat) (x0:X) (h0:φ x0) (hs:Sub pk σ (st x0)) (hr:∀x,φ x→R (st x) fun az=>aL pk X st φ m (m x) az)
def mg (P:Program) (tab:bh) (all:List Oper) (o:Oper) (σ:SS) (K:SS→Prop):Prop:=
 match o.guard with
 | none=>jm P tab o σ K
 | some (j,want)=>
   match zN all j with
   | some d=>
     match σ.env.getD d (.c .undef) with
     | .c (.bl b)=>if b=want then jm P tab o σ K else K (σ.put o.dst qo)
     | .aS []=>K (σ.put o.dst qo)
     | .c (.lf (.bool t))=>Br t fun b=>if b=want then jm P tab o (σ.hY d (.c (.bl b))) K else K ((σ.hY d (.c (.bl b))).put o.dst qo)
     | _=>False
   | none=>False
def qt (b:Bool) (pt rd:List Nat):Bool:=
 match b with
 | true=>rd.all pt.contains
 | false=>rd.isEmpty
def vh:Option an→Bool
 | some (.box _)=>true
 | _=>false
def okW (tab:bh) (nm0 pt:List Nat) (σ:SS) (o:Oper):Bool:=
 !gS tab o || ((gD σ o).isNone && !lz tab σ o) ||
  (match o.op,o.dst,o.guard with
  | .store _ p _,none,none=>(match σ.ev p with
    | .c (.ptr k _)=>(nm0.contains k && !pt.contains k) || (!pt.contains k && pt.all fun j=>vh (aP σ.ah j))
    | .c (.fx k _ _ _)=> !nm0.contains k && pt.all fun j=>vh (aP σ.ah j)
    | _=>false)
  | .call c,_,_=>(match c.callee,c.args.toList with
    | .builtin .append,[x,_]=>(match σ.ev x with | .c .nil=>true | .c (.own k)=> !pt.contains k && pt.all fun j=>vh (aP σ.ah j) | _=>false)
    | .value (.func f),_=>(match wB tab f with
      | some ms=>((iy σ.ah ms (c.args.toList.map σ.ev)).all fun k=> !nm0.contains k) && pt.all fun j=>vh (aP σ.ah j)
      | none=>false)
    | _,_=>false)
  | _,_,_=>false)
def findD (t:Nat):List Oper→Option Oper
 | []=>none
 | o ::os=>match o.dst with
   | some d=>(match Nat.beq d t with | true=>some o | false=>findD t os)
   | none=>findD t os
def mX (tab:bh) (all:List Oper) (σ:SS):Nat→Operand→V
 | 0,_=> .c .undef
 | n + 1, .tmp t=>match findD t all with
   | some o=>(match o.op with
     | .move x=>mX tab all σ n x
     | .fieldAddr T x i=>(match zh tab T i (mX tab all σ n x) with | some v=>v | none=> .c .undef)
     | .load T x=>(match uz tab σ.ah T (mX tab all σ n x) with | some v=>v | none=> .c .undef)
     | .indexAddr _ x _=>(match mX tab all σ n x with | .c (.lf (.list E _))=> .c (.el E (fun _=>E.mE) 0) | _=> .c .undef)
     | .nilCheck x=>mX tab all σ n x
     | _=> .c .undef)
   | none=>σ.ev (.tmp t)
 | _,x=>σ.ev x
def zR (all:List Oper):Nat→Operand→Bool
 | 0,_=>false
 | n + 1, .tmp t=>match findD t all with
   | some o=>(match o.op with | .fieldAddr _ x _=>zR all n x | .nilCheck x=>zR all n x | .alloc _=>true | .box _ _=>true | _=>false)
   | none=>false
 | _,_=>false
def Dk (all:List Oper):Nat→Operand→Bool
 | 0,_=>false
 | _, .const _=>true
 | n + 1, .tmp t=>match findD t all with
   | some o=>(match o.op with
     | .buildSlice _ _ _=>true
     | .makeSlice _ _ _=>true
     | .call c=>(match c.callee,c.args.toList with
       | .builtin .append,[x,_]=>Dk all n x
       | .builtin _,_=>false
       | _,_=>true)
     | _=>false)
   | none=>false
 | _,_=>false
def oZ (tab:bh) (all:List Oper) (σ:SS):List Oper→Option (Bool × List Nat)
 | []=>some (false,[])
 | o :: os =>match o.op,o.dst,o.guard with
   | .store _ p _,none,none=>(match zR all 5 p with
     | true=>(match oZ tab all σ os with | some (_,l)=>some (true,l) | none=>none)
     | false=>(match mX tab all σ 9 p,oZ tab all σ os with | .c (.ptr k _),some (b,l)=>some (b,k::l) | _,_=>none))
   | .load T x,_,_=>(match wX tab T with
     | true=>(match mX tab all σ 9 x with | .c (.ptr _ _) | .c (.el _ _ _) | .c (.cg _ _)=>oZ tab all σ os | _=>none)
     | false=>oZ tab all σ os)
   | .call c,_,_=>(match c.callee with
     | .builtin .len | .builtin .max | .builtin .min=>oZ tab all σ os
     | .builtin .append=>(match c.args.toList with
       | [x,_]=>(match Dk all 9 x with
         | true=>(match oZ tab all σ os with | some (_,l)=>some (true,l) | none=>none)
         | false=>none)
       | _=>none)
     | _=>if gS tab o then none else oZ tab all σ os)
   | _,_,_=>if gS tab o then none else oZ tab all σ os
def O_ (bs:List (Nat × an)):V→Bool
 | .c (.ptr k 0)=>(match aP bs k with | some (.box [.own _, .lf (.int _ _), .lf (.int _ _)])=>true | _=>false)
 | _=>false
def Ic:V→Bool
 | .c (.own _)=>true
 | .c .nil=>true
 | _=>false
def nF (tab : bh) (all:List Oper) (σ:SS):List Oper→Option (Bool × List Nat)
 | []=>some (false,[])
 | o :: os => match o.op,o.dst,o.guard with
   | .store _ p _,none,none=>(match zR all 5 p with
     | true=>nF tab all σ os
     | false =>(match mX tab all σ 9 p with
       | .c (.ptr k _)=>(match nF tab all σ os with | some (b,l)=>some (b,k::l) | none=>none)
       | _ => (match p with
         | .tmp t=>(match findD t all with
           | some q=>(match q.op with
             | .indexAddr _ x _=>(match Ic (mX tab all σ 9 x) with | true=>nF tab all σ os | false=>none)
             | _=>none)
           | none=>none)
         | _=>none)))
   | .load T x,_,_=>(match wX tab T with
     | true=>(match mX tab all σ 9 x with | .c (.ptr _ _) | .c (.el _ _ _) | .c (.cg _ _)=>nF tab all σ os | _=>none)
     | false=>nF tab all σ os)
   | .call c,_,_=>(match c.callee with
     | .builtin .len | .builtin .max | .builtin .min=>nF tab all σ os
     | .builtin .append=>(match c.args.toList with
       | [x,_]=>(match Dk all 9 x || Ic (mX tab all σ 9 x) with
         | true=>nF tab all σ os
         | false=>none)
       | _=>none)
     | .value (.func f)=>(match wB tab f with
       | none=>nF tab all σ os
       | some ms=>(match c.args.toList.map (mX tab all σ 9) with
         | v ::vs=>(match O_ σ.ah v with
           | true=>(match nF tab all σ os with | some (_,l)=>some (true,iy σ.ah ms (v::vs)++l) | none=>none)
           | false=>none)
         | []=>none))
     | _=>none)
   | _,_,_=>if gS tab o then none else nF tab all σ os
def rS (bs:List (Nat × an)):List Nat→List Nat
 | []=>[]
 | k::ks=>if vh (aP bs k) then k::rS bs ks else rS bs ks
def o8 (l:List Nat):List Nat→List Nat
 | []=>[]
 | k::ks=>if l.contains k then o8 l ks else k::o8 l ks
def tH (tab:bh) (b:Bool) (nm0:List Nat) (σ:SS) (o:Oper):Bool:=
 (gD σ o).isNone && !lz tab σ o && qt b nm0 (qY o σ)
def Dl:List Nat→(Nat→Prop)→Prop
 | [],_=>True
 | [i],p=>p i
 | i::j::is,p=>p i∧Dl (j::is) p
def vi (tab:bh) (ops:Array Oper) (b:Bool) (nm0:List Nat) (listed:Array Bool) (σ:SS):List Nat→Option Nat
 | []=>none
 | i ::is=>match ops[i]? with
   | some o=>if(tH tab b nm0 σ o && Region.free .any ops listed i)=true then some i else vi tab ops b nm0 listed σ is
   | none=>vi tab ops b nm0 listed σ is
inductive Pz (p:Unit→Prop):Prop where
 | mk (h:p ())
def Ie (b:Bool) (p:Unit→Prop):Prop:=
 match b with
 | true=>Pz p
 | false=>p ()
theorem Pb {b:Bool} {p:Unit→Prop} (h:Ie b p):p ():=by
 cases b with
 | true=>exact h.1
 | false=>exact h
def rT (P:Program) (tab:bh) (ops:Array Oper) (b:Bool) (nm0 pt:List Nat):Nat→Array Bool→SS→(SS→Prop)→Prop
 | 0,listed,σ,K=>match Region.ready .any ops listed with | []=>K σ | _=>False
 | n + 1,listed,σ,K=>Ie (decide (30<ops.size) && n % 4 == 0) fun _=>
   match Region.ready .any ops listed with
   | []=>K σ
   | r ::rs=>
     match vi tab ops b pt listed σ (r::rs) with
     | some i=>(match ops[i]? with | some o=>mg P tab ops.toList o σ fun az=>rT P tab ops b nm0 pt n (listed.setIfInBounds i true) az K | none=>False)
     | none=>Dl (r::rs) fun i=>match ops[i]? with
       | some o=>if(!b || okW tab nm0 pt σ o)=true then mg P tab ops.toList o σ fun az=>rT P tab ops b nm0 pt n (listed.setIfInBounds i true) az K else False
       | none=>False
def Dm (P:Program) (tab:bh) (ops:Array Oper) (σ:SS) (K:SS→Prop):Prop:=
 match oZ tab ops.toList σ ops.toList with
 | some (nw,ws)=>rT P tab ops true (σ.ah.map (·.1)) (match nw with | true=>rS σ.ah (o8 ws (σ.ah.map (·.1))) | false=>o8 ws (σ.ah.map (·.1))) ops.size (Array.replicate ops.size false) σ K
 | none=>rT P tab ops false (σ.ah.map (·.1)) [] ops.size (Array.replicate ops.size false) σ K
def nG:List Bool→Nat→Bool
 | [],_=>false
 | b::_,0=>b
 | _::bs,n+1=>nG bs n
def jC:List Bool→Nat→List Bool
 | [],_=>[]
 | _::bs,0=>true::bs
 | b::bs,n+1=>b::jC bs n
def lB:List Bool→Bool
 | []=>true
 | b::bs=>match b with | true=>lB bs | false=>false
def rU:List Oper→List Bool
 | []=>[]
 | _::os=>false::rU os
def k8 (l:List Bool):List Edge→Bool
 | []=>true
 | e ::es=>match Region.binds .any e with
   | true=>(match nG l e.on with | true=>k8 l es | false=>false)
   | false=>k8 l es
def nH (tab:bh) (b:Bool) (pt:List Nat) (l0:List Bool) (σ:SS):List Oper→List Bool→Nat→Option (Nat × Oper)
 | o ::os,l::ls,i=>match l with
   | true=>nH tab b pt l0 σ os ls (i+1)
   | false=>match k8 l0 o.after.toList with
     | true=>(match tH tab b pt σ o with | true=>some (i,o) | false=>nH tab b pt l0 σ os ls (i+1))
     | false=>nH tab b pt l0 σ os ls (i+1)
 | _,_,_=>none
def lC (l0:List Bool):List Oper→List Bool→Nat→List (Nat × Oper)
 | o ::os,l::ls,i=>match l with
   | true=>lC l0 os ls (i+1)
   | false=>match k8 l0 o.after.toList with
     | true=>(i,o)::lC l0 os ls (i+1)
     | false=>lC l0 os ls (i+1)
 | _,_,_=>[]
def zS:List (Nat × Oper)→(Nat→Oper→Prop)→Prop
 | [],_=>True
 | [p],q=>q p.1 p.2
 | p::r::rs,q=>q p.1 p.2∧zS (r::rs) q
structure Row where
 t :Bool
 i :Nat
 es:List Edge
 d :Option Nat
 v :V
 nw:List (Nat × an)
 ch:List (Nat × an)
 gone:List Nat
def Dn (bs:List (Nat × an)):List (Nat × an)→List (Nat × an)
 | []=>[]
 | p ::r=>match aP bs p.1 with
   | none=>p::Dn bs r
   | some _=>Dn bs r
def Ig:Option an→Bool
 | some .dead=>true
 | _=>false
def zU (bs:List (Nat × an)):List (Nat × an)→List Nat
 | []=>[]
 | p ::r=>match Ig (some p.2) with
   | true=>(match Ig (aP bs p.1) with | true=>zU bs r | false=>p.1::zU bs r)
   | false=>zU bs r
def zV (bs:List (Nat × an)):List (Nat × an)→List (Nat × an)
 | []=>[]
 | p ::r=>match p.2 with
   | .ck _ _ _ _=>(match aP bs p.1 with | some (.own _ _ _)=>p::zV bs r | _=>zV bs r)
   | _=>zV bs r
def zW (bs:List (Nat × an)):List Nat→List (Nat × an)
 | []=>[]
 | k ::ks=>match aP bs k with
   | some (.box cs)=>(k, .box cs)::zW bs ks
   | some (.own E xs l)=>(k, .own E xs l)::zW bs ks
   | _=>zW bs ks
def Pc (tab:bh) (o:Oper) (σ az:SS):List (Nat × an):=
 match gD σ o with
 | some (.c (.fn f _),c)=>(match wB tab f with
   | some ms=>zW az.ah (iy σ.ah ms (c.args.toList.map σ.ev))
   | none=>[])
 | _=>[]
def rowOf (tab:bh) (t:Bool) (i:Nat) (o:Oper) (σ az:SS):Row:=
 ⟨t,i,o.after.toList,o.dst,match o.dst with | some d=>az.env.getD d (.c .undef) | none=> .c .undef,Dn σ.ah az.ah,zV σ.ah az.ah++Pc tab o σ az,zU σ.ah az.ah⟩
def Ih:List (Nat × an)→List (Nat × an)→List (Nat × an)
 | bs,[]=>bs
 | bs,p::r=>Ih (dA bs p.1 p.2) r
def Ii:List (Nat × an)→List (Nat × an)→List (Nat × an)
 | bs,[]=>bs
 | bs,p::r=>Ii (bZ bs p.1 p.2) r
def xm (l:List Bool):List Row→SS→SS
 | [],σ=>σ
 | r ::rs,σ=>match nG l r.i with
   | true=>xm l rs {env:=(σ.put r.d r.v).env,ah:=fR (Ii (Ih σ.ah r.nw) r.ch) r.gone}
   | false=>xm l rs σ
def xn (rows:List Row) (σ tI:SS) (l:List Bool):SS:=
 match lB l with
 | true=>tI
 | false=>xm l rows σ
def tJ:List Bool→List Bool→Bool
 | [],[]=>true
 | b ::bs,c::cs=>match b,c with
   | true,true=>tJ bs cs
   | false,false=>tJ bs cs
   | _,_=>false
 | _,_=>false
def qu : List Row→List Bool→List Bool→Bool
 | [],l,l'=>tJ l l'
 | r :: rs,l,l'=>match k8 l r.es with
   | false=>qu rs l l'
   | true=>match r.t with
     | true=>qu rs (jC l r.i) l'
     | false=>match nG l' r.i with
       | true=>qu rs (jC l r.i) l'
       | false=>qu rs l l'
def lD:List Bool→Nat
 | []=>0
 | b::bs=>match b with | true=>lD bs | false=>lD bs+1
def xo (P:Program) (tab:bh) (all:List Oper) (b:Bool) (pt:List Nat):Nat→List Bool→SS→(List Bool→SS→Prop)→Prop
 | 0,l,σ,J=>J l σ
 | n + 1,l,σ,J=>match nH tab b pt l σ all l 0 with
   | some (i,o)=>mg P tab all o σ fun az=>xo P tab all b pt n (jC l i) az J
   | none=>J l σ
def vj (P :Program) (tab:bh) (all:List Oper) (b:Bool) (pt:List Nat):Nat→List Bool→SS→List Row→(List Row→SS→Prop)→Prop
 | 0,l,σ,rs,J=>match lB l with
   | true=>J rs σ
   | false=>False
 | n + 1, l,σ,rs,J=>match lB l with
   | true=>J rs σ
   | false =>match nH tab b pt l σ all l 0 with
     | some (i,o)=>mg P tab all o σ fun az=>vj P tab all b pt n (jC l i) az (rs ++ [rowOf tab true i o σ az]) J
     | none=>match lC l all l 0 with
       | []=>False
       | (i,o)::_=>match o.guard with
         | none=>jm P tab o σ fun az=>vj P tab all b pt n (jC l i) az (rs ++ [rowOf tab false i o σ az]) J
         | some _=>False
def Dp (P:Program) (tab:bh) (all:List Oper) (b:Bool) (nm0 pt:List Nat) (nodes:List Bool→Bool) (st:List Bool→SS) (l:List Bool):Prop:=
 match lB l with
 | true=>True
 | false =>match lC l all l 0 with
   | []=>False
   | r ::rs=>zS (r::rs) fun i o=>if(!b || okW tab nm0 pt (st l) o)=true then
      mg P tab all o (st l) fun az=>xo P tab all b pt (lD l) (jC l i) az fun l' vk=>match nodes l' with
       | true=>vk=st l'
       | false=>False
     else False
def tK :List Row→List Bool→(List Bool→Prop)→Prop
 | [],l,p=>Pz fun _=>p l
 | r ::rs,l,p=>match k8 l r.es with
   | false=>tK rs l p
   | true=>match r.t with
     | true=>tK rs (jC l r.i) p
     | false=>(Pz fun _=>tK rs (jC l r.i) p)∧Pz fun _=>tK rs l p
inductive aW (k:Prop) (ok:Unit→Bool) (p:Unit→Prop):Prop where
 | mk (hk:k) (hb:ok ()=true) (ht:p ())
def zX (l:List Bool):List Row→Bool
 | []=>true
 | r ::rs=>match nG l r.i with
   | true=>false
   | false=>zX l rs
def Ij (P:Program) (tab:bh) (all:List Oper) (b:Bool) (nm0 pt:List Nat) (n:Nat) (l:List Bool) (σ:SS) (K:SS→Prop):Prop:=
 vj P tab all b pt n l σ [] fun rows tI=>
  aW (K tI) (fun _=>qu rows l l && (Nat.ble (lD l) n && zX l rows)) (fun _=>tK rows l (Dp P tab all b nm0 pt (qu rows l) (xn rows σ tI)))
def Pd:List (Nat × Oper)→Bool
 | _::_::_::_::_=>true
 | _=>false
def qv (P :Program) (tab:bh) (all:List Oper) (b:Bool) (nm0 pt:List Nat):Nat→List Bool→SS→(SS→Prop)→Prop
 | 0,l,σ,K=>match lB l with | true=>K σ | false=>False
 | n + 1, l,σ,K=>
   match lB l with
   | true=>K σ
   | false =>
     match nH tab b pt l σ all l 0 with
     | some (i,o)=>mg P tab all o σ fun az=>qv P tab all b nm0 pt n (jC l i) az K
     | none=>
       match lC l all l 0 with
       | []=>False
       | r ::rs=>match Pd (r::rs) with
         | true=>Ij P tab all b nm0 pt (n+1) l σ K
         | false=>zS (r::rs) fun i o=>if(!b || okW tab nm0 pt σ o)=true then mg P tab all o σ fun az=>qv P tab all b nm0 pt n (jC l i) az K else False
def Dq (P:Program) (tab:bh) (ops:Array Oper) (σ:SS) (K:SS→Prop):Prop:=
 match oZ tab ops.toList σ ops.toList with
 | some (nw,ws)=>qv P tab ops.toList true (σ.ah.map (·.1)) (match nw with | true=>rS σ.ah (o8 ws (σ.ah.map (·.1))) | false=>o8 ws (σ.ah.map (·.1))) ops.toList.length (rU ops.toList) σ K
 | none=>match nF tab ops.toList σ ops.toList with
   | some (true,ws)=>qv P tab ops.toList true (rS σ.ah (o8 ws (σ.ah.map (·.1)))) (rS σ.ah (o8 ws (σ.ah.map (·.1)))) ops.toList.length (rU ops.toList) σ K
   | _=>qv P tab ops.toList false (σ.ah.map (·.1)) [] ops.toList.length (rU ops.toList) σ K
def Ik (ops:Array Oper) (i:Nat):Bool:=
 match ops[i]? with
 | none=>true
 | some oi=>(List.range ops.size).all fun j=>j == i || match ops[j]? with
  | some oj=>oj.after.any (fun e=>Region.binds .any e && e.on == i) || oi.after.any (fun e=>Region.binds .any e && e.on == j) || oi.apart ops oj
  | none=>true
def o9 (ops:Array Oper):Bool:=(List.range ops.size).all (Ik ops) && Region.noSelect ops
def gF:Code→Bool
 | .region _ ops draw=> !draw || o9 ops
 | .seq x y=>gF x && gF y
 | .cond _ x y=>gF x && gF y
 | .block _ x=>gF x
 | .loop x=>gF x
 | _=>true
def nI (E:av):List Nat→List (Nat × an)→List (Nat × an)
 | [],bs=>bs
 | k ::ks,bs=>match aP bs k with
   | some (.own E' xs false)=>if E'=E then nI E ks (bZ bs k (.view E' xs)) else nI E ks bs
   | _=>nI E ks bs
def qw:List (Nat × Nat × av)→Nat→Nat→List (Nat × an)→List (Nat × an)
 | [],_,_,bs=>bs
 | p::r,n,id,bs=>if p.1=n∧p.2.1=id then qw r n id (nI p.2.2 (bs.map (·.1)) bs) else qw r n id bs
def SS.tL (tab:bh) (id:Nat) (σ:SS):SS:=
 match tab.fz with
 | []=>σ
 | l=>{σ with ah:=qw l σ.env.length id σ.ah}
inductive mh (pk:List Nat) (σ:SS) (R:SS→Prop):Prop where
 | mk (X:Type) (st:X→SS) (φ:X→Prop) (x0:X) (h0:φ x0) (hs:Sub pk σ (st x0)) (hr:∀x,φ x→R (st x))
def Dr:List (Nat × Nat)→Nat→Nat→Bool
 | [],_,_=>false
 | p ::r,n,id=>match Nat.beq p.1 n with
   | true=>(match Nat.beq p.2 id with | true=>true | false=>Dr r n id)
   | false=>Dr r n id
def Ds (tab:bh) (pk:List Nat) (id:Nat) (σ:SS) (R:SS→Prop):Prop:=
 match Dr tab.ct σ.env.length id with
 | true=>mh pk σ R
 | false=>R σ
theorem Pe {tab:bh} {pk:List Nat} {id:Nat} {σ:SS} {R:SS→Prop} (h:Ds tab pk id σ R) {Γ:Ctx} {a:Act} {w:World} (bT:Γ.hd = []) (iu:∀p∈Γ.hm,p.1∈pk) (r:Rel Γ σ a w):∃az,R az∧Rel Γ az a w:=by
 unfold Ds at h
 split at h
 · obtain⟨X,st,φ,x0,h0,hs,hr⟩:=h;exact⟨_,hr x0 h0,hs Γ a w bT iu r⟩
 · exact⟨_,h,r⟩
def mY (P:Program) (tab:bh) (fr:Bool) (pk:List Nat):Code→SS→(Exit→SS→Prop)→Prop
 | .skip,σ,K=>K .normal σ
 | .region id ops draw,σ,K=>Ds tab pk id σ fun σ=>match draw with
   | false=>oV P tab ops.toList ops.toList (σ.tL tab id) fun az=>K .normal az
   | true=>match fr with
     | true=>Dq P tab ops (σ.tL tab id) fun az=>K .normal az
     | false=>if Region.noSelect ops=true then Dm P tab ops (σ.tL tab id) fun az=>K .normal az else False
 | .seq x y,σ,K=>mY P tab fr pk x σ fun e az=>match e with
   | .normal=>mY P tab fr pk y az K
   | e=>K e az
 | .cond c x y,σ,K=>match σ.ev c with
   | .c (.bl true)=>mY P tab fr pk x σ K
   | .c (.bl false)=>mY P tab fr pk y σ K
   | .c (.lf (.bool t))=>Br t fun b=>match b with
     | true=>mY P tab fr pk x σ K
     | false=>mY P tab fr pk y σ K
   | _=>False
 | .block id x,σ,K=>mY P tab fr pk x σ fun e az=>match e with
   | .exit i=>if i=id then K .normal az else K (.exit i) az
   | e=>K e az
 | .loop x,σ,K=>aR pk σ fun az J=>mY P tab fr pk x az fun e vk=>match e with
   | .normal=>J vk
   | e=>K e vk
 | .exit id,σ,K=>K (.exit id) σ
 | .ret,σ,K=>K .ret σ
 | _,_,_=>False
section
variable {P : Program} {tab : bh} (hT : fy P tab = true) {Γ : Ctx}
include hT
theorem zY {H:Hp} {ρ:aK} {σ:SS} {a:Act} {w:World} {o:Oper} {K:SS→Prop} {Q:Exit→Act→World→Prop} (hw:gS tab o=true→Γ.hd = []) (h:jm P tab o σ K) (r:aM Γ H ρ σ a w) :
   o.wp P a w (fun a' w'=>∃az,K az∧rr Γ H (gS tab o) w az a' w') Q:=by
 unfold jm at h
 split at h
 · rename_i v c hc; exact O7 r hw hc h
 · split at h
   · exact OG hT r hw h
   · obtain⟨v,y,hk,hv,cR⟩:=Ce hT r h;exact kZ (cR w (oE.refl r _)) ⟨_,hk,⟨ρ,r.put hv _⟩,fun _=>ir.refl w⟩
theorem Pf (bT:Γ.hd = []) {σ:SS} {a:Act} {w:World} {o:Oper} {K:SS→Prop} {Q:Exit→Act→World→Prop} (h:jm P tab o σ K) (r:Rel Γ σ a w) :
  o.wp P a w (fun a' w'=>∃az,K az∧Rel Γ az a' w') Q:=by
 obtain⟨H,ρ,r⟩:=r;exact Oper.wp_mono (fun a' w' ⟨az,h1,h2⟩=>⟨az,h1,h2.rel⟩) (zY hT (fun _=>bT) h r)
omit hT in
theorem aM.hY {H:Hp} {ρ:aK} {σ:SS} {a:Act} {w:World} (r:aM Γ H ρ σ a w) {d:Nat} {t:Unit→Bool} (hd:σ.env.getD d (.c .undef) = .c (.lf (.bool t))):aM Γ H ρ (σ.hY d (.c (.bl (t ())))) a w:=by
 refine⟨r.b,⟨by simpa [SS.hY] using r.e.size,fun j c hj=> ?_⟩,r.d,r.n,r.hd,r.hm⟩;simp only[SS.hY] at hj;rw[List.getElem?_set] at hj
 split at hj
 · rename_i k9
   split at hj
   · cases hj;have:=wR r d;rw[hd] at this;have h2:=RL.of_bool this;rw[←k9];exact h2
   · cases hj
 · exact r.e.get j c hj
omit hT in
theorem Rel.hY {σ:SS} {a:Act} {w:World} (r:Rel Γ σ a w) {d:Nat} {t:Unit→Bool} (hd:σ.env.getD d (.c .undef) = .c (.lf (.bool t))):Rel Γ (σ.hY d (.c (.bl (t ())))) a w:=by
 obtain⟨H,ρ,r⟩:=r;exact⟨H,ρ,r.hY hd⟩
omit hT in
theorem vl {σ:SS} {a:Act} {w:World} (r:Rel Γ σ a w) {all:Array Oper} {j d:Nat} (hg:zN all.toList j=some d) :
   (∀b,σ.env.getD d (.c .undef) = .c (.bl b)→yielded all a.tmps j=some b)∧(σ.env.getD d (.c .undef) = .aS []→yielded all a.tmps j=none):=by
 obtain⟨H,ρ,r⟩:=r;have uP:(all[j]?).bind (·.dst)=some d:=by simpa [zN] using hg
 have he:=wR r d
 have aQ:∀c,σ.env.getD d (.c .undef)=c→c≠ .c .undef→a.tmps[d]? = some (a.tmps.getD d Go.undef):=fun c hc hne=>by
   refine getD_some ?_;rw[r.e.size];rcases Nat.lt_or_ge d σ.env.length with h | h
   · exact h
   · rw[List.getD_eq_getElem?_getD,List.getElem?_eq_none h] at hc;exact(hne hc.symm).elim
 refine⟨fun b hb=> ?_,fun hb=> ?_⟩
 · have h1:=aQ _ hb (by simp);rw[hb] at he;simp only[RV,RC] at he;unfold yielded;rw[uP,Option.bind_some,h1,he]
 · have h1:=aQ _ hb (by simp);rw[hb] at he;obtain⟨vs,h2,h3,_⟩:=he;unfold yielded;rw[uP,Option.bind_some,h1,h2]
omit hT in
theorem aM.skip {H:Hp} {ρ:aK} {σ:SS} {a:Act} {w:World} (r:aM Γ H ρ σ a w) (d:Option Nat):aM Γ H ρ (σ.put d qo) (a.put d Go.undef) w:=by
 have h:RV H ρ (ay σ.ah) (.aS []) Go.undef:=⟨#[],rfl,rfl,fun j p hj=>by simp at hj⟩;exact r.put h d
omit hT in
theorem Rel.skip {σ:SS} {a:Act} {w:World} (r:Rel Γ σ a w) (d:Option Nat):Rel Γ (σ.put d qo) (a.put d Go.undef) w:=by
 obtain⟨H,ρ,r⟩:=r;exact⟨H,ρ,r.skip d⟩
theorem xp (bT:Γ.hd = []) {all:Array Oper} {Q:Exit→Act→World→Prop}:∀(l:List Oper) {σ:SS} {a:Act} {w:World} {K:SS→Prop},oV P tab all.toList l σ K→Rel Γ σ a w→
   (∀az a' w',K az→Rel Γ az a' w'→Q .normal a' w')→wpList P all Q l a w
 | [],σ,a,w,K,h,r,hQ=>hQ σ a w h r
 | o :: rest,σ,a,w,K,h,r,hQ=>by
   have go:∀{σ:SS},jm P tab o σ (fun az=>oV P tab all.toList rest az K)→Rel Γ σ a w→o.wp P a w (wpList P all Q rest) Q:=fun h r=>
     Oper.wp_mono (fun a' w' ⟨az,h1,h2⟩=>xp bT rest h1 h2 hQ) (Pf hT bT h r)
   unfold wpList;unfold oV at h
   split at h
   · rename_i hg;rw[if_pos (by simp[Region.wanted,hg])];exact .inl (go h r)
   · rename_i j want hg
     split at h
     · rename_i d hd;obtain⟨y1,y2⟩:=vl r hd
       split at h
       · rename_i b hb
         split at h
         · rename_i gT;rw[if_pos (by simp[Region.wanted,hg,y1 b hb,gT])];exact .inl (go h r)
         · rename_i gT;rw[if_neg (by simp[Region.wanted,hg,y1 b hb,gT])];exact xp bT rest h (r.skip _) hQ
       · rename_i hb;rw[if_neg (by simp[Region.wanted,hg,y2 hb])];exact xp bT rest h (r.skip _) hQ
       · rename_i t hb;obtain⟨h⟩:=h;have r':=r.hY hb
         have aQ:d<σ.env.length:=by
           rcases Nat.lt_or_ge d σ.env.length with h | h
           · exact h
           · rw[List.getD_eq_getElem?_getD,List.getElem?_eq_none h] at hb; cases hb
         have y3:=(vl r' hd).1 (t ()) (by simp[SS.hY,List.getD_eq_getElem?_getD,aQ])
         split at h
         · rename_i gT;rw[if_pos (by simp[Region.wanted,hg,y3,gT])];exact .inl (go h r')
         · rename_i gT;rw[if_neg (by simp[Region.wanted,hg,y3,gT])];exact xp bT rest h (r'.skip _) hQ
       · cases h
     · cases h
omit hT in
theorem vm {σ:SS} {d:Nat} {t:Unit→Bool} {b:Bool} (hd:σ.env.getD d (.c .undef) = .c (.lf (.bool t))) (x:Operand) :
   (σ.hY d (.c (.bl b))).ev x=σ.ev x∨(∃t,σ.ev x = .c (.lf (.bool t)))∧∃b',(σ.hY d (.c (.bl b))).ev x = .c (.bl b'):=by
 cases x with
 | tmp j=>
   by_cases h:d=j
   · subst h;right;refine⟨⟨t,hd⟩,b, ?_⟩
     have aQ:d<σ.env.length:=by
      rcases Nat.lt_or_ge d σ.env.length with h | h
      · exact h
      · rw[List.getD_eq_getElem?_getD,List.getElem?_eq_none h] at hd; cases hd
     simp[SS.ev,SS.hY,List.getD_eq_getElem?_getD,aQ]
   · left;simp[SS.ev,SS.hY,List.getD_eq_getElem?_getD,h]
 | _=>left; rfl
omit hT in
theorem Il {σ az:SS} {o:Oper} (h:gD σ o=none):gD az o=none:=by
 cases aY:o.op with
 | call c=>
   cases hc:c.callee with
   | value x=>simp[gD,aY,hc] at h
   | _=>simp[gD,aY,hc]
 | _=>simp[gD,aY]
omit hT in
theorem Im {σ az:SS} {o:Oper} (jg:∀x,az.ev x=σ.ev x∨(∃t,σ.ev x = .c (.lf (.bool t)))∧∃b',az.ev x = .c (.bl b')) (hb:az.ah=σ.ah) (h:lz tab σ o=false):lz tab az o=false:=by
 have key:∀x,vf (az.ev x)=vf (σ.ev x):=fun x=>by
  rcases jg x with h | ⟨⟨t,h1⟩,b',h2⟩
  · rw[h]
  · rw[h1,h2]; rfl
 have Wj:∀x,Dj (az.ev x)=Dj (σ.ev x):=fun x=>by
  rcases jg x with h | ⟨⟨t,h1⟩,b',h2⟩
  · rw[h]
  · rw[h1,h2]; rfl
 have Wk:∀x,vf (q_ az.ah (az.ev x))=vf (q_ σ.ah (σ.ev x)):=fun x=>by
  rw[hb];rcases jg x with h | ⟨⟨t,h1⟩,b',h2⟩
  · rw[h]
  · rw[h1,h2]; rfl
 have Wl:∀x,Di (az.ev x)=Di (σ.ev x):=fun x=>by
  rcases jg x with h | ⟨⟨t,h1⟩,b',h2⟩
  · rw[h]
  · rw[h1,h2]; rfl
 unfold lz at h ⊢
 split at h <;> simp_all
omit hT in
theorem Io {H:Hp} {ρ:aK} {ops:Array Oper} {i:Nat} {o:Oper} (hi:ops[i]? = some o) {σ:SS} {a:Act} {w:World} {K:SS→Prop} {Q:Exit→Act→World→Prop} {next:Act→World→Prop}
   (h:mg P tab ops.toList o σ K) (r:aM Γ H ρ σ a w) (go:∀{cX:SS},jm P tab o cX K→aM Γ H ρ cX a w→(cX=σ∨∃d t,σ.env.getD d (.c .undef) = .c (.lf (.bool t))∧cX=σ.hY d (.c (.bl (t ()))))→o.wp P a w next Q)
   (sk:∀{cX:SS},K (cX.put o.dst qo)→aM Γ H ρ cX a w→next (a.put o.dst Go.undef) w):wpOp P ops Q i next a w:=by
 unfold wpOp;simp only[hi];unfold mg at h
 split at h
 · rename_i hg;rw[if_pos (by simp[Region.wanted,hg])];exact .inl (go h r (.inl rfl))
 · rename_i j want hg
   split at h
   · rename_i d hd;obtain⟨y1,y2⟩:=vl (⟨H,ρ,r⟩:Rel Γ σ a w) hd
     split at h
     · rename_i b hb
       split at h
       · rename_i gT;rw[if_pos (by simp[Region.wanted,hg,y1 b hb,gT])];exact .inl (go h r (.inl rfl))
       · rename_i gT;rw[if_neg (by simp[Region.wanted,hg,y1 b hb,gT])];exact sk h r
     · rename_i hb;rw[if_neg (by simp[Region.wanted,hg,y2 hb])];exact sk h r
     · rename_i t hb;obtain⟨h⟩:=h;have r':=r.hY hb
       have aQ:d<σ.env.length:=by
         rcases Nat.lt_or_ge d σ.env.length with h | h
         · exact h
         · rw[List.getD_eq_getElem?_getD,List.getElem?_eq_none h] at hb; cases hb
       have y3:=(vl (⟨H,ρ,r'⟩:Rel Γ _ a w) hd).1 (t ()) (by simp[SS.hY,List.getD_eq_getElem?_getD,aQ])
       split at h
       · rename_i gT;rw[if_pos (by simp[Region.wanted,hg,y3,gT])];exact .inl (go h r' (.inr ⟨d,t,hb,rfl⟩))
       · rename_i gT;rw[if_neg (by simp[Region.wanted,hg,y3,gT])];exact sk h r'
     · cases h
   · cases h
theorem Dt {H:Hp} {ρ:aK} {ops:Array Oper} {i:Nat} {o:Oper} (hw:gS tab o=true→Γ.hd = []) (hi:ops[i]? = some o) {σ:SS} {a:Act} {w:World} {K:SS→Prop} {Q:Exit→Act→World→Prop} {next:Act→World→Prop}
  (h:mg P tab ops.toList o σ K) (r:aM Γ H ρ σ a w) (hn:∀az a' w',K az→rr Γ H (gS tab o) w az a' w'→next a' w'):wpOp P ops Q i next a w:=
 Io hi h r (fun h r _=>Oper.wp_mono (fun a' w' ⟨az,h1,h2⟩=>hn az a' w' h1 h2) (zY hT hw h r)) (fun h r=>hn _ _ _ h ⟨⟨ρ,r.skip _⟩,fun _=>ir.refl _⟩)
def h_ (ρ0:aK) (pt:List Nat) (w w':World):Prop:=∀k∈pt,∀x,0<(ρ0 k).2 x→w'.heap[x]? = w.heap[x]?
omit hT in
theorem Du {σ cX:SS} (h:∀x,(cX.ev x).nm=(σ.ev x).nm):∀{l:List Operand} {ms:List Bool},ku ms (l.map cX.ev)=ku ms (l.map σ.ev)
 | [],ms=>by cases ms <;> rfl
 | x::l,[]=>rfl
 | x::l,true::ms=>by simp only[List.map_cons,ku,h x,Du h (l:=l)]
 | x::l,false::ms=>by simp only[List.map_cons,ku,Du h (l:=l)]
omit hT in
theorem Ip {H:Hp} {ρ:aK} {σ:SS} {a:Act} {w:World} (r:aM Γ H ρ σ a w) {j:Nat} {p0:Value × (Nat→Nat)} (hb:vh (aP σ.ah j)=true) (hf:(ρ j).1=p0.1)
   (jD:∀b,p0.1 = .pointer (some ⟨b,0,none⟩)→p0.2=one b∨∀x,p0.2 x=0) {x:Nat} (hx:0<p0.2 x):ay σ.ah j∧(ρ j).2 x=1:=by
 cases hg:aP σ.ah j with
 | none=>rw[hg] at hb; cases hb
 | some B=>
   rw[hg] at hb;cases B with
   | box cs=>
     obtain⟨b,vs,e,fz,e1,e2,_⟩:=r.b.ah j _ (dk hg);refine⟨fP hg, ?_⟩;rcases jD b (by rw[←hf]; exact e1) with h | h
     · rw[h] at hx;rw[e2];simp only[one] at hx ⊢
       split at hx
       · rename_i jn; rw[if_pos jn]
       · cases hx
     · rw[h x] at hx; cases hx
   | _=>cases hb
theorem Dv {H :Hp} {ρ ρ0:aK} {nm0 pt:List Nat} {ops:Array Oper} {i:Nat} {o:Oper} (hi:ops[i]? = some o) {σ:SS} (cL:okW tab nm0 pt σ o=true) {a:Act} {w:World} {K:SS→Prop} {Q:Exit→Act→World→Prop}
   {next:Act→World→Prop} (h:mg P tab ops.toList o σ K) (r:aM Γ H ρ σ a w) (eY:∀k∈nm0,(k,ρ0 k)∈Γ.hd) (lF:∀p∈Γ.hd,p.1∈nm0) (eO:∀k∈pt,k∈nm0) (Iq:∀k∈pt,∀x,0<(ρ0 k).2 x→∃o,w.heap[x]? = some o)
   (k9:∀k∈nm0,∀j∈nm0,k≠j→∀x,(ρ0 k).2 x+(ρ0 j).2 x≤1)
   (jD:∀k∈pt,∀b,(ρ0 k).1 = .pointer (some ⟨b,0,none⟩)→(ρ0 k).2=one b∨∀x,(ρ0 k).2 x=0) (hn:∀az a' w',K az→(∃ρ',aM Γ H ρ' az a' w')→h_ ρ0 pt w w'→next a' w'):wpOp P ops Q i next a w:=by
 have kp:∀w',ir w w'→h_ ρ0 pt w w':=fun w' hk k bL x hx=>by
   obtain⟨o,h3⟩:=Iq k bL x hx;rw[hk x _ h3,h3]
 refine Io hi h r (fun {cX} h r hs=> ?_) (fun h r=>hn _ _ _ h ⟨ρ,r.skip _⟩ (kp _ (ir.refl _)));simp only[okW,Bool.or_eq_true] at cL;rcases cL with(cL | cL) | cL
 · have Ir:gS tab o=false:=by simpa using cL
   exact Oper.wp_mono (fun a' w' ⟨az,h1,h2,h3⟩=>hn az a' w' h1 h2 (kp _ (h3 Ir))) (zY hT (fun hw=>by rw[Ir] at hw; cases hw) h r)
 · simp only[Bool.and_eq_true,Bool.not_eq_true',Option.isNone_iff_eq_none] at cL;obtain⟨hc,hm⟩:=cL
   have Is:gD cX o=none∧lz tab cX o=false:=by
     rcases hs with rfl | ⟨d,t,hd,rfl⟩
     · exact⟨hc,hm⟩
     · exact⟨Il hc,Im (vm hd) rfl hm⟩
   unfold jm at h;simp only[Is.1,Is.2,Bool.false_eq_true,if_false] at h;obtain⟨v,y,hk,hv,cR⟩:=Ce hT r h;exact kZ (cR w (oE.refl r _)) (hn _ _ _ hk ⟨ρ,r.put hv _⟩ (kp _ (ir.refl w)))
 · split at cL
   · rename_i T p v aY hd hg
     split at cL
     · rename_i k off hp
       have rJ:k∉pt:=by
         simp only[Bool.or_eq_true,Bool.and_eq_true,Bool.not_eq_true'] at cL;rcases cL with h1 | h1
         · simpa using h1.2
         · simpa using h1.1
       have cS:cX.ev p = .c (.ptr k off):=by
         rcases hs with rfl | ⟨d,t,hd,rfl⟩
         · exact hp
         · rcases vm (b:=t ()) hd p with h1 | ⟨⟨t',h1⟩,_⟩
           · rw[h1]; exact hp
           · rw[hp] at h1; cases h1
       have fl:gD cX o=none:=by simp[gD,aY]
       have cA:lz tab cX o=true:=by simp[lz,aY]
       unfold jm at h;simp only[fl,cA,if_true] at h;unfold tE at h;simp only[aY,hd,cS] at h;refine Oper.wp_mono (fun a' w' ⟨az,h1,h2,h3⟩=>hn az a' w' h1 ⟨ρ,h2⟩ fun j hj x hx=>h3 x ?_) (NT hT r aY hd cS h);simp only[Bool.or_eq_true,Bool.and_eq_true,Bool.not_eq_true'] at cL;rcases cL with cL | cL
       · have gU:k∈nm0:=by simpa using cL.1
         have h4:=(r.hd _ (eY k gU)).2.2 x;have h5:=k9 k gU j (eO j hj) (fun he=>rJ (he▸hj)) x;simp only at h4;omega
       · have nJ:=List.all_eq_true.1 cL.2 j hj
         have hX:cX.ah=σ.ah:=by
           rcases hs with rfl | ⟨d,t,hd,rfl⟩ <;> rfl
         rw[←hX] at nJ
         have iN:ay cX.ah k:=by
           have:=km r.e p;rw[cS] at this;exact this.1
         cases qx:aP cX.ah j with
         | none=>rw[qx] at nJ; cases nJ
         | some B=>
           rw[qx] at nJ;cases B with
           | box cs=>
             obtain⟨b,vs,e,fz,e1,e2,_⟩:=r.b.ah j _ (dk qx);have h6:=(r.hd _ (eY j (eO j hj))).2.1;have h7:=jD j hj b (by rw[←e1]; exact h6.symm);have h8:=tw (ρ:=ρ) iN (fP qx) (fun he=>rJ (he▸hj)) x;have h9:=r.b.sum x;rw[e2] at h8;rcases h7 with h7 | h7
             · rw[h7] at hx;omega
             · rw[h7] at hx;omega
           | _=>cases nJ
     · rename_i k E i off hp;simp only[Bool.and_eq_true,Bool.not_eq_true',List.contains_eq_mem,decide_eq_false_iff_not] at cL
       have cS:cX.ev p = .c (.fx k E i off):=by
         rcases hs with rfl | ⟨d,t,hd,rfl⟩
         · exact hp
         · rcases vm (b:=t ()) hd p with h1 | ⟨⟨t',h1⟩,_⟩
           · rw[h1]; exact hp
           · rw[hp] at h1; cases h1
       have hX:cX.ah=σ.ah:=by
         rcases hs with rfl | ⟨d,t,hd,rfl⟩ <;> rfl
       have fl:gD cX o=none:=by simp[gD,aY]
       have cA:lz tab cX o=true:=by simp[lz,aY]
       unfold jm at h;simp only[fl,cA,if_true] at h;unfold tE at h;simp only[aY,hd,cS] at h;have ep:=km r.e p;rw[cS] at ep;obtain⟨az,w',ρ',h1,h2,h3,h4⟩:=HA hT r (fun q hq he=>cL.1 (by rw[←he]; exact lF q hq)) h ep (km r.e v);refine wY (w':=w') (by simp only[execOp,aY,Sem.run_bind,h4,Result.andThen_ok,Sem.run_pure]) hd (hn az a w' h1 ⟨ρ',h2⟩ fun j hj x hx=>h3 x ?_);have iN:ay cX.ah k:=ep.1;obtain⟨q1,q2⟩:=Ip r (hX▸List.all_eq_true.1 cL.2 j hj) ((r.hd _ (eY j (eO j hj))).2.1) (jD j hj) hx;have h8:=tw (ρ:=ρ) iN q1 (fun he=>cL.1 (he▸eO j hj)) x;have h9:=r.b.sum x;omega
     · cases cL
   · rename_i c aY
     split at cL
     · rename_i x y fl dN;have zZ:gD cX o=none:=by simp[gD,aY,fl]
       have Pg:lz tab cX o=true:=by simp[lz,aY,fl]
       unfold jm at h;simp only[zZ,Pg,if_true] at h
       have jg:∀k,cX.ev x = .c (.own k)→σ.ev x = .c (.own k):=fun k hk=>by
         rcases hs with rfl | ⟨d,t,hd,rfl⟩
         · exact hk
         · rcases vm (b:=t ()) hd x with h1 | ⟨_,b',h2⟩
           · rw[←h1]; exact hk
           · rw[h2] at hk; cases hk
       have hX:cX.ah=σ.ah:=by
         rcases hs with rfl | ⟨d,t,hd,rfl⟩ <;> rfl
       refine Oper.wp_mono (fun a' w' ⟨az,h1,h2,h3⟩=>hn az a' w' h1 h2 fun j hj b hb=>h3 b ?_ fun k hk=> ?_) (ON hT r aY fl dN h)
       · obtain⟨o',C2⟩:=Iq j hj b hb;exact kW C2
       · have gU:=jg k hk;rw[gU] at cL;simp only[Bool.and_eq_true,Bool.not_eq_true'] at cL;have rJ:k∉pt:=by simpa using cL.1
         have nJ:=List.all_eq_true.1 cL.2 j hj;rw[←hX] at nJ
         have iN:ay cX.ah k:=by
           have:=km r.e x;rw[hk] at this;exact this.1
         cases qx:aP cX.ah j with
         | none=>rw[qx] at nJ; cases nJ
         | some B=>
           rw[qx] at nJ;cases B with
           | box cs=>
             obtain⟨b',vs,e,fz,e1,e2,_⟩:=r.b.ah j _ (dk qx);have h6:=(r.hd _ (eY j (eO j hj))).2.1;have h7:=jD j hj b' (by rw[←e1]; exact h6.symm);have h8:=tw (ρ:=ρ) iN (fP qx) (fun he=>rJ (he▸hj)) b;have h9:=r.b.sum b;rw[e2] at h8;rcases h7 with h7 | h7
             · rw[h7] at hb;omega
             · rw[h7] at hb;omega
           | _=>cases nJ
     · rename_i f fl
       split at cL
       · rename_i ms Dh;simp only[Bool.and_eq_true,List.all_eq_true,Bool.not_eq_true',List.contains_eq_mem,decide_eq_false_iff_not] at cL;have zZ:gD cX o=some (.c (.fn f []),c):=by simp[gD,aY,fl,SS.ev]
         have hX:cX.ah=σ.ah:=by
           rcases hs with rfl | ⟨d,t,hd,rfl⟩ <;> rfl
         have fB:∀x,(cX.ev x).nm=(σ.ev x).nm:=fun x=>by
           rcases hs with rfl | ⟨d,t,hd,rfl⟩
           · rfl
           · rcases vm (b:=t ()) hd x with h1 | ⟨⟨t',h1⟩,b',h2⟩
             · rw[h1]
             · rw[h1,h2]; rfl
         have je:iy cX.ah ms (c.args.toList.map cX.ev)=iy σ.ah ms (c.args.toList.map σ.ev):=by
           unfold iy;rw[hX,Du fB]
         unfold jm at h;simp only[zZ] at h;unfold zK at h;cases hd:o.dst with
         | none=>simp only[hd] at h
         | some d=>
           simp only[hd,Dh] at h;refine Oper.wp_mono (fun a' w' ⟨az,h1,h2,h3⟩=>hn az a' w' h1 h2 fun j hj x hx=> ?_) (HX r (fun p hp hm=>cL.1 _ (je▸hm) (lF p hp)) zZ hd h);obtain⟨q1,q2⟩:=Ip r (hX▸cL.2 j hj) ((r.hd _ (eY j (eO j hj))).2.1) (jD j hj) hx;exact h3 j q1 (fun hm=>cL.1 _ (je▸hm) (eO j hj)) x (by rw[q2]; exact Nat.one_pos)
       · cases cL
     · cases cL
   · cases cL
end
section
variable {P : Program} {tab : bh} (hT : fy P tab = true) {Γ : Ctx} {H : Hp}
include hT
omit hT in
theorem Dw {ops:Array Oper} {b:Bool} {nm0:List Nat} {listed:Array Bool} {σ:SS}:∀{l:List Nat} {i:Nat},vi tab ops b nm0 listed σ l=some i→i∈l∧∃o,ops[i]? = some o∧tH tab b nm0 σ o=true∧Region.free .any ops listed i=true
 | [],i,h=>by simp[vi] at h
 | j ::l,i,h=>by
   unfold vi at h
   split at h
   · rename_i o ho
     split at h
     · rename_i hc;cases h;simp only[Bool.and_eq_true] at hc;exact⟨List.mem_cons_self,o,ho,hc.1,hc.2⟩
     · obtain⟨h1,h2⟩:=Dw h; exact⟨List.mem_cons_of_mem _ h1,h2⟩
   · obtain⟨h1,h2⟩:=Dw h; exact⟨List.mem_cons_of_mem _ h1,h2⟩
omit hT in
theorem It {p:Nat→Prop}:∀{l:List Nat},Dl l p→∀i∈l,p i
 | [],_,i,hi=>by cases hi
 | [j],h,i,hi=>by
   simp only[List.mem_singleton] at hi;subst hi; exact h
 | j ::k::l,h,i,hi=>by
   rcases List.mem_cons.1 hi with rfl | hi
   · exact h.1
   · exact It h.2 i hi
omit hT in
theorem Ph {σ az:SS} {o:Oper} (jg:∀x,az.ev x=σ.ev x∨(∃t,σ.ev x = .c (.lf (.bool t)))∧∃b',az.ev x = .c (.bl b')):qY o az=qY o σ:=by
 unfold qY
 split
 · rename_i T x _;rcases jg x with h | ⟨⟨t,h1⟩,b',h2⟩
   · rw[h]
   · rw[h1,h2]; rfl
 · rfl
theorem z5 {S:World→Prop} {ρ:aK} {ops:Array Oper} {o:Oper} {b:Bool} {pt:List Nat} {σ:SS} {a:Act} {w:World} {K:SS→Prop} (h:mg P tab ops.toList o σ K) (hd:tH tab b pt σ o=true) (r:aM Γ H ρ σ a w)
   (hS:∀w',S w'→∀rd:List Nat,qt b pt rd=true→oE H ρ rd w w') :
   ∃ v az,YieldsIf P ops S o v a∧K az∧aM Γ H ρ az (a.put o.dst v) w:=by
 simp only[tH,Bool.and_eq_true,Bool.not_eq_true',Option.isNone_iff_eq_none] at hd;obtain⟨⟨hc,hm⟩,ia⟩:=hd
 have go:∀{cX:SS},jm P tab o cX K→aM Γ H ρ cX a w→gD cX o=none→lz tab cX o=false→qt b pt (qY o cX)=true→
     ∃ v az,(∀w',S w'→(execOp a.eval o).run P w' = .ok (.value v) w')∧K az∧aM Γ H ρ az (a.put o.dst v) w:=fun {cX} h r hc hm ia=>by
   unfold jm at h;simp only[hc,hm,Bool.false_eq_true,if_false] at h;obtain⟨v,y,hk,hv,cR⟩:=Ce hT r h;exact⟨y,_,fun w' mZ=>cR w' (hS w' mZ _ ia),hk,r.put hv _⟩
 unfold mg at h
 split at h
 · rename_i hg;obtain⟨v,az,h1,h2,h3⟩:=go h r hc hm ia;exact⟨v,az, .inl ⟨by simp[Region.wanted,hg],h1⟩,h2,h3⟩
 · rename_i j want hg
   split at h
   · rename_i d mM;obtain⟨y1,y2⟩:=vl (⟨H,ρ,r⟩:Rel Γ σ a w) mM
     split at h
     · rename_i c hb
       split at h
       · rename_i gT;obtain⟨v,az,h1,h2,h3⟩:=go h r hc hm ia;exact⟨v,az, .inl ⟨by simp[Region.wanted,hg,y1 c hb,gT],h1⟩,h2,h3⟩
       · rename_i gT;exact⟨Go.undef,_, .inr ⟨by simp[Region.wanted,hg,y1 c hb,gT],rfl⟩,h,r.skip _⟩
     · rename_i hb;exact⟨Go.undef,_, .inr ⟨by simp[Region.wanted,hg,y2 hb],rfl⟩,h,r.skip _⟩
     · rename_i t hb;obtain⟨h⟩:=h;have r':=r.hY hb
       have aQ:d<σ.env.length:=by
         rcases Nat.lt_or_ge d σ.env.length with h | h
         · exact h
         · rw[List.getD_eq_getElem?_getD,List.getElem?_eq_none h] at hb; cases hb
       have y3:=(vl (⟨H,ρ,r'⟩:Rel Γ _ a w) mM).1 (t ()) (by simp[SS.hY,List.getD_eq_getElem?_getD,aQ]);have jg:=vm (b:=t ()) hb
       split at h
       · rename_i gT;obtain⟨v,az,h1,h2,h3⟩:=go h r' (Il hc) (Im jg rfl hm) (by rw[Ph jg]; exact ia);exact⟨v,az, .inl ⟨by simp[Region.wanted,hg,y3,gT],h1⟩,h2,h3⟩
       · rename_i gT;exact⟨Go.undef,_, .inr ⟨by simp[Region.wanted,hg,y3,gT],rfl⟩,h,r'.skip _⟩
     · cases h
   · cases h
theorem z6 {ops:Array Oper} {b:Bool} {nm0 pt:List Nat} {Q:Exit→Act→World→Prop} {w0:World} {ρ0:aK} {K:SS→Prop} (o_:Region.noSelect ops=true)
   (nK:b=false→Γ.hd = []) (eY:b=true→∀k∈nm0,(k,ρ0 k)∈Γ.hd) (lF:b=true→∀p∈Γ.hd,p.1∈nm0) (eO:∀k∈pt,k∈nm0) (aQ:∀k∈nm0,∀x,0<(ρ0 k).2 x→x<w0.heap.size) (k9:∀k∈nm0,∀j∈nm0,k≠j→∀x,(ρ0 k).2 x+(ρ0 j).2 x≤1)
   (jD:∀k∈pt,∀b,(ρ0 k).1 = .pointer (some ⟨b,0,none⟩)→(ρ0 k).2=one b∨∀x,(ρ0 k).2 x=0) (lG:∀c a w,¬Q (.panic c) a w) (hQ:∀az a' w',K az→(∃ρ,aM Γ H ρ az a' w')→Q .normal a' w') :
   ∀ (n:Nat) {listed:Array Bool} {σ:SS} {a:Act} {w:World} {ρ:aK},rT P tab ops b nm0 pt n listed σ K→aM Γ H ρ σ a w→(b=true→h_ ρ0 pt w0 w)→
     wpAnyH P .any ops Q (fun w'=>(∀x o,H x=some o→w'.heap[x]? = some o)∧(b=true→h_ ρ0 pt w0 w')) n listed a w
 | 0,listed,σ,a,w,ρ,h,r,hk=>by
   unfold rT at h
   split at h
   · rename_i he;exact⟨he,hQ _ _ _ h ⟨ρ,r⟩⟩
   · cases h
 | n + 1, listed,σ,a,w,ρ,h,r,hk=>by
   unfold rT at h;have h:=Pb h
   split at h
   · rename_i he;exact wpAnyH_done he (hQ _ _ _ h ⟨ρ,r⟩) _
   · rename_i r0 rs he
     split at h
     · rename_i i hp;obtain⟨hi,o,ho,hd,hf⟩:=Dw hp;simp only[ho] at h
       obtain ⟨v,az,hy,hK,r'⟩:=z5 hT h hd r (S:=fun w'=>(∀x o,H x=some o→w'.heap[x]? = some o)∧(b=true→h_ ρ0 pt w0 w')) fun w' mZ rd ia=>by
         refine⟨mZ.1,fun k bL x hx=> ?_⟩;cases b with
         | false=>simp only[qt,List.isEmpty_iff] at ia; subst ia; cases bL
         | true=>
           have h1:k∈pt:=by
             simp only[qt,List.all_eq_true] at ia;simpa using ia k bL
           have h2:=(r.hd _ (eY rfl k (eO k h1))).2.2 x;have h0:0<(ρ0 k).2 x:=by simp only at h2; omega
           rw[mZ.2 rfl k h1 x h0,hk rfl k h1 x h0]
       exact wpAnyH_take ho o_ hf (by rw[he]; simpa using hi) (fun c a w hq=>(lG _ _ _ hq).elim) hy ⟨r.b.hh,hk⟩ (z6 o_ nK eY lF eO aQ k9 jD lG hQ n hK r' hk)
     · refine wpAnyH_all he (by simp) fun i hi=> ?_;have h:=It h i hi
       split at h
       · rename_i o ho
         split at h
         · rename_i cL;cases b with
           | false=>
             refine Dt hT (fun _=>nK rfl) ho h r fun az a' w' hK hr=> ?_;obtain⟨⟨ρ',r'⟩,_⟩:=hr;exact⟨⟨r'.b.hh,fun hb=>by cases hb⟩,z6 o_ nK eY lF eO aQ k9 jD lG hQ n hK r' (fun hb=>by cases hb)⟩
           | true=>
             refine Dv hT ho (by simpa using cL) h r (eY rfl) (lF rfl) eO (fun k bL x hx=>⟨_,by rw[hk rfl k bL x hx]; exact Array.getElem?_eq_getElem (aQ k (eO k bL) x hx)⟩) k9 jD fun az a' w' hK hr xq=> ?_;obtain⟨ρ',r'⟩:=hr;have bL:true=true→h_ ρ0 pt w0 w':=fun _ k gU x hx=>by rw[xq k gU x hx,hk rfl k gU x hx]
             exact⟨⟨r'.b.hh,bL⟩,z6 o_ nK eY lF eO aQ k9 jD lG hQ n hK r' bL⟩
         · cases h
       · cases h
omit hT in
theorem Iu {h:Array Obj} {H:Hp} {ρ:aK} {D:Nat→Prop} {B:an} {p:Value × (Nat→Nat)} (hr:cO h H ρ D B p) {b:Nat} (hp:p.1 = .pointer (some ⟨b,0,none⟩)):p.2=one b∨∀x,p.2 x=0:=by
 cases B with
 | dead=>simp only[cO] at hr; exact .inr fun x=>by rw[hr]
 | box cs=>
   obtain⟨b',vs,e,fz,h1,h2,_⟩:=hr;rw[hp] at h1;simp only[Value.pointer.injEq,Option.some.injEq,Addr.mk.injEq,and_true] at h1;subst h1;exact .inl h2
 | own E xs l=>
   obtain⟨b',c,h1,_⟩:=bx.slice hr;rw[hp] at h1; cases h1
 | view E xs=>exact .inr fun x=>by rw[hr.2]
 | ck E xs i fs=>
   obtain⟨b',o,c,cs,e,fz,S,h1,_⟩:=hr;rw[hp] at h1; cases h1
 | mp m=>
   obtain⟨b',es,c,h1,_⟩:=hr;rw[hp] at h1; cases h1
omit hT in
theorem xr {bs:List (Nat × an)} {k:Nat}:∀{ks:List Nat},k∈rS bs ks→k∈ks
 | [],h=>by cases h
 | j ::ks,h=>by
   simp only[rS] at h
   split at h
   · rcases List.mem_cons.1 h with rfl | h
     · exact List.mem_cons_self
     · exact List.mem_cons_of_mem _ (xr h)
   · exact List.mem_cons_of_mem _ (xr h)
omit hT in
theorem tM {l:List Nat} {k:Nat}:∀{ks:List Nat},k∈o8 l ks→k∈ks
 | [],h=>by cases h
 | j ::ks,h=>by
   simp only[o8] at h
   split at h
   · exact List.mem_cons_of_mem _ (tM h)
   · rcases List.mem_cons.1 h with rfl | h
     · exact List.mem_cons_self
     · exact List.mem_cons_of_mem _ (tM h)
theorem Pj {id:Nat} {ops:Array Oper} {σ:SS} {a:Act} {w:World} {K:Exit→SS→Prop} {Q:Exit→Act→World→Prop} (bT:Γ.hd = [])
   (h:if Region.noSelect ops=true then Dm P tab ops σ fun az=>K .normal az else False)
   (r:Rel Γ σ a w) (hQ:∀az a' w',K .normal az→Rel Γ az a' w'→Q .normal a' w'):(Code.region id ops true).wp P Q a w:=by
 split at h
 · rename_i o_
   have key:∀(b:Bool) (pt:List Nat),(∀k∈pt,k∈σ.ah.map (·.1))→rT P tab ops b (σ.ah.map (·.1)) pt ops.size (Array.replicate ops.size false) σ (fun az=>K .normal az)→(Code.region id ops true).wp P Q a w:=by
     intro b pt eO h;obtain⟨H,ρ,r⟩:=r
     let mi:Ctx:={Γ with hd:=if b=true then σ.ah.map fun p=>(p.1,ρ p.1) else[]}
     have r':aM mi H ρ σ a {w with drawn:=w.drawn+1}:=by
       refine⟨r.b,r.e,r.d,r.n.trans (Ext.of (Nat.le_refl _) rfl rfl fun _=>rfl),fun p hp=> ?_,r.hm⟩;simp only[mi] at hp
       split at hp
       · obtain⟨q,hq,rfl⟩:=List.mem_map.1 hp;exact⟨List.mem_map.2 ⟨q,hq,rfl⟩,rfl,fun x=>Nat.le_refl _⟩
       · cases hp
     refine Code.wp_mono (Q:=fun e a w=>match e with | .normal=>Q .normal a w | _=>False) (fun e a w hq=>by cases e <;> first | exact hq | exact hq.elim) ?_
     refine wp_region_held (Gi hT) (z6 (Γ:=mi) (H:=H) (ρ0:=ρ) (w0:={w with drawn:=w.drawn+1}) hT o_ (fun hb=>by simp only[mi,hb]; rfl) (fun hb k hk=> ?_) (fun hb p hp=> ?_) eO (fun k hk x hx=> ?_) (fun k hk j hj hne x=> ?_) (fun k hk b hb=> ?_) (fun c a w hq=>hq)
       (fun az a' w' hK hr=> ?_) _ h r' (fun _ _ _ _ _=>rfl))
     · obtain⟨q,hq,rfl⟩:=List.mem_map.1 hk;simp only[mi,hb,if_true];exact List.mem_map.2 ⟨q,hq,rfl⟩
     · simp only[mi,hb,if_true] at hp;obtain⟨q,hq,rfl⟩:=List.mem_map.1 hp;exact List.mem_map.2 ⟨q,hq,rfl⟩
     · obtain⟨q,hq,rfl⟩:=List.mem_map.1 hk;exact r'.lt (Nat.lt_of_lt_of_le hx (nu hq x))
     · exact Nat.le_trans (tw hk hj (Ne.symm hne) x) (r.b.sum x)
     · obtain⟨q,hq,rfl⟩:=List.mem_map.1 (eO k hk);have h1:=r.b.ah _ _ hq;exact Iu h1 hb
     · obtain⟨ρ',r2⟩:=hr;exact hQ _ _ _ hK ⟨H,ρ',r2.b,r2.e,r2.d,r2.n,by rw[bT];(intro p hp; cases hp),r2.hm⟩
   unfold Dm at h
   split at h
   · rename_i nw ws _;cases nw with
     | true=>exact key true _ (fun k hk=>tM (xr hk)) h
     | false=>exact key true _ (fun k hk=>tM hk) h
   · exact key false [] (fun k hk=>by cases hk) h
 · cases h
omit hT in
theorem Iv:∀(l:List Bool) (j:Nat),nG l j=l.toArray.getD j false
 | [],j=>by simp[nG]
 | b::l,0=>by simp[nG]
 | b ::l,j+1=>by
   have:=Iv l j;simp only[nG,this];simp[Array.getD_eq_getD_getElem?]
omit hT in
theorem vn:∀(l:List Bool) (i:Nat),jC l i=l.set i true
 | [],i=>by simp[jC]
 | b::l,0=>by simp[jC]
 | b::l,i+1=>by simp[jC,vn l i]
omit hT in
theorem Dx:∀{l:List Bool},lB l=true→∀b∈l,b=true
 | [],_,b,hb=>by cases hb
 | c ::l,h,b,hb=>by
   cases c with
   | false=>cases h
   | true=>
     cases hb with
     | head=>rfl
     | tail _ hb=>exact Dx (l:=l) h b hb
omit hT in
theorem Iw:∀(os:List Oper),rU os=List.replicate os.length false
 | []=>rfl
 | _::os=>by simp[rU,Iw os,List.replicate_succ]
omit hT in
theorem Iy {l:List Bool}:∀{es:List Edge},k8 l es=true↔∀e∈es,Region.binds .any e=true→nG l e.on=true
 | []=>by simp[k8]
 | e ::es=>by
   have ih:=Iy (l:=l) (es:=es);unfold k8;cases h:Region.binds .any e with
   | false=>simp[ih,h]
   | true=>
     cases h2:nG l e.on with
     | false=>simp[h,h2]
     | true=>simp[ih,h,h2]
omit hT in
theorem z7 {b:Bool} {pt:List Nat} {l0:List Bool} {σ:SS}:∀{os:List Oper} {ls:List Bool} {k i:Nat} {o:Oper},nH tab b pt l0 σ os ls k=some (i,o)→
   ∃ j,i=k+j∧os[j]? = some o∧ls[j]? = some false∧k8 l0 o.after.toList=true∧tH tab b pt σ o=true
 | [],ls,k,i,o,h=>by simp[nH] at h
 | _::_,[],k,i,o,h=>by simp[nH] at h
 | q :: os,l::ls,k,i,o,h=>by
   have next:nH tab b pt l0 σ os ls (k+1)=some (i,o)→∃j,i=k+j∧(q::os)[j]? = some o∧(l::ls)[j]? = some false∧k8 l0 o.after.toList=true∧tH tab b pt σ o=true:=fun h=>by
     obtain⟨j,h1,h2,h3,h4⟩:=z7 h;exact⟨j+1,by omega,by simpa using h2,by simpa using h3,h4⟩
   unfold nH at h;cases l with
   | true=>exact next h
   | false=>
     simp only at h
     split at h
     · rename_i ha
       split at h
       · rename_i hd;cases h;exact⟨0,rfl,rfl,rfl,ha,hd⟩
       · exact next h
     · exact next h
omit hT in
theorem Dy {l0:List Bool}:∀{os:List Oper} {ls:List Bool} {k j:Nat} {o:Oper},os[j]? = some o→ls[j]? = some false→k8 l0 o.after.toList=true→(k+j,o)∈lC l0 os ls k
 | [],ls,k,j,o,h,_,_=>by simp at h
 | _::_,[],k,j,o,_,h,_=>by simp at h
 | q ::os,l::ls,k,0,o,h1,h2,h3=>by
   simp only[List.getElem?_cons_zero,Option.some.injEq] at h1 h2;subst h1; subst h2;unfold lC;simp only[h3,Nat.add_zero,List.mem_cons,true_or]
 | q ::os,l::ls,k,j+1,o,h1,h2,h3=>by
   have ih:=Dy (l0:=l0) (os:=os) (ls:=ls) (k:=k+1) (j:=j) (o:=o) (by simpa using h1) (by simpa using h2) h3;rw[show k+(j+1)=k+1+j by omega];unfold lC
   split
   · exact ih
   · split
     · exact List.mem_cons_of_mem _ ih
     · exact ih
omit hT in
theorem Dz {l0:List Bool}:∀{os:List Oper} {ls:List Bool} {k i:Nat} {o:Oper},(i,o)∈lC l0 os ls k→∃j,i=k+j∧os[j]? = some o∧ls[j]? = some false∧k8 l0 o.after.toList=true
 | [],ls,k,i,o,h=>by simp[lC] at h
 | _::_,[],k,i,o,h=>by simp[lC] at h
 | q :: os,l::ls,k,i,o,h=>by
   have next:(i,o)∈lC l0 os ls (k+1)→∃j,i=k+j∧(q::os)[j]? = some o∧(l::ls)[j]? = some false∧k8 l0 o.after.toList=true:=fun h=>by
     obtain⟨j,h1,h2,h3,h4⟩:=Dz h;exact⟨j+1,by omega,by simpa using h2,by simpa using h3,h4⟩
   unfold lC at h
   split at h
   · exact next h
   · split at h
     · rename_i ha;rcases List.mem_cons.1 h with h | h
       · cases h;exact⟨0,rfl,rfl,rfl,ha⟩
       · exact next h
     · exact next h
omit hT in
theorem DA {q:Nat→Oper→Prop}:∀{l:List (Nat × Oper)},zS l q→∀p∈l,q p.1 p.2
 | [],_,p,hp=>by cases hp
 | [_],h,p,hp=>by cases List.mem_singleton.1 hp; exact h
 | _ ::r::l,h,p,hp=>by
   rcases List.mem_cons.1 hp with rfl | hp
   · exact h.1
   · exact DA (l:=r::l) h.2 p hp
omit hT in
theorem rV {ops:Array Oper} {l:List Bool} {i:Nat}:i∈Region.ready .any ops l.toArray↔l.toArray.getD i true=false∧∃o,ops.toList[i]? = some o∧k8 l o.after.toList=true:=by
 rw[mem_ready];simp only[Iy,Iv,Array.getElem?_toList,Array.mem_toList_iff]
omit hT in
theorem qy {l:List Bool} {i:Nat}:l.toArray.getD i true=false↔l[i]? = some false:=by
 rw[Array.getD_eq_getD_getElem?,List.getElem?_toArray];cases h:l[i]? with
 | none=>simp
 | some b=>simp
omit hT in
theorem Iz {ops:Array Oper} (hf:o9 ops=true) {l:Array Bool} {i:Nat} (hi:i∈Region.ready .any ops l):Region.free .any ops l i=true:=by
 obtain⟨h1,o,h2,h3⟩:=mem_ready.1 hi;simp only[o9,Bool.and_eq_true,List.all_eq_true,List.mem_range] at hf;have aQ:=(Array.getElem?_eq_some_iff.1 h2).1;have h4:=hf.1 i aQ;simp only[Ik,h2,List.all_eq_true,List.mem_range] at h4;simp only[Region.free,h2,List.all_eq_true,List.mem_range];intro j hj;have h5:=h4 j hj;simp only[Bool.or_eq_true] at h5 ⊢;rcases h5 with h5 | h5
 · exact .inl (.inl h5)
 · cases xt:l.getD j true with
   | true=>exact .inl (.inr rfl)
   | false =>
     refine .inr ?_;cases Pk:ops[j]? with
     | none=>rfl
     | some oj=>
       simp only[Pk,Bool.or_eq_true] at h5 ⊢;rcases h5 with(h5 | h5) | h5
       · exact .inl h5
       · exfalso;obtain⟨e,he,h6⟩:=Array.any_eq_true'.1 h5;simp only[Bool.and_eq_true,beq_iff_eq] at h6;have h7:=h3 e he h6.1;rw[h6.2] at h7;rw[Array.getD_eq_getD_getElem?] at h7 xt;cases h8:l[j]? with
         | none=>rw[h8] at h7; cases h7
         | some b=>rw[h8] at h7 xt; simp at h7 xt; rw[h7] at xt; cases xt
       · exact .inr h5
omit hT in
theorem DB:∀{l m:List Bool},tJ l m=true→l=m
 | [],[],_=>rfl
 | [],_::_,h=>by simp[tJ] at h
 | _::_,[],h=>by simp[tJ] at h
 | b ::bs,c::cs,h=>by
   cases b <;> cases c <;> simp only[tJ] at h
   · rw[DB h]
   · cases h
   · cases h
   · rw[DB h]
omit hT in
theorem xu {p:List Bool→Prop}:∀{rs:List Row} {l l':List Bool},tK rs l p→qu rs l l'=true→p l'
 | [],l,l',h,hi=>by
   rw[←DB hi]; exact h.1
 | r :: rs,l,l',h,hi=>by
   unfold tK at h;unfold qu at hi
   split at h
   · rename_i ha;rw[ha] at hi;exact xu h hi
   · rename_i ha;rw[ha] at hi
     split at h
     · rename_i ht;rw[ht] at hi;exact xu h hi
     · rename_i ht;rw[ht] at hi;simp only at hi
       split at hi
       · exact xu h.1.1 hi
       · exact xu h.2.1 hi
omit hT in
theorem DC:∀{l:List Bool} {i:Nat},l[i]? = some false→lD l=lD (jC l i)+1
 | [],i,h=>by simp at h
 | b ::l,0,h=>by
   simp only[List.getElem?_cons_zero,Option.some.injEq] at h;subst h; rfl
 | b ::l,i+1,h=>by
   have ih:=DC (l:=l) (i:=i) (by simpa using h);cases b <;> simp only[lD,jC,ih]
omit hT in
theorem IA:∀{l:List Bool},lD l=0→lB l=true
 | [],_=>rfl
 | b ::l,h=>by
   cases b with
   | true=>exact IA (l:=l) h
   | false=>simp[lD] at h
omit hT in
theorem IB {l:List Bool} {σ:SS}:∀{rs:List Row},zX l rs=true→xm l rs σ=σ
 | [],_=>rfl
 | r ::rs,h=>by
   unfold zX at h;unfold xm
   split at h
   · cases h
   · exact IB h
omit hT in
theorem Pl {o:Oper} {a:Act} {w:World} {C:Prop} (h:o.wp P a w (fun _ _=>C) (fun _ _ _=>False)):C:=by
 unfold Oper.wp at h;cases hr:(execOp a.eval o).run P w with
 | ok n w'=>
   rw[hr] at h;cases n with
   | value v=>exact h
   | skip=>exact h
   | defer d=>exact h
   | enter f args=>
     obtain⟨e,s8,fr,h1,_⟩:=h [];cases e with
     | returned v=>exact h1
     | panicked c=>exact h1.elim
     | outgrown=>obtain⟨_,_,h2⟩:=h1; exact h2.elim
   | row r args=>
     obtain⟨v,s8,h1,_⟩:=h (Frame.ofRow P r args .normal) [];exact h1
   | _=>exact h.elim
 | halt x w'=>
   rw[hr] at h;cases x <;> exact h.elim
theorem DD {ops:Array Oper} {b:Bool} {pt:List Nat} (bT:Γ.hd = []):∀(n:Nat) {l:List Bool} {σ:SS} {rs:List Row} {J:List Row→SS→Prop} {ρ:aK} {a:Act} {w:World},vj P tab ops.toList b pt n l σ rs J→aM Γ H ρ σ a w→∃Pm az,J Pm az
 | 0,l,σ,rs,J,ρ,a,w,h,r=>by
   unfold vj at h
   split at h
   · exact⟨_,_,h⟩
   · cases h
 | n + 1, l,σ,rs,J,ρ,a,w,h,r=>by
   unfold vj at h
   split at h
   · exact⟨_,_,h⟩
   · split at h
     · rename_i i o hp;obtain⟨j,hj,h1,h2,h3,hd⟩:=z7 hp;obtain⟨v,az,_,hK,r'⟩:=z5 hT h hd r (S:=fun w'=>w'=w) (fun w' mZ rd _=>by rw[mZ]; exact oE.refl r _);exact DD bT n hK r'
     · split at h
       · cases h
       · rename_i i o _ _
         split at h
         · have h1:=zY hT (Q:=fun _ _ _=>False) (fun _=>bT) h r;refine Pl (o:=o) (a:=a) (w:=w) (P:=P) (Oper.wp_mono (fun a' w' h2=> ?_) h1);obtain⟨az,hK,⟨ρ',r'⟩,_⟩:=h2;exact DD bT n hK r'
         · cases h
theorem IC {ops:Array Oper} {b:Bool} {nm0 pt:List Nat} {Q:Exit→Act→World→Prop} {w0:World} {ρ0:aK} (iO:o9 ops=true)
   (eY:b=true→∀k∈nm0,(k,ρ0 k)∈Γ.hd) (eO:∀k∈pt,k∈nm0) (lG:∀c a w,¬Q (.panic c) a w) {J:List Bool→SS→Prop} :
   ∀ (n:Nat) {m:Nat} {l:List Bool} {σ:SS} {a:Act} {w:World} {ρ:aK},xo P tab ops.toList b pt n l σ J→aM Γ H ρ σ a w→(b=true→h_ ρ0 pt w0 w)→lD l≤m→
     (∀m' l' az a' w' ρ',m'≤m→J l' az→aM Γ H ρ' az a' w'→(b=true→h_ ρ0 pt w0 w')→lD l'≤m'→wpAnyH P .any ops Q (fun w'=>(∀x o,H x=some o→w'.heap[x]? = some o)∧(b=true→h_ ρ0 pt w0 w')) m' l'.toArray a' w')→
     wpAnyH P .any ops Q (fun w'=>(∀x o,H x=some o→w'.heap[x]? = some o)∧(b=true→h_ ρ0 pt w0 w')) m l.toArray a w
 | 0,m,l,σ,a,w,ρ,h,r,hk,hc,go=>go m l σ a w ρ (Nat.le_refl _) h r hk hc
 | n + 1, m,l,σ,a,w,ρ,h,r,hk,hc,go=>by
   have o_:Region.noSelect ops=true:=by
     have h1:=iO;simp only[o9,Bool.and_eq_true] at h1;exact h1.2
   unfold xo at h
   split at h
   · rename_i i o hp;obtain⟨j,hj,h1,h2,h3,hd⟩:=z7 hp;rw[Nat.zero_add] at hj;subst hj;have hi:i∈Region.ready .any ops l.toArray:=rV.2 ⟨qy.2 h2,o,h1,h3⟩;have ho:ops[i]? = some o:=by rw[←Array.getElem?_toList]; exact h1
     obtain⟨v,az,hy,hK,r'⟩:=z5 hT h hd r (S:=fun w'=>(∀x o,H x=some o→w'.heap[x]? = some o)∧(b=true→h_ ρ0 pt w0 w')) fun w' mZ rd ia=>by
      refine⟨mZ.1,fun k bL x hx=> ?_⟩;cases b with
      | false=>simp only[qt,List.isEmpty_iff] at ia; subst ia; cases bL
      | true=>
        have h1:k∈pt:=by
         simp only[qt,List.all_eq_true] at ia;simpa using ia k bL
        have h2:=(r.hd _ (eY rfl k (eO k h1))).2.2 x;have h0:0<(ρ0 k).2 x:=by simp only at h2; omega
        rw[mZ.2 rfl k h1 x h0,hk rfl k h1 x h0]
     have dB:=DC h2;obtain⟨m,rfl⟩:∃m',m=m'+1:=⟨m - 1,by omega⟩;have lH:=IC iO eY eO lG n (m:=m) hK r' hk (by omega) (fun m' l' az a' w' ρ' hm=>go m' l' az a' w' ρ' (by omega));rw[vn,←List.setIfInBounds_toArray] at lH;exact wpAnyH_take ho o_ (Iz iO hi) (by simpa using hi) (fun c a w hq=>(lG _ _ _ hq).elim) hy ⟨r.b.hh,hk⟩ lH
   · exact go m l σ a w ρ (Nat.le_refl _) h r hk hc
theorem Pn {ops:Array Oper} {b:Bool} {nm0 pt:List Nat} {Q:Exit→Act→World→Prop} {w0:World} {ρ0:aK} {K:SS→Prop} (iO:o9 ops=true)
   (nK:b=false→Γ.hd = []) (eY:b=true→∀k∈nm0,(k,ρ0 k)∈Γ.hd) (lF:b=true→∀p∈Γ.hd,p.1∈nm0) (eO:∀k∈pt,k∈nm0) (aQ:∀k∈nm0,∀x,0<(ρ0 k).2 x→x<w0.heap.size) (k9:∀k∈nm0,∀j∈nm0,k≠j→∀x,(ρ0 k).2 x+(ρ0 j).2 x≤1)
   (jD:∀k∈pt,∀b,(ρ0 k).1 = .pointer (some ⟨b,0,none⟩)→(ρ0 k).2=one b∨∀x,(ρ0 k).2 x=0) (lG:∀c a w,¬Q (.panic c) a w) (hQ:∀az a' w',K az→(∃ρ,aM Γ H ρ az a' w')→Q .normal a' w')
   {nodes:List Bool→Bool} {st:List Bool→SS} (hK:∀l,lB l=true→K (st l)) (hn:∀l,nodes l=true→Dp P tab ops.toList b nm0 pt nodes st l) :
   ∀ (m:Nat) {l:List Bool} {a:Act} {w:World} {ρ:aK},nodes l=true→aM Γ H ρ (st l) a w→(b=true→h_ ρ0 pt w0 w)→lD l≤m→
     wpAnyH P .any ops Q (fun w'=>(∀x o,H x=some o→w'.heap[x]? = some o)∧(b=true→h_ ρ0 pt w0 w')) m l.toArray a w:=by
 have gL:∀{l:List Bool},lB l=true→Region.ready .any ops l.toArray = []:=fun {l} h=>by
   refine List.eq_nil_iff_forall_not_mem.2 fun i hi=> ?_;obtain⟨h1,_⟩:=rV.1 hi;have:=Dx h _ (List.mem_of_getElem? (qy.1 h1));cases this
 intro m
 induction m using Nat.strongRecOn with
 | ind m ih =>
   intro l a w ρ hl r hk hc;cases xv:lB l with
   | true=>exact wpAnyH_done (gL xv) (hQ _ _ _ (hK l xv) ⟨ρ,r⟩) _
   | false =>
     have h:=hn l hl;unfold Dp at h;rw[xv] at h;simp only at h
     split at h
     · cases h
     · rename_i r0 rs he
       have hne:Region.ready .any ops l.toArray≠ []:=by
         obtain⟨i0,o0⟩:=r0;obtain⟨j,hj,h1,h2,h3⟩:=Dz (i:=i0) (o:=o0) (by rw[he]; exact List.mem_cons_self);rw[Nat.zero_add] at hj;subst hj;intro h0;have:i0∈Region.ready .any ops l.toArray:=rV.2 ⟨qy.2 h2,o0,h1,h3⟩;rw[h0] at this; cases this
       obtain⟨m,rfl⟩:∃m',m=m'+1:=by
         cases m with
         | zero=>
           have:=IA (Nat.le_zero.1 hc);rw[this] at xv; cases xv
         | succ m=>exact⟨m,rfl⟩
       refine wpAnyH_all rfl hne fun i hi=> ?_;obtain⟨h1,o,h2,h3⟩:=rV.1 hi;have cA:=Dy (l0:=l) (k:=0) h2 (qy.1 h1) h3;rw[Nat.zero_add,he] at cA;have h:=DA h _ cA;have ho:ops[i]? = some o:=by rw[←Array.getElem?_toList]; exact h2
       have dB:=DC (qy.1 h1)
       have next:∀(az:SS) (a':Act) (w':World) (ρ':aK),xo P tab ops.toList b pt (lD l) (jC l i) az (fun l' vk=>match nodes l' with | true=>vk=st l' | false=>False)→aM Γ H ρ' az a' w'→(b=true→h_ ρ0 pt w0 w')→
           wpAnyH P .any ops Q (fun w'=>(∀x o,H x=some o→w'.heap[x]? = some o)∧(b=true→h_ ρ0 pt w0 w')) m (l.toArray.setIfInBounds i true) a' w':=fun az a' w' ρ' jx r' bL=>by
         have:=IC hT iO eY eO lG (lD l) (m:=m) jx r' bL (by omega) (fun m' l' az a' w' ρ' hm hJ r' bL zn=>by
           split at hJ
           · rename_i zG;subst hJ;exact ih m' (by omega) zG r' bL zn
           · cases hJ)
         rw[vn,←List.setIfInBounds_toArray] at this;exact this
       simp only at h
       split at h
       · rename_i cL;cases b with
         | false=>
           refine Dt hT (fun _=>nK rfl) ho h r fun az a' w' DE hr=> ?_;obtain⟨⟨ρ',r'⟩,_⟩:=hr;exact⟨⟨r'.b.hh,fun hb=>by cases hb⟩,next _ _ _ _ DE r' (fun hb=>by cases hb)⟩
         | true=>
           refine Dv hT ho (by simpa using cL) h r (eY rfl) (lF rfl) eO (fun k bL x hx=>⟨_,by rw[hk rfl k bL x hx]; exact Array.getElem?_eq_getElem (aQ k (eO k bL) x hx)⟩) k9 jD fun az a' w' DE hr xq=> ?_;obtain⟨ρ',r'⟩:=hr;have bL:true=true→h_ ρ0 pt w0 w':=fun _ k gU x hx=>by rw[xq k gU x hx,hk rfl k gU x hx]
           exact⟨⟨r'.b.hh,bL⟩,next _ _ _ _ DE r' bL⟩
       · cases h
theorem Po {ops:Array Oper} {b:Bool} {nm0 pt:List Nat} {Q:Exit→Act→World→Prop} {w0:World} {ρ0:aK} {K:SS→Prop} (iO:o9 ops=true)
  (nK:b=false→Γ.hd = []) (eY:b=true→∀k∈nm0,(k,ρ0 k)∈Γ.hd) (lF:b=true→∀p∈Γ.hd,p.1∈nm0) (eO:∀k∈pt,k∈nm0) (aQ:∀k∈nm0,∀x,0<(ρ0 k).2 x→x<w0.heap.size) (k9:∀k∈nm0,∀j∈nm0,k≠j→∀x,(ρ0 k).2 x+(ρ0 j).2 x≤1)
  (jD:∀k∈pt,∀b,(ρ0 k).1 = .pointer (some ⟨b,0,none⟩)→(ρ0 k).2=one b∨∀x,(ρ0 k).2 x=0) (lG:∀c a w,¬Q (.panic c) a w) (hQ:∀az a' w',K az→(∃ρ,aM Γ H ρ az a' w')→Q .normal a' w')
  {n :Nat} {l:List Bool} {σ:SS} {a:Act} {w:World} {ρ:aK} (hl:lB l=false) (h:Ij P tab ops.toList b nm0 pt n l σ K) (r:aM Γ H ρ σ a w) (hk:b=true→h_ ρ0 pt w0 w) :
   wpAnyH P .any ops Q (fun w'=>(∀x o,H x=some o→w'.heap[x]? = some o)∧(b=true→h_ ρ0 pt w0 w')) n l.toArray a w:=by
 have r0:aM {Γ with hd:=[]} H ρ σ a w:=⟨r.b,r.e,r.d,r.n,(fun p hp=>by cases hp),r.hm⟩;obtain⟨rows,tI,rJ,hb,ht⟩:=DD (Γ:={Γ with hd:=[]}) hT rfl n h r0;simp only[Bool.and_eq_true] at hb;obtain⟨rW,eh,ek⟩:=hb
 have e0:xn rows σ tI l=σ:=by
  unfold xn;rw[hl];exact IB ek
 refine Pn hT iO nK eY lF eO aQ k9 jD lG hQ (nodes:=qu rows l) (st:=xn rows σ tI) (fun l' ko=> ?_) (fun l' ko=>xu ht ko) n rW (by rw[e0]; exact r) hk (Nat.le_of_ble_eq_true eh);unfold xn;rw[ko];exact rJ
theorem Pp {ops:Array Oper} {b:Bool} {nm0 pt:List Nat} {Q:Exit→Act→World→Prop} {w0:World} {ρ0:aK} {K:SS→Prop} (iO:o9 ops=true)
   (nK:b=false→Γ.hd = []) (eY:b=true→∀k∈nm0,(k,ρ0 k)∈Γ.hd) (lF:b=true→∀p∈Γ.hd,p.1∈nm0) (eO:∀k∈pt,k∈nm0) (aQ:∀k∈nm0,∀x,0<(ρ0 k).2 x→x<w0.heap.size) (k9:∀k∈nm0,∀j∈nm0,k≠j→∀x,(ρ0 k).2 x+(ρ0 j).2 x≤1)
   (jD:∀k∈pt,∀b,(ρ0 k).1 = .pointer (some ⟨b,0,none⟩)→(ρ0 k).2=one b∨∀x,(ρ0 k).2 x=0) (lG:∀c a w,¬Q (.panic c) a w) (hQ:∀az a' w',K az→(∃ρ,aM Γ H ρ az a' w')→Q .normal a' w') :
   ∀ (n:Nat) {l:List Bool} {σ:SS} {a:Act} {w:World} {ρ:aK},qv P tab ops.toList b nm0 pt n l σ K→aM Γ H ρ σ a w→(b=true→h_ ρ0 pt w0 w)→
     wpAnyH P .any ops Q (fun w'=>(∀x o,H x=some o→w'.heap[x]? = some o)∧(b=true→h_ ρ0 pt w0 w')) n l.toArray a w:=by
 have o_:Region.noSelect ops=true:=by
   simp only[o9,Bool.and_eq_true] at iO;exact iO.2
 have gL:∀{l:List Bool},lB l=true→Region.ready .any ops l.toArray = []:=fun {l} h=>by
   refine List.eq_nil_iff_forall_not_mem.2 fun i hi=> ?_;obtain⟨h1,_⟩:=rV.1 hi;have:=Dx h _ (List.mem_of_getElem? (qy.1 h1));cases this
 intro n
 induction n with
 | zero=>
   intro l σ a w ρ h r hk;unfold qv at h
   split at h
   · rename_i he;exact⟨gL he,hQ _ _ _ h ⟨ρ,r⟩⟩
   · cases h
 | succ n ih =>
   intro l σ a w ρ h r hk;unfold qv at h
   split at h
   · rename_i he;exact wpAnyH_done (gL he) (hQ _ _ _ h ⟨ρ,r⟩) _
   · split at h
     · rename_i i o hp;obtain⟨j,hj,h1,h2,h3,hd⟩:=z7 hp;rw[Nat.zero_add] at hj;subst hj;have hi:i∈Region.ready .any ops l.toArray:=rV.2 ⟨qy.2 h2,o,h1,h3⟩;have ho:ops[i]? = some o:=by rw[←Array.getElem?_toList]; exact h1
       obtain ⟨v,az,hy,hK,r'⟩:=z5 hT h hd r (S:=fun w'=>(∀x o,H x=some o→w'.heap[x]? = some o)∧(b=true→h_ ρ0 pt w0 w')) fun w' mZ rd ia=>by
         refine⟨mZ.1,fun k bL x hx=> ?_⟩;cases b with
         | false=>simp only[qt,List.isEmpty_iff] at ia; subst ia; cases bL
         | true=>
           have h1:k∈pt:=by
             simp only[qt,List.all_eq_true] at ia;simpa using ia k bL
           have h2:=(r.hd _ (eY rfl k (eO k h1))).2.2 x;have h0:0<(ρ0 k).2 x:=by simp only at h2; omega
           rw[mZ.2 rfl k h1 x h0,hk rfl k h1 x h0]
       have lH:=ih hK r' hk;rw[vn,←List.setIfInBounds_toArray] at lH;exact wpAnyH_take ho o_ (Iz iO hi) (by simpa using hi) (fun c a w hq=>(lG _ _ _ hq).elim) hy ⟨r.b.hh,hk⟩ lH
     · split at h
       · cases h
       · rename_i r0 rs he
         have hne:Region.ready .any ops l.toArray≠ []:=by
           obtain⟨i0,o0⟩:=r0;obtain⟨j,hj,h1,h2,h3⟩:=Dz (i:=i0) (o:=o0) (by rw[he]; exact List.mem_cons_self);rw[Nat.zero_add] at hj;subst hj;intro h0;have:i0∈Region.ready .any ops l.toArray:=rV.2 ⟨qy.2 h2,o0,h1,h3⟩;rw[h0] at this; cases this
         split at h
         · exact Po hT iO nK eY lF eO aQ k9 jD lG hQ (by assumption) h r hk
         refine wpAnyH_all rfl hne fun i hi=> ?_;obtain⟨h1,o,h2,h3⟩:=rV.1 hi;have cA:=Dy (l0:=l) (k:=0) h2 (qy.1 h1) h3;rw[Nat.zero_add,he] at cA;have h:=DA h _ cA;have ho:ops[i]? = some o:=by rw[←Array.getElem?_toList]; exact h2
         simp only at h
         split at h
         · rename_i cL;cases b with
           | false=>
             refine Dt hT (fun _=>nK rfl) ho h r fun az a' w' hK hr=> ?_;obtain⟨⟨ρ',r'⟩,_⟩:=hr;have lH:=ih hK r' (fun hb=>by cases hb);rw[vn,←List.setIfInBounds_toArray] at lH;exact⟨⟨r'.b.hh,fun hb=>by cases hb⟩,lH⟩
           | true=>
             refine Dv hT ho (by simpa using cL) h r (eY rfl) (lF rfl) eO (fun k bL x hx=>⟨_,by rw[hk rfl k bL x hx]; exact Array.getElem?_eq_getElem (aQ k (eO k bL) x hx)⟩) k9 jD fun az a' w' hK hr xq=> ?_;obtain⟨ρ',r'⟩:=hr;have bL:true=true→h_ ρ0 pt w0 w':=fun _ k gU x hx=>by rw[xq k gU x hx,hk rfl k gU x hx]
             have lH:=ih hK r' bL;rw[vn,←List.setIfInBounds_toArray] at lH;exact⟨⟨r'.b.hh,bL⟩,lH⟩
         · cases h
theorem Pq {id:Nat} {ops:Array Oper} {σ:SS} {a:Act} {w:World} {K:Exit→SS→Prop} {Q:Exit→Act→World→Prop} (bT:Γ.hd = []) (iO:o9 ops=true)
   (h:Dq P tab ops σ fun az=>K .normal az)
   (r:Rel Γ σ a w) (hQ:∀az a' w',K .normal az→Rel Γ az a' w'→Q .normal a' w'):(Code.region id ops true).wp P Q a w:=by
 have key:∀(b:Bool) (nm0 pt:List Nat),(∀k∈nm0,k∈σ.ah.map (·.1))→(∀k∈pt,k∈nm0)→qv P tab ops.toList b nm0 pt ops.toList.length (rU ops.toList) σ (fun az=>K .normal az)→(Code.region id ops true).wp P Q a w:=by
   intro b nm0 pt fB eO h;obtain⟨H,ρ,r⟩:=r
   let mi:Ctx:={Γ with hd:=if b=true then nm0.map fun k=>(k,ρ k) else[]}
   have r':aM mi H ρ σ a {w with drawn:=w.drawn+1}:=by
    refine⟨r.b,r.e,r.d,r.n.trans (Ext.of (Nat.le_refl _) rfl rfl fun _=>rfl),fun p hp=> ?_,r.hm⟩;simp only[mi] at hp
    split at hp
    · obtain⟨q,hq,rfl⟩:=List.mem_map.1 hp;exact⟨fB q hq,rfl,fun x=>Nat.le_refl _⟩
    · cases hp
   have Pr:(rU ops.toList).toArray=Array.replicate ops.size false:=by rw[Iw]; simp
   have bq:ops.toList.length=ops.size:=by simp
   refine Code.wp_mono (Q:=fun e a w=>match e with | .normal=>Q .normal a w | _=>False) (fun e a w hq=>by cases e <;> first | exact hq | exact hq.elim) ?_
   have main:=Pp (Γ:=mi) (H:=H) (ρ0:=ρ) (w0:={w with drawn:=w.drawn+1}) (b:=b) (nm0:=nm0) (pt:=pt) (K:=fun az=>K .normal az) (Q:=fun e a w=>match e with | .normal=>Q .normal a w | _=>False) hT iO (fun hb=>by simp only[mi,hb]; rfl) (fun hb k hk=>by
      simp only[mi,hb,if_true];exact List.mem_map.2 ⟨k,hk,rfl⟩) (fun hb p hp=>by
      simp only[mi,hb,if_true] at hp;obtain⟨q,hq,rfl⟩:=List.mem_map.1 hp;exact hq) eO (fun k hk x hx=>by
      obtain⟨q,hq,rfl⟩:=List.mem_map.1 (fB k hk);exact r'.lt (Nat.lt_of_lt_of_le hx (nu hq x))) (fun k hk j hj hne x=>Nat.le_trans (tw (fB k hk) (fB j hj) (Ne.symm hne) x) (r.b.sum x)) (fun k hk b hb=>by
      obtain⟨q,hq,rfl⟩:=List.mem_map.1 (fB k (eO k hk));exact Iu (r.b.ah _ _ hq) hb) (fun c a w hq=>hq) (fun az a' w' hK hr=>by
      obtain⟨ρ',r2⟩:=hr;exact hQ _ _ _ hK ⟨H,ρ',r2.b,r2.e,r2.d,r2.n,by rw[bT];(intro p hp; cases hp),r2.hm⟩) _ h r' (fun _ _ _ _ _=>rfl)
   rw[Pr,bq] at main;exact wp_region_held (Gi hT) main
 unfold Dq at h
 split at h
 · rename_i nw ws _;cases nw with
   | true=>exact key true _ _ (fun k hk=>hk) (fun k hk=>tM (xr hk)) h
   | false=>exact key true _ _ (fun k hk=>hk) (fun k hk=>tM hk) h
 · split at h
   · exact key true _ _ (fun k hk=>tM (xr hk)) (fun k hk=>hk) h
   · exact key false _ [] (fun k hk=>hk) (fun k hk=>by cases hk) h
end
end Go.Proofs.YtpklefhdkkegiaaGreat

