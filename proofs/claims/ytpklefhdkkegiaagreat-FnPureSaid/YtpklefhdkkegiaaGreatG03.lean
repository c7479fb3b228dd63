/- Parts of a proof. No conditions. -/

import Derived.Test.YtpklefhdkkegiaaGreatG02
import Derived.Laws.BytesArg
import Derived.OrdersHeld
set_option linter.unusedSimpArgs false
set_option linter.unusedVariables false
namespace Go.Proofs.YtpklefhdkkegiaaGreat
open Go
def SS.mG (σ:SS) (ks:List Nat) (k:Nat) (B:ak):SS:={σ with af:=cU (eK σ.af ks) k B}
def qR (tab :aX) (o:Oper) (σ:SS) (K:SS→Prop):Prop:=
 match o.op,o.dst with
 | .buildSlice T n parts,some d=>
   match cz tab T,aL σ.af (8*d) with
   | some (.sl E _ _),none=>
     match uj σ.af E (parts.toList.map fun p=>σ.ev p.2) with
     | some (xs,ks)=>if wJ 0 parts.toList=true∧parts.toList.length=n∧n*E.sz≤16777216∧dL ks=true then K ((σ.mG ks (8*d) (.own E xs false)).put (some d) (.c (.own (8*d)))) else False
     | none=>False
   | _,_=>False
 | .call c, some d=>
   match c.callee,c.args.toList,c.argTypes.toList with
   | .builtin .len,_,_=>pb tab o σ K
   | .builtin .append,[x,y],[T,T2]=>
     match cz tab T,aL σ.af (8*d) with
     | some (.sl E _ bytes),none=>
       match nN σ.af E (σ.ev x),wF tab T2 σ.af E (σ.ev y) with
       | some (xs,k1),some (ys,k2)=>
         if dL (k1++k2)=true∧0<bytes then
          Ob (fun _=>((xs ()).length+(ys ()).length)*bytes≤140737488355328) fun _=>K ((σ.mG (k1++k2) (8*d) (.own E (fun _=>xs ()++ys ()) false)).put (some d) (.c (.own (8*d))))
         else False
       | _,_=>False
     | _,_=>False
   | _,_,_=>False
 | .makeSlice T l c,some d=>
   match cz tab T,aL σ.af (8*d),σ.ev l,σ.ev c with
   | some (.sl E _ bytes),none, .c (.lf (.int _ i)), .c (.lf (.int _ j))=>
     if 0<bytes then
       Ob (fun _=>0≤i ()∧i ()≤j ()∧j ()*(bytes:Int)≤140737488355328) fun _=>K ((σ.mG [] (8*d) (.own E (fun _=>List.replicate (i ()).toNat E.j_) false)).put (some d) (.c (.own (8*d))))
     else False
   | _,_,_,_=>False
 | .slice T x lo hi none,some d=>
   match cz tab T,aL σ.af (8*d),σ.ev x with
   | some (.sl E _ _),none, .c (.own k)=>
     match nN σ.af E (.c (.own k)) with
     | some (xs,ks)=>
       match nG (lo.map σ.ev) fun _=>0,nG (hi.map σ.ev) fun _=>((xs ()).length:Int) with
       | some l,some h=>Ob (fun _=>0≤l ()∧l ()≤h ()∧h ()≤(xs ()).length) fun _=>
          K ((σ.mG ks (8*d) (.own E (fun _=>((xs ()).take (h ()).toNat).drop (l ()).toNat) false)).put (some d) (.c (.own (8*d))))
       | _,_=>False
     | none=>False
   | _,_,_=>False
 | .convert S D x,some d=>
   match cz tab S,cz tab D,σ.ev x with
   | some (.sl .byte e _),some .ss, .c (.own k)=>
     match aL σ.af k,cz tab e with
     | some (.own E xs _),some (.it .u8)=>(match nM .byte E xs with | some ys=>K (σ.put (some d) (.c (.lf (.str ys)))) | none=>False)
     | _,_=>False
   | _,_,_=>False
 | .store T p v,none=>
   match σ.ev p with
   | .c (.en k E i off)=>zF tab σ K T k E i off (σ.ev v)
   | _=>pb tab o σ K
 | .load T x,some d=>
   match σ.ev x with
   | .c (.en k E i off)=>if t_ tab T=true then zE tab σ K T d k E i off else False
   | _=>False
 | _,_=>pb tab o σ K
def DU:V→Bool
 | .c (.pre _ _)=>true
 | _=>false
def um (o:Oper) (σ:SS):Bool:=
 match o.op with
 | .makeSlice _ _ (.const (.int _ n))=>n == 20 || n == 60
 | .call c=>(match c.callee,c.args.toList with
   | .builtin .append,[x,_]=>DU (σ.ev x)
   | _,_=>false)
 | .slice _ x _ _ _=>DU (σ.ev x)
 | _=>false
def zJ (tab : aX) (o:Oper) (σ:SS) (K:SS→Prop):Prop:=
 match o.op,o.dst with
 | .makeSlice T l c,some d=>
   match cz tab T,aL σ.af (8*d),σ.ev l,σ.ev c with
   | some (.sl E _ bytes),none, .c (.lf (.int _ i)), .c (.lf (.int _ j))=>
     if 0<bytes then
       Ob (fun _=>i ()=0∧0<j ()∧j ()*(bytes:Int)≤140737488355328) fun _=>K ((σ.mG [] (8*d) (.own E (fun _=>List.replicate (j ()).toNat E.j_) false)).put (some d) (.c (.pre (8*d) fun _=>0)))
     else False
   | _,_,_,_=>False
 | .call c, some d=>
   match c.callee,c.args.toList,c.argTypes.toList with
   | .builtin .append,[x,y],[T,T2]=>
     match cz tab T,σ.ev x with
     | some (.sl E _ _), .c (.pre k n)=>
       match aL σ.af k,wF tab T2 σ.af E (σ.ev y) with
       | some (.own E' lS false),some (ys,[])=>
         match nM E E' lS with
         | some xs=>if jB E=true then
            Ob (fun _=>n ()+(ys ()).length≤(xs ()).length) fun _=>K ((σ.set k (.own E (fun _=>(xs ()).take (n ())++(ys ()++(xs ()).drop (n ()+(ys ()).length))) false)).put (some d) (.c (.pre k fun _=>n ()+(ys ()).length)))
           else False
         | none=>False
       | _,_=>False
     | _,_=>False
   | _,_,_=>False
 | .slice T x none (some hi) none,some d=>
   match cz tab T,σ.ev x,σ.ev hi with
   | some (.sl _ _ _), .c (.pre k _), .c (.lf (.int _ h))=>
     match aL σ.af k with
     | some (.own E xs _)=>Ob (fun _=>h ()=((xs ()).length:Int)) fun _=>K (σ.put (some d) (.c (.own k)))
     | _=>False
   | _,_,_=>False
 | _,_=>False
def sa (tab:aX) (o:Oper) (σ:SS) (K:SS→Prop):Prop:=
 match um o σ with
 | true=>zJ tab o σ K
 | false=>qR tab o σ K
section
variable {P : Program} {tab : aX} (hT : eC P tab = true) {Γ : Ctx} {H : Hp} {ρ : aF} {σ : SS} {a : Act} {w : World} (r : aG Γ H ρ σ a w)
include hT r
omit hT in
theorem sb {ks:List Nat} (hn:dL ks=true) (hu:fm σ.af ks=true) {d:Nat} (hk:aL σ.af (8*d)=none) {E:an} {xs:Unit→List E.α} {v:Value} {p:Nat→Nat} {w':World}
  (hh:∀x,x<w.heap.size→bI ρ ks x=0→w'.heap[x]? = w.heap[x]?) (aY:Ext w w') (cn:bc w'.heap (.list E xs) v p)
  (hp:∀x,x<w.heap.size→p x≤bI ρ ks x) (dn:∀x,w.heap.size≤x→p x≤1) :
  ∃ ρ,aG Γ H ρ ((σ.mG ks (8*d) (.own E xs false)).put (some d) (.c (.own (8*d)))) (a.put (some d) v) w':=by
 obtain⟨ρ',r1,h1,_⟩:=r.mG hn hu hk (p:=(v,p)) hh aY cn cn.one hp dn;exact⟨ρ',aG.put r1 (v:= .c (.own (8*d))) ⟨fb.2 (.inl rfl),h1.symm⟩ (some d)⟩
omit hT in
theorem uo {E:an} {v:V} {xs:Unit→List E.α} {ks:List Nat} {u:Value} (h:nN σ.af E v=some (xs,ks)) (hv:RV H ρ (av σ.af) v u) :
   fm σ.af ks=true∧bc w.heap (.list E xs) u (bI ρ ks):=by
 unfold nN at h
 split at h
 · cases h;simp only[RV,RC] at hv;subst hv;exact⟨rfl,bc.nil rfl⟩
 · rename_i k
   split at h
   · rename_i E' lS hg
     split at h
     · rename_i ys hc;cases h;obtain⟨_,rfl⟩:=hv;have:=oT r hg;rw[qO hc] at this;refine⟨by simp[fm,hg], ?_⟩;have e:bI ρ [k]=(ρ k).2:=by funext x; simp[bI]
       rw[e]; exact this
     · cases h
   · cases h
 · cases h
omit hT r in
theorem zK {E:an} {xs:Unit→List E.α} {u:Value} {p:Nat→Nat} (ho:bc w.heap (.list E xs) u p):∃news S,hZ w E (xs ()) u news S∧∀x,bQ (xs ()).length E.sz S x≤p x:=by
 rcases ho.dU with⟨rfl,h0,rfl⟩ | ⟨b,off,c,vs,e,fz,S,rfl,rfl,hb,hf,hl,hm,dm,hs⟩
 · rw[h0]; exact⟨[],_,hZ.nil none 0,fun x=>by simp[bQ,bM]⟩
 · obtain⟨news,hN⟩:=hZ.of (c:=c) hb (by have:=Nat.mul_le_mul_right E.sz hl; omega) hs;exact⟨news,S,hN,fun x=>by simp only[bB,bQ]; exact Nat.le_add_left _ _⟩
omit hT in
theorem Kl {E:an} {v:V} {xs:Unit→List E.α} {ks:List Nat} {u:Value} (h:zl σ.af E v=some (xs,ks)) (hv:RV H ρ (av σ.af) v u) :
   fm σ.af ks=true∧∃news S,hZ w E (xs ()) u news S∧∀x,bQ (xs ()).length E.sz S x≤bI ρ ks x:=by
 unfold zl at h
 split at h
 · rename_i E' t
   split at h
   · rename_i hf
     split at h
     · rename_i ys hc;cases h;have hr:RL H (.list E' t) u:=hv;rw[qO hc] at hr;refine⟨rfl, ?_⟩;rcases hr.dU (h:=w.heap) r.b.hh hf with⟨a,c,rfl,h0⟩ | ⟨b,off,c,vs,e,fz,rfl,hb,ho,hm,hs⟩
       · rw[h0]; exact⟨[],_,hZ.nil a c,fun x=>by simp[bQ,bM]⟩
       · obtain⟨news,hN⟩:=hZ.of (c:=c) hb ho hs;refine⟨news,_,hN,fun x=> ?_⟩;have:bQ (xs ()).length E.sz (fun _ _ _=>0) x=0:=gC fun i _=>gC fun j _=>rfl;omega
     · cases h
   · cases h
 · rename_i k
   split at h
   · rename_i hf
     split at h
     · rename_i E' lS l hg
       split at h
       · rename_i ys hc;cases h;obtain⟨_,rfl⟩:=hv;have ho:=oT r hg;rw[qO hc] at ho;obtain⟨news,S,hN,_⟩:=zK ho;refine⟨rfl,news,fun _ _ _=>0,⟨hN.len,hN.one,hN.dU.flat hf,hN.val⟩,fun x=> ?_⟩;have:bQ (xs ()).length E.sz (fun _ _ _=>0) x=0:=gC fun i _=>gC fun j _=>rfl;omega
       · cases h
     · cases h
   · obtain⟨h1,h2⟩:=uo r h hv;exact⟨h1,zK h2⟩
 · obtain⟨h1,h2⟩:=uo r h hv;exact⟨h1,zK h2⟩
omit r in
theorem iy {T:TypeId} {E:an} {elem bytes:Nat} (h:cz tab T=some (.sl E elem bytes)) :
  P.underlying T=some (.slice elem)∧∃i z,P.info? elem=some i∧i.size=E.sz∧i.bytes=bytes∧i.zero=some z∧Z.ga (mr E) z.cells.toList=true∧z.cells.size=E.sz:=by
 obtain⟨h1,i,z,h2,h3,h4,h5,h6⟩:=lH (ck hT h);refine⟨h1,i,z,h2,h3,h4,h5,h6, ?_⟩;have:=Z.wK h6;rw[Dz] at this;simpa using this
theorem zL {T:TypeId} {E:an} {v:V} {xs:Unit→List E.α} {ks:List Nat} {u:Value} (h:wF tab T σ.af E v=some (xs,ks)) (hv:RV H ρ (av σ.af) v u) :
   fm σ.af ks=true∧∃news S,rX P w E (xs ()) T u news S∧∀x,bQ (xs ()).length E.sz S x≤bI ρ ks x:=by
 unfold wF at h
 split at h
 · rename_i aU;obtain⟨hU,_⟩:=iy hT aU;obtain⟨h1,news,S,h2,h3⟩:=Kl r h hv;exact⟨h1,news,S,h2.wH hU,h3⟩
 · rename_i aU;have hU:=(lI (ck hT aU)).1
   split at h
   · rename_i t;cases h;have hr:RL H (.str t) u:=hv;obtain⟨rfl,_⟩:=RL.kd hr;refine⟨rfl,_,_,rX.str hU _,fun x=> ?_⟩;have:bQ (t ()).length (an.byte).sz (fun _ _ _=>0) x=0:=gC fun i _=>gC fun j _=>rfl;rw[this]; exact Nat.zero_le _
   · cases h
 · cases h
theorem Km {o : Oper} {K:SS→Prop} {Q:Exit→Act→World→Prop} (hw:eQ tab o=true→Γ.hd = []) (h:qR tab o σ K) :
   o.wp P a w (fun a' w'=>∃aw,K aw∧mB Γ H (eQ tab o) w aw a' w') Q:=by
 have ev:=iu r.e;unfold qR at h
 split at h
 · -- a literal
   rename_i T n parts d aQ hd
   split at h
   · rename_i E elem bytes aU hg
     split at h
     · rename_i xs ks hm
       split at h
       · rename_i hc;obtain⟨gE,jy,qN,wS⟩:=hc;obtain⟨hU,i,z,hi,aY,fF,hz,lL,nP⟩:=iy hT aU
         obtain⟨g1,g2,g3,g4,S,g5,g6⟩:=Dx r hm (us:=parts.toList.map fun p=>a.eval p.2) (by simp) fun j v u hj cF=>by
           rw[List.getElem?_map,Option.map_eq_some_iff] at hj cF;obtain⟨p,h1,rfl⟩:=hj;obtain⟨p',h2,rfl⟩:=cF;rw[h1] at h2;cases h2;exact ev _
         have hlen:(parts.toList.map fun p=>a.eval p.2).length=n:=by simpa using jy
         generalize mK:(parts.toList.map fun p=>a.eval p.2)=us at g1 g2 g3 g5 g6 hlen;generalize eJ:(us.flatMap fun u=>u.cells.toList)=cl at g3 g5
         have b_:(Instr.buildSlice T n (parts.map fun p=>(p.1,a.eval p.2))).run P w = .ok (.slice (some ⟨w.heap.size,0,none⟩) n n) (w.alloc (.cells cl.toArray elem)):=by
           have nE:(parts.map fun p=>(p.1,a.eval p.2)).toList=(us.zipIdx 0).map fun x=>(x.2,x.1):=by
             rw[Array.toList_map,Dw (f:=a.eval) gE,mK]
           rcases Nat.eq_zero_or_pos n with h0 | h0
           · subst h0;have:us = []:=List.length_eq_zero_iff.1 hlen;subst this;simp only[List.flatMap_nil] at eJ;subst eJ;have Kn:parts = #[]:=Array.toList_inj.1 (List.length_eq_zero_iff.1 jy);subst Kn;simp[Instr.buildSlice,run_underlying hU,sizeOf,typeInfo,hi,Instr.fill,newRow];have Ko:Array.map (fun _:Nat=>(default:Value)) (Array.range 0) = #[]:=by simp[Array.range]
             rw[Ko]
           · refine run_buildSlice w T elem n _ _ i z hU hi hz (by rw[aY]; omega) (by rw[aY]; have:=Nat.mul_pos h0 (tA E); omega) ?_;rw[nE,aY,←eJ];refine Great.fill_whole (tA E) us _ g2 ?_;simp[hlen]
         refine hY (v:= .slice (some ⟨w.heap.size,0,none⟩) n n) (w':=w.alloc (.cells cl.toArray elem)) ?_ ⟨_,h, ?_,fun _=>fO.alloc w _⟩
         · simp only[execOp,aQ,Sem.run_bind,b_,Result.andThen_ok]; rfl
         · rw [hd]
           have cn:=(bj.mono (h':=(w.alloc (.cells cl.toArray elem)).heap) (g5.cells (ds:=fun q=>cl.toArray.getD (0+q) Go.undef) fun q hq=>by
               rw[Nat.zero_add,Array.getD_eq_getD_getElem?,List.getElem?_toArray,List.getD_eq_getElem?_getD]) fun x hx=>by
               rw[g1,g6] at hx;have:=kL (ρ:=ρ) ks wS (fun k hk=>by obtain⟨E,xs,hg⟩:=mF g4 k hk; exact eH hg) x;exact alloc_old w _ x (r.lt (by omega))).own (b:=w.heap.size) (c:=n) (fz:=(0,0)) (qH w _) (kK _) (by omega) (by unfold cm; have:=Nat.le_mul_of_pos_right n (tA E); omega)
               (by rw[Nat.zero_add,List.size_toArray,g3,hlen]; exact Nat.le_refl _)
           rw[g1,hlen] at cn;refine sb r wS g4 hg (fun x hx _=>alloc_old w _ x hx) (oV w _ _) cn (fun x hx=> ?_) fun x hx=> ?_
           · simp only[bB];rw[if_neg (Nat.ne_of_lt hx)];have:=g6 x;rw[hlen] at this;simp only[bQ] at this;omega
           · have h1:=g6 x;have h2:=kL (ρ:=ρ) ks wS (fun k hk=>by obtain⟨E,xs,hg⟩:=mF g4 k hk; exact eH hg) x;have h3:=(r.rO hx).2;rw[hlen] at h1;simp only[bQ] at h1;simp only[bB]
             split <;> omega
       · cases h
     · cases h
   · cases h
 · -- append
   rename_i c d aQ hd
   split at h
   · exact zh hT r h
   · rename_i x y T T2 dA du uq
     split at h
     · rename_i E elem bytes aU hg
       split at h
       · rename_i xs k1 ys k2 hx hy
         split at h
         · rename_i hc;obtain⟨gE,jy⟩:=hc;obtain⟨nY,hk⟩:=h;obtain⟨hU,i,z,hi,aY,fF,hz,lL,nP⟩:=iy hT aU;obtain⟨u1,ox⟩:=uo r hx (ev x);obtain⟨u2,news,S2,hN,zM⟩:=zL hT r hy (ev y);have kQ:∀k∈k1++k2,av σ.af k:=fun k hk=>by obtain⟨E,xs,hg⟩:=mF (qQ u1 u2) k hk; exact eH hg
           have hle:∀x,bI ρ k1 x+bI ρ k2 x≤aP ρ σ.af x:=fun x=>by rw[←nU]; exact kL (ρ:=ρ) _ gE kQ x
           obtain⟨v,p,w',r1,r2,r3,r4,r5,r6⟩:=uf (P:=P) (T:=T) (T2:=T2) (ty:=o.type) (E:=E) (xs:=xs ()) (ys:=ys ()) ox hN zM (fun x=>Nat.le_trans (hle x) (r.b.sum x)) (fun x hx=>r.lt (Nat.lt_of_lt_of_le hx (hle x)))
             hU hi hz aY nP (by omega) (by rw[fF]; exact nY)
           refine hY (v:=v) (w':=w') ?_ ⟨_,hk, ?_,fun hw=>by simp[eQ,aQ,dA] at hw⟩
           · have e1:c.args = #[x,y]:=by rw[←Array.toArray_toList (xs:=c.args),du]
             have e2:c.argTypes = #[T,T2]:=by rw[←Array.toArray_toList (xs:=c.argTypes),uq]
             obtain⟨callee,args,argTypes⟩:=c;simp only at dA e1 e2;subst dA e1 e2;simp[execOp,aQ,resolve,invoke,builtin,r1,Result.andThen]
           · rw[hd];refine sb r gE (qQ u1 u2) hg (fun x hx h0=> ?_) r3 r2 (fun x hx=> ?_) r6
             · rw[nU] at h0;exact r4 x hx (by omega)
             · rw[nU]; exact r5 x hx
         · cases h
       · cases h
     · cases h
   · cases h
 · -- make
   rename_i T l c d aQ hd
   split at h
   · rename_i E elem bytes kl i kc j aU hg hl kN
     split at h
     · rename_i hb;obtain⟨⟨o1,o2,o3⟩,hk⟩:=h;obtain⟨hU,ii,z,hi,aY,fF,hz,lL,nP⟩:=iy hT aU;have el:=ev l;have ec:=ev c;rw[hl] at el;rw[kN] at ec;obtain⟨el,_⟩:=RL.of_int el;obtain⟨ec,_⟩:=RL.of_int ec
       have Kp:j ()≤140737488355328:=by
         have:j ()*1≤j ()*(bytes:Int):=Int.mul_le_mul_of_nonneg_left (by omega) (by omega);omega
       have b_:=run_make (P:=P) w T elem ii z hU hi hz kl kc (i ()) (j ()) o1 o2 (by rw[fF,Int.mul_comm]; omega) (by omega);refine hY (v:=_) (w':=_) (by simp only[execOp,aQ,el,ec,Sem.run_bind,b_,Result.andThen_ok]; rfl) ⟨_,hk, ?_,fun _=>fO.alloc w _⟩;rw[hd];have hlen:(List.replicate (i ()).toNat E.j_).length=(i ()).toNat:=by simp
       have bZ:bj (w.alloc (.cells (madeCells z.cells ((j ()).toNat*ii.size)) elem)).heap E (List.replicate (i ()).toNat E.j_) (fun q=>(madeCells z.cells ((j ()).toNat*ii.size)).getD (0+q) Go.undef) fun _ _ _=>0:=by
         rw[aY];intro q x hx jj ll hj;refine DA lL (j ()).toNat q x ?_ jj ll hj;have:=bD hx;rw[hlen] at this;rw[List.getElem?_replicate,if_pos this] at hx;rw[List.getElem?_replicate,if_pos (by omega)];exact hx
       have cn:=bZ.own (b:=w.heap.size) (c:=(j ()).toNat) (fz:=(0,0)) (qH w _) (kK _) (by rw[hlen]; omega) (by rw[hlen]; unfold cm; omega) (by rw[size_madeCells,aY]; omega);rw[hlen] at cn
       have po:∀x,bB w.heap.size (i ()).toNat E.sz (fun _ _ _=>0) x=if x=w.heap.size then 1 else 0:=fun x=>by
         simp only[bB];rw[gC fun i _=>gC fun j _=>rfl];rfl
       refine sb r (ks:=[]) rfl rfl hg (fun x hx _=>alloc_old w _ x hx) (oV w _ _) cn (fun x hx=> ?_) fun x hx=> ?_
       · rw[po,if_neg (Nat.ne_of_lt hx)]; exact Nat.zero_le _
       · rw[po]; split <;> omega
     · cases h
   · cases h
 · -- a part of a list
   rename_i T x lo hi d aQ hd
   split at h
   · rename_i E elem bytes k aU hg nL
     split at h
     · rename_i xs ks hm
       split at h
       · rename_i l hh hl mz;obtain⟨⟨o1,o2,o3⟩,hk⟩:=h;obtain⟨hU,ii,z,dF,aY,_⟩:=iy hT aU;have ur:=ev x;rw[nL] at ur;obtain⟨hu,ho⟩:=uo r hm ur
         have gR:ks = [k]:=by
           simp only[nN] at hm
           split at hm
           · split at hm
             · cases hm; rfl
             · cases hm
           · cases hm
         subst gR;obtain⟨L,hL⟩:=Int.eq_ofNat_of_zero_le o1;obtain⟨U,lM⟩:=Int.eq_ofNat_of_zero_le (show 0≤hh () by omega)
         have e1:(lo.map a.eval=none∧L=0)∨∃k,lo.map a.eval=some (.int k (L:Int)):=by
           rcases rM hl ev with⟨h1,h2⟩ | ⟨k,h1⟩
           · refine .inl ⟨h1, ?_⟩; rw[h2] at hL; simp at hL; omega
           · exact .inr ⟨k,by rw[h1,hL]⟩
         have e2:(hi.map a.eval=none∧U=(xs ()).length)∨∃k,hi.map a.eval=some (.int k (U:Int)):=by
           rcases rM mz ev with⟨h1,h2⟩ | ⟨k,h1⟩
           · refine .inl ⟨h1, ?_⟩; rw[h2] at lM; simp at lM; omega
           · exact .inr ⟨k,by rw[h1,lM]⟩
         have yV:L≤U:=by omega
         have Jp:U≤(xs ()).length:=by omega
         have eL:(l ()).toNat=L:=by omega
         have eU:(hh ()).toNat=U:=by omega
         have hlen:(((xs ()).take U).drop L).length=U - L:=by simp; omega
         have b_:∀(bb:Option Addr) (cc:Nat),(xs ()).length≤cc→a.eval x = .slice bb (xs ()).length cc→(execOp a.eval o).run P w =
             .ok (.value (.slice (if cc=L then bb else bb.map (·.add (L*E.sz))) (U - L) (cc - L))) w:=fun bb cc wv hv=>by
           simp only[execOp,aQ,Option.map_none,hv,Instr.sliceAt,Sem.run_bind,gD w hU,Result.andThen_ok,Instr.slice];rw[wu true w e1 e2 yV (by omega)];simp only[Result.andThen_ok,kb w dF,aY,Sem.run_pure]
         rcases ho.dU with⟨hv,h0,hp⟩ | ⟨b,off,c,vs,e,fz,S,hv,hp,hb,hf,DV,rN,dm,hs⟩
         · have Kq:(xs ()).length=0:=by rw[h0]; rfl
           refine hY (b_ none 0 (by omega) (by rw[hv,Kq])) ⟨_,hk, ?_,fun _=>fO.refl w⟩;rw[hd];have:(if 0=L then none else Option.map (fun x:Addr=>x.add (L*E.sz)) none)=none:=by split <;> rfl
           rw[this,show U - L=0 by omega,Nat.zero_sub];exact sb r rfl hu hg (fun _ _ _=>rfl) (Ext.refl _) (bc.nil (by rw[eL,eU,h0]; simp)) (fun _ _=>Nat.zero_le _) fun _ _=>Nat.zero_le _
         · refine hY (b_ _ c DV hv) ⟨_,hk, ?_,fun _=>fO.refl w⟩;rw[hd]
           have fQ:∀x,bQ (U - L) E.sz (fun i=>S (L+i)) x≤bQ (xs ()).length E.sz S x:=fun x=>by
             have h1:bQ (xs ()).length E.sz S x=bQ L E.sz S x+bQ ((xs ()).length - L) E.sz (fun i=>S (L+i)) x:=by
               have:(xs ()).length=L+((xs ()).length - L):=by omega
               rw[this];unfold bQ;rw[ub];simp
             have h2:bQ ((xs ()).length - L) E.sz (fun i=>S (L+i)) x=bQ (U - L) E.sz (fun i=>S (L+i)) x+bQ ((xs ()).length - U) E.sz (fun i=>S (L+(U - L+i))) x:=by
               have:(xs ()).length - L=(U - L)+((xs ()).length - U):=by omega
               rw[this];unfold bQ;rw[ub]
             omega
           have bZ:∀o',o'=off+L*E.sz→bj w.heap E (((xs ()).take (hh ()).toNat).drop (l ()).toNat) (fun q=>vs.getD (o'+q) Go.undef) fun i=>S (L+i):=by
             intro o' zN i y hy j l' hj;subst zN;rw[eL,eU,List.getElem?_drop,List.getElem?_take] at hy
             split at hy
             · have:=hs (L+i) y hy j l' hj;simp only[Nat.add_mul] at this;simp only;rw[show off+L*E.sz+(i*E.sz+j)=off+(L*E.sz+i*E.sz+j) by omega];exact this
             · cases hy
           have wv:L*E.sz≤c*E.sz:=Nat.mul_le_mul_right _ (by omega)
           have fin:∀(o':Nat) (p':Nat→Nat),bc w.heap (.list E fun _=>((xs ()).take (hh ()).toNat).drop (l ()).toNat) (.slice (some ⟨b,o',none⟩) (U - L) (c - L)) p'→(∀x,p' x≤bB b (xs ()).length E.sz S x)→
               ∃ ρ,aG Γ H ρ ((σ.mG [k] (8*d) (.own E (fun _=>((xs ()).take (hh ()).toNat).drop (l ()).toNat) false)).put (some d) (.c (.own (8*d)))) (a.put (some d) (.slice (some ⟨b,o',none⟩) (U - L) (c - L))) w:=fun o' p' h1 h2=>by
             have hq:∀x,p' x≤bI ρ [k] x:=fun x=>by rw[hp]; exact h2 x
             refine sb r rfl hu hg (fun _ _ _=>rfl) (Ext.refl _) h1 (fun x _=>hq x) fun x _=> ?_;have h3:=kL (ρ:=ρ) [k] rfl (fun k' bw=>by obtain⟨E,xs,hg⟩:=mF hu k' bw; exact eH hg) x;have h4:=r.b.sum x;have h5:=hq x;omega
           have po:∀x,bB b (U - L) E.sz (fun i=>S (L+i)) x≤bB b (xs ()).length E.sz S x:=fun x=>by
             have:=fQ x;simp only[bQ] at this;simp only[bB]; omega
           by_cases eJ:c=L
           · rw [if_pos eJ];have yJ:((xs ()).take (hh ()).toNat).drop (l ()).toNat = []:=List.length_eq_zero_iff.1 (by rw[eL,eU,hlen]; omega);have wx:U - L=0:=by omega
             refine fin off (bB b 0 E.sz fun i=>S (L+i)) ?_ fun x=> ?_
             · have h7:=bj.own (h:=w.heap) (E:=E) (xs:=[]) (S:=fun i=>S (L+i)) (b:=b) (off:=off) (c:=c - L) (vs:=vs) (e:=e) (fz:=fz) bj.nil hb hf (by simp) (by simp) (by
                have:(c - L)*E.sz≤c*E.sz:=Nat.mul_le_mul_right _ (Nat.sub_le _ _);omega)
               rw[wx,yJ];exact h7
             · have:=po x;rw[wx] at this;exact this
           · rw [if_neg eJ];simp only[Option.map_some,dS];refine fin (off+L*E.sz) (bB b (U - L) E.sz fun i=>S (L+i)) ?_ po
             have h7:=(bZ _ rfl).own (b:=b) (c:=c - L) (e:=e) (fz:=fz) hb hf (by rw[eL,eU,hlen]; omega) (by rw[eL,eU,hlen]; omega) (by
               have:L*E.sz+(c - L)*E.sz=c*E.sz:=by rw[←Nat.add_mul]; congr 1; omega
               omega)
             rw[eL,eU,hlen] at h7;rw[eL,eU];exact h7
       · cases h
     · cases h
   · cases h
 · -- bytes to a string
   rename_i S D x d aQ hd
   split at h
   · rename_i e bytes k aU hD nL
     split at h
     · rename_i E xs oM hg Kr
       split at h
       · rename_i ys hc;obtain⟨hU,_⟩:=iy hT aU;have DW:=(nB (ck hT Kr)).1;have DX:=(lI (ck hT hD)).1;have ur:=ev x;rw[nL] at ur;obtain⟨_,jg⟩:=ur;have ho:=oT r hg;rw[qO hc] at ho
         have b_ :(convert S D (a.eval x)).run P w = .ok (.string ⟨(ys ()).toArray⟩) w∧(ys ()).length≤cm:=by
           rw[jg];rcases ho.dU with⟨hv,h0,hp⟩ | ⟨b,off,c,vs,e',fz,SS,hv,hp,hb,hf,DV,rN,dm,hs⟩
           · rw[hv,h0];exact⟨run_convert_bytes_nil w S e hU DW 0 0 D DX,by simp⟩
           · rw [hv]
             have:=run_convert_bytes_arg w S e hU DW b off (ys ()).length c ((ys ()).map fun y=>(y.toNat:Int)) (by simp) (fun i hi=>by
               have h1:=hs i _ (List.getElem?_eq_getElem hi) 0 _ rfl;simp only[an.sz,Nat.mul_one,Nat.add_zero] at h1;have h2:(⟨b,off+i,none⟩:Addr)=⟨b,off+i,none⟩:=rfl;rw[cell_of hb (getD_some (show off+i<vs.size by simp only[an.sz,Nat.mul_one] at dm; omega))];generalize vs.getD (off+i) Go.undef=u,SS i 0=T at h1;cases h1 with
               | int hr=>simp[List.getD_eq_getElem?_getD,hi]) D DX
             rw[this];refine⟨?_,rN⟩
             congr 2
             unfold strOfNums;rw[List.map_map];refine congrArg (fun l:List UInt8=>(⟨l.toArray⟩:ByteArray)) ?_;refine Eq.trans (List.map_congr_left fun y _=> ?_) (List.map_id _);simp
         refine hY (v:= .string ⟨(ys ()).toArray⟩) (w':=w) (by simp only[execOp,aQ,Sem.run_bind,b_.1,Result.andThen_ok]; rfl) ⟨_,h,⟨ρ, ?_⟩,fun _=>fO.refl w⟩;rw[hd];exact aG.put r (v:= .c (.lf (.str ys))) (RL.str b_.2) (some d)
       · cases h
     · cases h
   · cases h
 · -- an element is stored
   rename_i T p v aQ hd
   split at h
   · rename_i k E i off hp;have ep:=ev p;rw[hp] at ep;obtain⟨aw,w',ρ',h1,h2,_,h3⟩:=DT hT r (fun p hp=>by rw[hw (by simp[eQ,aQ])] at hp; cases hp) h ep (ev v);refine ua (w':=w') ?_ hd ⟨_,h1,⟨ρ',h2⟩,fun hw=>by simp[eQ,aQ] at hw⟩;simp only[execOp,aQ,Sem.run_bind,h3,Result.andThen_ok];rfl
   · exact zh hT r h
 · -- an element is loaded
   rename_i T x d aQ hd
   split at h
   · rename_i k E i off hp
     split at h
     · rename_i Ks;have ep:=ev x;rw[hp] at ep;obtain⟨aw,y,ρ',h1,h2,h3⟩:=Kf hT r (hw (by simp[eQ,aQ,Ks])) h ep;refine hY (v:=y) (w':=w) ?_ ⟨_,h1,⟨ρ',by rw[hd]; exact h2⟩,fun _=>fO.refl w⟩;simp only[execOp,aQ,Sem.run_bind,h3,Result.andThen_ok];rfl
     · cases h
   · cases h
 · exact zh hT r h
omit hT r in
theorem Kt {bs:List (Nat × ak)} {E:an} {v:V} {xs:Unit→List E.α} {ks:List Nat} (h:nN bs E v=some (xs,ks)):ks = []∨∃k,v = .c (.own k)∧ks = [k]:=by
 unfold nN at h
 split at h
 · cases h; exact .inl rfl
 · split at h
   · split at h
     · cases h; exact .inr ⟨_,rfl,rfl⟩
     · cases h
   · cases h
 · cases h
omit hT r in
theorem bc.Ku {h:Array Obj} {l:Lf} {v:Value} {S:Nat→Nat} (ho:bc h l v S) (hs:l.sc=true):S=fun _=>0:=by
 cases ho <;> first | rfl | cases hs
omit hT r in
theorem Kv {h:Array Obj} {E:an} (hf:jB E=true) {xs:List E.α} {cs:Nat→Value} {S:Nat→Nat→Nat→Nat} {b:Nat} (hs:bj h E xs cs S):bB b xs.length E.sz S=bB b xs.length E.sz fun _ _ _=>0:=by
 funext x
 simp only[bB]
 congr 1
 rw[gC fun i hi=>gC fun j hj=> ?_,gC fun i _=>gC fun j _=>rfl];obtain⟨y,hy⟩:∃y,xs[i]? = some y:=⟨_,List.getElem?_eq_getElem hi⟩;obtain⟨l,hl⟩:∃l,(bH E fun _=>y)[j]? = some l:=⟨(bH E fun _=>y)[j]'(by rw[gm]; exact hj),List.getElem?_eq_getElem _⟩;exact congrFun ((hs i y hy j l hl).Ku (nO hf hl)) x
theorem Kw {o : Oper} {K:SS→Prop} {Q:Exit→Act→World→Prop} (h:zJ tab o σ K) :
   o.wp P a w (fun a' w'=>∃aw,K aw∧mB Γ H (eQ tab o) w aw a' w') Q:=by
 have ev:=iu r.e;unfold zJ at h
 split at h
 · -- make
   rename_i T l c d aQ hd
   split at h
   · rename_i E elem bytes kl i kc j aU hg hl kN
     split at h
     · rename_i hb;obtain⟨⟨o1,o2,o3⟩,hk⟩:=h;obtain⟨hU,ii,z,hi,aY,fF,hz,lL,nP⟩:=iy hT aU;have el:=ev l;have ec:=ev c;rw[hl] at el;rw[kN] at ec;obtain⟨el,_⟩:=RL.of_int el;obtain⟨ec,_⟩:=RL.of_int ec
       have Kp:j ()≤140737488355328:=by
         have:j ()*1≤j ()*(bytes:Int):=Int.mul_le_mul_of_nonneg_left (by omega) (by omega);omega
       have b_:=run_make (P:=P) w T elem ii z hU hi hz kl kc (i ()) (j ()) (by omega) (by omega) (by rw[fF,Int.mul_comm]; omega) (by omega);refine hY (v:=_) (w':=_) (by simp only[execOp,aQ,el,ec,Sem.run_bind,b_,Result.andThen_ok]; rfl) ⟨_,hk, ?_,fun _=>fO.alloc w _⟩;rw[hd];have hlen:(List.replicate (j ()).toNat E.j_).length=(j ()).toNat:=by simp
       have bZ:bj (w.alloc (.cells (madeCells z.cells ((j ()).toNat*ii.size)) elem)).heap E (List.replicate (j ()).toNat E.j_) (fun q=>(madeCells z.cells ((j ()).toNat*ii.size)).getD (0+q) Go.undef) fun _ _ _=>0:=by
         rw[aY];intro q x hx jj ll hj;refine DA lL (j ()).toNat q x ?_ jj ll hj;exact hx
       have cn:=bZ.own (b:=w.heap.size) (c:=(j ()).toNat) (fz:=(0,0)) (qH w _) (kK _) (by rw[hlen]; exact Nat.le_refl _) (by rw[hlen]; unfold cm; omega) (by rw[size_madeCells,aY]; omega);rw[hlen] at cn
       have po:∀x,bB w.heap.size (j ()).toNat E.sz (fun _ _ _=>0) x=if x=w.heap.size then 1 else 0:=fun x=>by
         simp only[bB];rw[gC fun i _=>gC fun j _=>rfl];rfl
       obtain⟨ρ',r1,h1,_⟩:=r.mG (ks:=[]) rfl rfl hg (p:=(_,_)) (fun x hx _=>alloc_old w _ x hx) (oV w _ _) cn cn.one (fun x hx=>by
         show bB w.heap.size (j ()).toNat E.sz (fun _ _ _=>0) x≤_;rw[po,if_neg (Nat.ne_of_lt hx)]; exact Nat.zero_le _) fun x hx=>by
         show bB w.heap.size (j ()).toNat E.sz (fun _ _ _=>0) x≤1;rw[po]; split <;> omega
       refine⟨ρ',aG.put r1 (v:= .c (.pre (8*d) fun _=>0)) ⟨fb.2 (.inl rfl),w.heap.size,0,(j ()).toNat,(j ()).toNat,h1,Nat.zero_le _, ?_⟩ (some d)⟩;rw[o1]; rfl
     · cases h
   · cases h
 · -- append in place
   rename_i c d aQ hd
   split at h
   · rename_i x y T T2 dA du uq
     split at h
     · rename_i E elem bytes k n aU hx
       split at h
       · rename_i E' lS ys hg hy
         split at h
         · rename_i xs Kx
           split at h
           · rename_i hf;obtain⟨nY,hk⟩:=h;obtain⟨hU,i,z,hi,aY,fF,hz,lL,nP⟩:=iy hT aU;have ex:=ev x;rw[hx] at ex;obtain⟨fD,b,off,N,cp,hv,hn,zO⟩:=ex;obtain⟨_,news,S2,hN,_⟩:=zL hT r hy (ev y);have ho:=oT r hg;rw[qO Kx] at ho;rcases ho.dU with⟨gq,_,_⟩ | ⟨b2,Ky,c2,vs,e,fz,S,gq,hp,hb,mM,hl,hm,dm,hs⟩
             · rw[hv] at gq; cases gq
             rw[hv] at gq;simp only[Value.slice.injEq,Option.some.injEq,Addr.mk.injEq,and_true] at gq;obtain⟨⟨rfl,rfl⟩,rfl,rfl⟩:=gq;have eT:n ()+(ys ()).length≤cp:=Nat.le_trans nY hl;have oQ:=hN.src;rw[←aY] at oQ;have m1:=Nat.mul_le_mul_right E.sz nY;have m2:=Nat.mul_le_mul_right E.sz hl;rw[Nat.add_mul] at m1;obtain⟨w',g1,g2,g3,g4⟩:=nJ (P:=P) news w b (off+n ()*E.sz) 0 vs e fz hb mM (by rw[hN.len]; omega) hN.one;rw[Nat.add_zero] at g2
             have b_:(Builtin.append_ #[T,T2] o.type #[a.eval x,a.eval y]).run P w = .ok (.slice (some ⟨b,off,none⟩) (n ()+(ys ()).length) cp) w':=by
               rw[zO];rw[←aY] at g1;rcases oQ.kind with⟨e',hk⟩ | hk <;> simp[Builtin.append_,run_underlying hU,run_underlying hk,sizeOf,typeInfo,hi,oQ.len,eT,oQ.cells,dS,g1]
             have hlen:((xs ()).take (n ())++(ys ()++(xs ()).drop (n ()+(ys ()).length))).length=(xs ()).length:=by
               rw[List.length_append,List.length_append,List.length_take,List.length_drop]; omega
             have iv:=hs.flat hf
             have zero:∀{x m:Nat},¬0<bQ m E.sz (fun _ _ _=>0) x:=fun {x m} hq=>by
               have:bQ m E.sz (fun _ _ _=>0) x=0:=gC fun i _=>gC fun j _=>rfl;omega
             have sA:bj w'.heap E ((xs ()).take (n ())) (fun q=>vs.getD (off+q) Go.undef) fun _ _ _=>0:=bj.mono (h:=w.heap) (fun i x hx j l hj=>by
               rw[List.getElem?_take] at hx
               split at hx
               · exact iv i x hx j l hj
               · cases hx) fun x hx=>(zero hx).elim
             have sB:bj w'.heap E (ys ()) (fun q=>news.getD q Go.undef) fun _ _ _=>0:=(hN.dU.flat hf).mono fun x hx=>(zero hx).elim
             have sC:bj w'.heap E ((xs ()).drop (n ()+(ys ()).length)) (fun q=>vs.getD (off+((n ()+(ys ()).length)*E.sz+q)) Go.undef) fun _ _ _=>0:=bj.mono (h:=w.heap) (fun i x hx j l hj=>by
               rw[List.getElem?_drop] at hx;have:=iv _ x hx j l hj;rw[Nat.add_mul,Nat.add_assoc] at this;exact this) fun x hx=>(zero hx).elim
             have dU :bj w'.heap E ((xs ()).take (n ())++(ys ()++(xs ()).drop (n ()+(ys ()).length))) (fun q=>(cZ vs (off+n ()*E.sz) news).getD (off+q) Go.undef) fun _ _ _=>0:=by
               refine bj.cells ((sA.glue (sB.glue sC)).flat hf) fun q hq=> ?_;rw[gW _ _ _ _ (by rw[hN.len]; omega)];have tl:((xs ()).take (n ())).length=n ():=by rw[List.length_take]; omega
               simp only[glue,tl];rw[hN.len]
               by_cases c1:q<n ()*E.sz
               · rw[if_pos c1,if_neg (by omega)]
               · rw [if_neg c1]
                 by_cases c2:q - n ()*E.sz<(ys ()).length*E.sz
                 · rw[if_pos c2,if_pos (by omega)]
                   congr 1; omega
                 · rw[if_neg c2,if_neg (by omega)]
                   congr 1
                   rw[Nat.add_mul]; omega
             have own:=dU.own (c:=cp) g2 (by
               rcases mM with h | h
               · exact .inl h
               · exact .inr (by rw[dk]; exact h)) (by rw[hlen]; exact hl) (by rw[hlen]; exact hm) (by rw[dk]; exact dm)
             rw[hlen] at own;rw[Kv hf hs] at hp;refine hY (v:= .slice (some ⟨b,off,none⟩) (n ()+(ys ()).length) cp) (w':=w') ?_ ⟨_,hk, ?_,fun hw=>by simp[eQ,aQ,dA] at hw⟩
             · have e1:c.args = #[x,y]:=by rw[←Array.toArray_toList (xs:=c.args),du]
               have e2:c.argTypes = #[T,T2]:=by rw[←Array.toArray_toList (xs:=c.argTypes),uq]
               obtain⟨callee,args,argTypes⟩:=c;simp only at dA e1 e2;subst dA e1 e2;simp[execOp,aQ,resolve,invoke,builtin,b_,Result.andThen]
             · rw [hd]
               have r1:=r.rV (w':=w') (B':= .own E (fun _=>(xs ()).take (n ())++(ys ()++(xs ()).drop (n ()+(ys ()).length))) false) hg (fun x hx=>g3 x fun he=>hx (by
                   show 0<(ρ k).2 x;rw[hp,he]; exact iM _ _ _ _)) g4 (by
                   show bc w'.heap (.list E _) (ρ k).1 (ρ k).2;rw[hv,hp]; exact own) (fun x hx=>hx) (fun x hx=>hx)
               exact⟨ρ,aG.put r1 (v:= .c (.pre k fun _=>n ()+(ys ()).length)) ⟨dR.2 fD,b,off,(xs ()).length,cp,hv,nY,rfl⟩ (some d)⟩
           · cases h
         · cases h
       · cases h
     · cases h
   · cases h
 · -- up to the last cell
   rename_i T x hi d aQ hd
   split at h
   · rename_i E' elem bytes k n kk hh aU hx mz
     split at h
     · rename_i E xs oM hg;obtain⟨nY,hk⟩:=h;obtain⟨hU,ii,z,dF,aY,_⟩:=iy hT aU;have ex:=ev x;rw[hx] at ex;obtain⟨fD,b,off,N,cp,hv,hn,zO⟩:=ex;have ei:=ev hi;rw[mz] at ei;obtain⟨ei,_⟩:=RL.of_int ei;have ho:=oT r hg;rcases ho.dU with⟨gq,_,_⟩ | ⟨b2,Ky,c2,vs,e,fz,S,gq,hp,hb,mM,hl,hm,dm,hs⟩
       · rw[hv] at gq; cases gq
       rw[hv] at gq;simp only[Value.slice.injEq,Option.some.injEq,Addr.mk.injEq,and_true] at gq;obtain⟨⟨rfl,rfl⟩,rfl,rfl⟩:=gq;have e1:((none:Option Value)=none∧0=0)∨∃k,(none:Option Value)=some (.int k ((0:Nat):Int)):= .inl ⟨rfl,rfl⟩;have e2:((some hi).map a.eval=none∧(xs ()).length=n ())∨∃k,(some hi).map a.eval=some (.int k (((xs ()).length:Nat):Int)):= .inr ⟨kk,by rw[Option.map_some,ei,nY]⟩
       have b_:(execOp a.eval o).run P w = .ok (.value (.slice (if cp=0 then some ⟨b,off,none⟩ else(some (⟨b,off,none⟩:Addr)).map (·.add (0*ii.size))) ((xs ()).length - 0) (cp - 0))) w:=by
         simp only[execOp,aQ,Option.map_none,zO,Instr.sliceAt,Sem.run_bind,gD w hU,Result.andThen_ok,Instr.slice];rw[wu true w e1 e2 (Nat.zero_le _) hl];simp only[Result.andThen_ok,kb w dF,Sem.run_pure]
       refine hY b_ ⟨_,hk, ?_,fun _=>fO.refl w⟩;rw[hd];refine⟨ρ,aG.put r (v:= .c (.own k)) ⟨fD, ?_⟩ (some d)⟩;rw[hv];simp[Addr.add]
     · cases h
   · cases h
 · cases h
theorem Kz {o:Oper} {K:SS→Prop} {Q:Exit→Act→World→Prop} (hw:eQ tab o=true→Γ.hd = []) (h:sa tab o σ K) :
  o.wp P a w (fun a' w'=>∃aw,K aw∧mB Γ H (eQ tab o) w aw a' w') Q:=by
 unfold sa at h
 split at h
 · exact Kw hT r h
 · exact Km hT r hw h
theorem KA {o :Oper} {K:SS→Prop} {Q:Exit→Act→World→Prop} {c:Call} {x y:Operand} (aQ:o.op = .call c) (dA:c.callee = .builtin .append) (du:c.args.toList = [x,y]) (h:qR tab o σ K) :
   o.wp P a w (fun a' w'=>∃aw,K aw∧(∃ρ',aG Γ H ρ' aw a' w')∧∀b,b<w.heap.size→(∀k,σ.ev x = .c (.own k)→(ρ k).2 b=0)→w'.heap[b]? = w.heap[b]?) Q:=by
 have ev:=iu r.e;unfold qR at h;rw[aQ] at h;cases hd:o.dst with
 | none=>rw[hd] at h; simp only[pb,aQ,hd] at h
 | some d =>
   rw[hd] at h;simp only[dA,du] at h
   split at h
   · rename_i _ _ heq; cases heq
   · rename_i x' y' T T2 _ KB uq;cases KB
     split at h
     · rename_i E elem bytes aU hg
       split at h
       · rename_i xs k1 ys k2 hx hy
         split at h
         · rename_i hc;obtain⟨gE,jy⟩:=hc;obtain⟨nY,hk⟩:=h;obtain⟨hU,i,z,hi,aY,fF,hz,lL,nP⟩:=iy hT aU;obtain⟨u1,ox⟩:=uo r hx (ev x);obtain⟨u2,news,S2,hN,zM⟩:=zL hT r hy (ev y);have kQ:∀k∈k1++k2,av σ.af k:=fun k hk=>by obtain⟨E,xs,hg⟩:=mF (qQ u1 u2) k hk; exact eH hg
           have hle:∀x,bI ρ k1 x+bI ρ k2 x≤aP ρ σ.af x:=fun x=>by rw[←nU]; exact kL (ρ:=ρ) _ gE kQ x
           obtain⟨v,p,w',r1,r2,r3,r4,r5,r6⟩:=uf (P:=P) (T:=T) (T2:=T2) (ty:=o.type) (E:=E) (xs:=xs ()) (ys:=ys ()) ox hN zM (fun x=>Nat.le_trans (hle x) (r.b.sum x)) (fun x hx=>r.lt (Nat.lt_of_lt_of_le hx (hle x)))
             hU hi hz aY nP (by omega) (by rw[fF]; exact nY)
           refine hY (v:=v) (w':=w') ?_ ⟨_,hk, ?_,fun b hb hz=> ?_⟩
           · have e1:c.args = #[x,y]:=by rw[←Array.toArray_toList (xs:=c.args),du]
             have e2:c.argTypes = #[T,T2]:=by rw[←Array.toArray_toList (xs:=c.argTypes),uq]
             obtain⟨callee,args,argTypes⟩:=c;simp only at dA e1 e2;subst dA e1 e2;simp[execOp,aQ,resolve,invoke,builtin,r1,Result.andThen]
           · rw[hd];refine sb r gE (qQ u1 u2) hg (fun x hx h0=> ?_) r3 r2 (fun x hx=> ?_) r6
             · rw[nU] at h0;exact r4 x hx (by omega)
             · rw[nU]; exact r5 x hx
           · refine r4 b hb ?_;rcases Kt hx with e | ⟨k,e1,e2⟩
             · rw[e]; rfl
             · rw[e2];have:=hz k e1;simp only[bI];omega
         · cases h
       · cases h
     · cases h
   · cases h
end
def uu (bs:List (Nat × ak)):C→Option Lf
 | .lf l=>some l
 | .bl b=>some (.bool fun _=>b)
 | .own k=>match aL bs k with | some (.own E xs _)=>some (.list E xs) | some (.view E xs)=>some (.list E xs) | _=>none
 | _=>none
def uv (bs:List (Nat × ak)):List C→Option (List Lf)
 | []=>some []
 | c::cs=>match uu bs c,uv bs cs with | some l,some ls=>some (l::ls) | _,_=>none
def uw (bs:List (Nat × ak)) (k:Nat):Option (List Lf):=
 match aL bs k with
 | some (.box cs)=>uv bs cs
 | _=>none
def pq (bs:List (Nat × ak)):Cp→Cp
 | .ptr k off=>match uw bs k with | some ls=> .bN ls off | none=> .ptr k off
 | c=>c
def nZ (bs:List (Nat × ak)) (z:Z):C→C
 | .nil=>match z with | .nl E=> .lf (.list E fun _=>[]) | _=> .undef
 | .own k=>match uu bs (.own k) with | some l=> .lf l | none=> .undef
 | .ptr k off=>match uw bs k with | some ls=> .bN ls off | none=> .undef
 | .en _ _ _ _=> .undef
 | .pre k n=>match uu bs (.own k) with | some (.list E xs)=> .lf (.list E fun _=>(xs ()).take (n ())) | _=> .undef
 | .fn f l=> .fn f (l.map (pq bs))
 | c=>c
def kR (bs:List (Nat × ak)):List Z→List C→List C
 | _,[]=>[]
 | [],c::cs=>nZ bs .un c::kR bs [] cs
 | z::zs,c::cs=>nZ bs z c::kR bs zs cs
def wT (tab:aX) (bs:List (Nat × ak)) (T:TypeId):V→V
 | .c x=> .c (nZ bs (match cz tab T with | some (.sl E _ _)=> .nl E | _=> .un) x)
 | .agg cs=> .agg (kR bs (match cz tab T with | some (.st _ _ z _)=>z | _=>[]) cs)
 | .ba _=> .c .undef
def ki (tab:aX) (bs:List (Nat × ak)):List TypeId→List V→List V
 | _,[]=>[]
 | [],_::vs=> .c .undef::ki tab bs [] vs
 | T::Ts,v::vs=>wT tab bs T v::ki tab bs Ts vs
def sd (bs:List (Nat × ak)) (c:Cp):V:=
 match pq bs c with
 | .el E x off=> .c (.el E x off)
 | .bN ls off=> .c (.bN ls off)
 | .ptr _ _=> .c .undef
def zP (bs:List (Nat × ak)) (l:List Cp):Bool:=l.all fun c=>match pq bs c with | .ptr _ _=>false | _=>true
def C.n0 (bs:List (Nat × ak)):C→Bool
 | .fn _ l=>zP bs l
 | _=>true
def V.n0 (bs:List (Nat × ak)):V→Bool
 | .c x=>x.n0 bs
 | .agg cs=>cs.all (C.n0 bs)
 | .ba _=>true
structure wU (w:World) (H H1:Hp) (ρ:aF) (D:Nat→Prop) (bs:List (Nat × ak)):Prop where
 hH:∀b o,H b=some o→H1 b=some o
 af:∀k B,aL bs k=some B→cD w.heap H ρ D B (ρ k)∧∀x,0<(ρ k).2 x→H1 x=w.heap[x]?
theorem aG.DY {Γ:Ctx} {H:Hp} {ρ:aF} {σ:SS} {a:Act} {w:World} (r:aG Γ H ρ σ a w):wU w H (fun b=>w.heap[b]?) ρ (av σ.af) σ.af:=
 ⟨r.b.hh,fun k B hk=>⟨r.b.af k B (cK hk),fun _ _=>rfl⟩⟩
section
variable {w : World} {H H1 : Hp} {ρ ρ1 : aF} {D D1 : Nat → Prop} {bs : List (Nat × ak)} (L : wU w H H1 ρ D bs)
include L
theorem zQ {c:C} {l:Lf} {v:Value} (h:uu bs c=some l) (hv:RC H ρ D c v):RL H1 l v:=by
 unfold uu at h
 split at h
 · cases h; exact RL.mono hv L.hH
 · cases h; simp only[RC] at hv; subst hv; exact RL.bool (t:=fun _=>_)
 · rename_i k
   split at h
   · rename_i E xs l hg;cases h;obtain⟨_,rfl⟩:=hv;obtain⟨h1,h2⟩:=L.af k _ hg;exact bc.rl h1 h2
   · rename_i E xs hg;cases h;obtain⟨_,rfl⟩:=hv;obtain⟨h1,h2⟩:=L.af k _ hg;exact h1.1.mono L.hH
   · cases h
 · cases h
theorem DZ:∀{cs:List C} {ls:List Lf} {f:Nat→Value},uv bs cs=some ls→(∀(j:Nat) c,cs[j]? = some c→RC H ρ D c (f j))→ls.length=cs.length∧∀(j:Nat) l,ls[j]? = some l→RL H1 l (f j)
 | [],ls,f,h,_=>by simp only[uv,Option.some.injEq] at h; subst h; exact⟨rfl,fun j l hj=>by simp at hj⟩
 | c ::cs,ls,f,h,hc=>by
   simp only[uv] at h
   split at h
   · rename_i l nV h1 h2;cases h;obtain⟨g1,g2⟩:=DZ (f:=fun j=>f (j+1)) h2 fun j c hj=>hc (j+1) c (by simpa using hj);refine⟨by simp[g1],fun j l' hj=> ?_⟩;cases j with
     | zero=>simp at hj; subst hj; exact zQ L h1 (hc 0 c rfl)
     | succ j=>exact g2 j l' (by simpa using hj)
   · cases h
theorem D0 {k off:Nat} {ls:List Lf} {v:Value} (h:uw bs k=some ls) (hv:dz H ρ D (.ptr k off) v) :
   dz H1 ρ1 D1 (.bN ls off) v:=by
 unfold uw at h
 split at h
 · rename_i cs hg;obtain⟨_,b,h1,rfl⟩:=hv;obtain⟨⟨b',vs,e,fz,h2,h3,h4,h5,h6⟩,h0⟩:=L.af k _ hg;rw[h1] at h2;simp only[Value.pointer.injEq,Option.some.injEq,Addr.mk.injEq,and_true] at h2;subst h2;obtain⟨g1,g2⟩:=DZ (f:=fun j=>vs.getD j Go.undef) L h h6.2;refine⟨b,off,vs,e,fz,by rw[h0 b (by simp[h3,one])]; exact h4,rfl,fun j l hj=>⟨?_,g2 _ _ hj⟩⟩;have:=bD hj;rw[h6.1,←g1]; exact this
 · cases h
theorem dz.D3 {E:an} {x:Unit→E.α} {off:Nat} {v:Value} (hv:dz H ρ D (.el E x off) v):dz H1 ρ1 D1 (.el E x off) v:=by
 obtain⟨b,o,cs,e,fz,h1,h2,h3⟩:=hv;exact⟨b,o,cs,e,fz,L.hH _ _ h1,h2,fun j l hj=>⟨(h3 j l hj).1,(h3 j l hj).2.mono L.hH⟩⟩
theorem dz.D4 {ls:List Lf} {off:Nat} {v:Value} (hv:dz H ρ D (.bN ls off) v):dz H1 ρ1 D1 (.bN ls off) v:=by
 obtain⟨b,o,cs,e,fz,h1,h2,h3⟩:=hv;exact⟨b,o,cs,e,fz,L.hH _ _ h1,h2,fun j l hj=>⟨(h3 j l hj).1,(h3 j l hj).2.mono L.hH⟩⟩
theorem D5 {c:Cp} {v:Value} (hv:dz H ρ D c v) (ho:(match pq bs c with | .ptr _ _=>false | _=>true)=true) :
   dz H1 ρ1 D1 (pq bs c) v:=by
 cases c with
 | ptr k off=>
   cases ht:uw bs k with
   | some t=>simp only[pq,ht]; exact D0 L ht hv
   | none=>simp[pq,ht] at ho
 | el E x off=>exact dz.D3 (ρ1:=ρ1) (D1:=D1) L hv
 | bN ls off=>exact dz.D4 (ρ1:=ρ1) (D1:=D1) L hv
omit L in
theorem RL.pre {H:Hp} {E:an} {xs:Unit→List E.α} {b o N c n:Nat} (h:RL H (.list E xs) (.slice (some ⟨b,o,none⟩) N c)) (hn:n≤N):RL H (.list E fun _=>(xs ()).take n) (.slice (some ⟨b,o,none⟩) n c):=by
 cases h with
 | nil h0=>
   obtain rfl:n=0:=by omega
   exact RL.nil (by rw[h0]; rfl)
 | list hb hl hm ho hc=>
   have hlen:((xs ()).take n).length=n:=by rw[List.length_take]; omega
   have:=RL.list (E:=E) (t:=fun _=>(xs ()).take n) (b:=b) (off:=o) (c:=c) hb (by rw[hlen]; omega) (by rw[hlen]; omega) (by rw[hlen]; have:=Nat.mul_le_mul_right E.sz hn; omega) (fun i x hx j l hj=>by
    rw[List.getElem?_take] at hx
    split at hx
    · exact hc i x hx j l hj
    · cases hx)
   rw[hlen] at this;exact this
theorem D6 {c:C} {v:Value} (z:Z) (hv:RC H ρ D c v) (ho:c.n0 bs=true):RC H1 ρ1 D1 (nZ bs z c) v:=by
 cases c with
 | lf l=>exact RL.mono hv L.hH
 | bl b=>exact hv
 | nil=>
   simp only[nZ]
   split
   · simp only[RC] at hv; subst hv; exact RL.nil rfl
   · trivial
 | own k=>
   simp only[nZ]
   split
   · rename_i l hl; exact zQ L hl hv
   · trivial
 | ptr k off=>
   simp only[nZ]
   split
   · rename_i t ht; exact D0 (ρ1:=ρ1) (D1:=D1) L ht hv
   · trivial
 | el E x off=>exact dz.D3 (ρ1:=ρ1) (D1:=D1) L hv
 | bN ls off=>exact dz.D4 (ρ1:=ρ1) (D1:=D1) L hv
 | en k E i off=>trivial
 | pre k n=>
   simp only[nZ]
   split
   · rename_i E xs hl;obtain⟨hk,b,o,N,c,h1,h2,h3⟩:=hv;have:=zQ L hl (c:= .own k) ⟨hk,rfl⟩;subst h3;rw[h1] at this;exact RL.pre this h2
   · trivial
 | fn f l=>
   obtain⟨vs,h1,h2,h3⟩:=hv;refine⟨vs,h1,by simpa using h2,fun j c hj=> ?_⟩;rw[List.getElem?_map,Option.map_eq_some_iff] at hj;obtain⟨c0,hj,rfl⟩:=hj;exact D5 L (h3 j c0 hj) (List.all_eq_true.1 ho c0 (List.mem_of_getElem? hj))
 | undef=>trivial
omit L in
theorem zR {bs:List (Nat × ak)}:∀{cs:List C} {zs:List Z} {j:Nat} {c:C},(kR bs zs cs)[j]? = some c→∃c0 z,cs[j]? = some c0∧c=nZ bs z c0
 | [],zs,j,c,h=>by cases zs <;> simp[kR] at h
 | c0::cs,[],0,c,h=>by simp[kR] at h; exact⟨c0,_,rfl,h.symm⟩
 | c0::cs,[],j+1,c,h=>by simp only[kR,List.getElem?_cons_succ] at h ⊢; exact zR h
 | c0::cs,z::zs,0,c,h=>by simp[kR] at h; exact⟨c0,_,rfl,h.symm⟩
 | c0::cs,z::zs,j+1,c,h=>by simp only[kR,List.getElem?_cons_succ] at h ⊢; exact zR h
omit L in
theorem zS {bs:List (Nat × ak)}:∀{cs:List C} {zs:List Z},(kR bs zs cs).length=cs.length
 | [],zs=>by cases zs <;> rfl
 | c0::cs,[]=>by simp[kR,zS (cs:=cs)]
 | c0::cs,z::zs=>by simp[kR,zS (cs:=cs)]
theorem D7 {tab:aX} {T:TypeId} {c:V} {v:Value} (hv:RV H ρ D c v) (ho:c.n0 bs=true):RV H1 ρ1 D1 (wT tab bs T c) v:=by
 cases c with
 | c x=>exact D6 L _ hv ho
 | agg cs=>
   obtain⟨vs,h1,h2⟩:=hv;refine⟨vs,h1,by rw[zS]; exact h2.1,fun j c hj=> ?_⟩;obtain⟨c0,z,h3,rfl⟩:=zR hj;exact D6 L z (h2.2 j c0 h3) (List.all_eq_true.1 ho c0 (List.mem_of_getElem? h3))
 | ba cs=>trivial
theorem D8 {c:Cp} {v:Value} (hv:dz H ρ D c v) (ho:(match pq bs c with | .ptr _ _=>false | _=>true)=true):RV H1 ρ1 D1 (sd bs c) v:=by
 have h:=D5 (ρ1:=ρ1) (D1:=D1) L hv ho;unfold sd
 split
 · rename_i E x off heq; rw[heq] at h; exact h
 · rename_i ls off heq; rw[heq] at h; exact h
 · trivial
end
inductive ag (P:Program) (f:FuncId) (as:List V) (K:V→List ak→Prop):Prop where
 | mk (post:V→List ak→Prop) (hs:Spec P f as post) (hk:∀r nb,post r nb→K r nb)
def pw:List (Nat × ak)→Nat→List ak→List (Nat × ak)
 | bs,_,[]=>bs
 | bs,k,B::nb=>pw (cU bs k B) (k+1) nb
def se (bs:List (Nat × ak)) (d:Nat):Bool:=bs.all fun p=>p.1<8*d || 8*d+8≤p.1
theorem aG.pw {Γ:Ctx} {H:Hp} {a:Act} {w':World} {H':Hp} {ρ':aF}:∀(nb:List ak) (j k:Nat) {ρ:aF} {σ:SS} {w:World},aG Γ H ρ σ a w→
   (∀b o,H b=some o→w'.heap[b]? = w.heap[b]?)→(∀b,0<aP ρ σ.af b→w'.heap[b]? = w.heap[b]?)→Ext w w'→
   (∀i B,nb[i]? = some B→cD w'.heap H' ρ' (fun _=>False) B (ρ' (j+i))∧ownB B=true)→(∀i,i<nb.length→(ρ' (j+i)).1.oneCell'=true)→
   (∀i x,i<nb.length→0<(ρ' (j+i)).2 x→H x=none∧aP ρ σ.af x=0)→(∀x,aP ρ' (num j nb) x≤1)→(∀i,i<nb.length→aL σ.af (k+i)=none)→
   ∃ qS,aG Γ H qS {σ with af:=pw σ.af k nb} a w'∧(∀i,i<nb.length→av (pw σ.af k nb) (k+i)∧(qS (k+i)).1=(ρ' (j+i)).1)∧(∀i,av σ.af i→av (pw σ.af k nb) i∧qS i=ρ i)
 | [],j,k,ρ,σ,w,r,h1,h2,h3,_,_,_,_,_=>by
   refine⟨ρ,⟨⟨r.b.oc,r.b.nd,r.b.h0,fun b o hb=> ?_,fun k B hk=> ?_,r.b.sum,r.b.fresh,r.b.gn⟩,r.e,r.d,r.n.trans h3,r.hd,r.hm⟩,fun i hi=>by simp at hi,fun i hi=>⟨hi,rfl⟩⟩
   · rw[h1 b o hb]; exact r.b.hh b o hb
   · exact(r.b.af k B hk).mono (iN.refl _ _ _) fun b hb=>h2 b (Nat.lt_of_lt_of_le hb (lG hk b))
 | B :: nb, j,k,ρ,σ,w,r,h1,h2,h3,h4,h5,h6,h7,h8=>by
   have hk:aL σ.af k=none:=h8 0 (by simp);obtain⟨hB,cn⟩:=h4 0 B rfl
   have hle:∀x,(ρ' j).2 x≤1:=fun x=>by
     have:=h7 x;simp only[num,aP] at this;omega
   have r1:=r.qG (w':=w') (k:=k) (B:=B) (p:=ρ' j) hk h1 h2 h3 (h5 0 (by simp)) (fun x hx=>h6 0 x (by simp) hx) hle
     (by cases B with
       | own E xs l=>exact hB
       | dead=>simp[ownB] at cn
       | box cs=>simp[ownB] at cn
       | view E xs=>simp[ownB] at cn
       | mp m=>simp[ownB] at cn
       | bP E xs i fs=>simp[ownB] at cn) (by rintro rfl; simp[ownB] at cn)
   have fN:=ir hk;have hne:∀i,av σ.af i→i≠k:=fun i hi he=>fN (he▸hi);have e1:∀i,j+1+i=j+(i+1):=fun i=>by omega
   have e2:∀i,k+1+i=k+(i+1):=fun i=>by omega
   obtain ⟨qS,r2,g1,g2⟩:=aG.pw nb (j+1) (k+1) r1 (fun _ _ _=>rfl) (fun _ _=>rfl) (Ext.refl _)
     (fun i A hi=>by rw[e1]; exact h4 (i+1) A (by simpa using hi)) (fun i hi=>by rw[e1]; exact h5 (i+1) (by simpa using hi))
     (fun i x hi hx=>by
       rw[e1] at hx;obtain⟨g1,g2⟩:=h6 (i+1) x (by simpa using hi) hx;refine⟨g1, ?_⟩;show aP (cH ρ k (ρ' j)) (cU σ.af k B) x=0;rw[v5,db,tF (ρ:=ρ) (ρ':=cH ρ k (ρ' j)) (fun i hi=>cL (hne i hi)),g2];have h9:=h7 x;simp only[num,aP] at h9;have bn:=lG (ρ:=ρ') (bs:=num (j+1) nb) (k:=j+(i+1)) (B:=nb[i]) (oY.2 ⟨by omega,by rw[show j+(i+1) - (j+1)=i by omega]; exact List.getElem?_eq_getElem hi⟩) x;omega)
     (fun x=>by have:=h7 x; simp only[num,aP] at this; omega)
     (fun i hi=>by
       rw[e2];have h9:=h8 (i+1) (by simpa using hi)
       have : ∀bs:List (Nat × ak),aL bs (k+(i+1))=none→aL (cU bs k B) (k+(i+1))=none:=by
        intro bs
        induction bs with
        | nil=>intro _; simp[cU,aL]
        | cons p bs ih=>
          intro h;simp only[aL] at h
          split at h
          · cases h
          · rename_i hp;simp only[cU]
            split
            · simp only[aL];rw[if_neg (by omega),if_neg hp]; exact h
            · simp only[aL];rw[if_neg hp]; exact ih h
       exact this _ h9)
   refine⟨qS,r2,fun i hi=> ?_,fun i hi=> ?_⟩
   · cases i with
     | zero=>
       obtain⟨g3,g4⟩:=g2 k (fb.2 (.inl rfl));exact⟨g3,by rw[Nat.add_zero,g4,db]; rfl⟩
     | succ i=>
       have:=g1 i (by simpa using hi);rw[e1,e2] at this;exact this
   · obtain⟨g3,g4⟩:=g2 i (fb.2 (.inr hi));exact⟨g3,by rw[g4,cL (hne i hi)]⟩
def fp (σ:SS) (o:Oper):Option (V × Call):=
 match o.op with
 | .call c=>match c.callee with
   | .value x=>some (σ.ev x,c)
   | _=>none
 | _=>none
def zU (P:Program) (tab:aX) (σ:SS) (v:V) (c:Call) (dst:Option Nat) (K:SS→Prop):Prop:=
 match v,dst with
 | .c (.fn f l),some d=>
   if se σ.af d=true∧zP σ.af l=true∧(c.args.toList.map σ.ev).all (V.n0 σ.af)=true∧c.argTypes.size=c.args.size then
    ag P f (ki tab σ.af c.argTypes.toList (c.args.toList.map σ.ev)++l.map (sd σ.af)) fun r nb=>
     nb.length≤8∧K (({σ with af:=pw σ.af (8*d) nb}:SS).put (some d) (r.cO (8*d + ·)))
   else False
 | _,_=>False
theorem sf {tab:aX} {bs:List (Nat × ak)}:∀{vs:List V} {Ts:List TypeId},(ki tab bs Ts vs).length=vs.length
 | [],Ts=>by cases Ts <;> rfl
 | v::vs,[]=>by simp[ki,sf (vs:=vs)]
 | v::vs,T::Ts=>by simp[ki,sf (vs:=vs)]
section
variable {P : Program} {tab : aX} {Γ : Ctx} {H : Hp} {ρ : aF} {σ : SS} {a : Act} {w : World} (r : aG Γ H ρ σ a w)
include r
theorem zV:∀{vs:List V} {Ts:List TypeId} {us:List Value},(∀(j:Nat) c v,vs[j]? = some c→us[j]? = some v→RV H ρ (av σ.af) c v)→vs.all (V.n0 σ.af)=true→vs.length=us.length→
   ∀ (j:Nat) c v,(ki tab σ.af Ts vs)[j]? = some c→us[j]? = some v→RV (fun b=>w.heap[b]?) (fun _=>default) (fun _=>False) c v
 | [],Ts,us,_,_,_,j,c,v,h,_=>by cases Ts <;> simp[ki] at h
 | x :: vs,[],us,hv,ho,hl,j,c,v,h,h'=>by
   cases us with
   | nil=>simp at hl
   | cons u us=>
     simp only[List.all_cons,Bool.and_eq_true] at ho;cases j with
     | zero=>simp[ki] at h; subst h; trivial
     | succ j=>
       simp only[ki,List.getElem?_cons_succ] at h h';exact zV (Ts:=[]) (fun j c v g1 g2=>hv (j+1) c v (by simpa using g1) (by simpa using g2)) ho.2 (by simpa using hl) j c v h h'
 | x :: vs,T::Ts,us,hv,ho,hl,j,c,v,h,h'=>by
   cases us with
   | nil=>simp at hl
   | cons u us=>
     simp only[List.all_cons,Bool.and_eq_true] at ho;cases j with
     | zero=>
       simp[ki] at h h'; subst h h';exact D7 r.DY (hv 0 x u rfl rfl) ho.1
     | succ j=>
       simp only[ki,List.getElem?_cons_succ] at h h';exact zV (Ts:=Ts) (fun j c v g1 g2=>hv (j+1) c v (by simpa using g1) (by simpa using g2)) ho.2 (by simpa using hl) j c v h h'
theorem KD {o : Oper} {v:V} {c:Call} {K:SS→Prop} {Q:Exit→Act→World→Prop} (hc:fp σ o=some (v,c)) (h:zU P tab σ v c o.dst K) :
   o.wp P a w (fun a' w'=>∃aw,K aw∧mB Γ H (eQ tab o) w aw a' w') Q:=by
 unfold fp at hc
 split at hc
 · rename_i c0 aQ
   split at hc
   · rename_i x dA;cases hc;unfold zU at h
     split at h
     · rename_i f l d hx hd
       split at h
       · rename_i qE;obtain⟨gG,zW,zy,yW⟩:=qE;obtain⟨post,⟨⟨fn,n_,kS,zX⟩,hs⟩,hk⟩:=h;have ev:=iu r.e x;rw[hx] at ev;obtain⟨vs,e1,e2,e3⟩:=ev
         have b_:(execOp a.eval o).run P w = .ok (.enter f (c.args.map a.eval++vs)) w:=by
          simp only[execOp,aQ,resolve,dA,Deferred.ofValue,e1,Sem.run_bind,Sem.run_pure,Result.andThen_ok,invoke,callFunc,run_program,n_,kS,zX];simp
         have du:args (fun b=>w.heap[b]?) (fun _=>default) (fun _=>False) (ki tab σ.af c.argTypes.toList (c.args.toList.map σ.ev)++l.map (sd σ.af)) (c.args.map a.eval++vs):=by
          refine⟨by simp[sf,e2],fun j cv hj=> ?_⟩;rw[Array.getD_eq_getD_getElem?]
          by_cases aR:j<c.args.size
          · rw[List.getElem?_append_left (by simpa [sf] using aR)] at hj;rw[Array.getElem?_append_left (by simpa using aR)];have h1:(c.args.map a.eval).toList[j]? = some (a.eval c.args[j]):=by simp[aR]
            have h2:=zV r (tO r c.args) zy (by simp) j cv _ hj h1;simpa [aR] using h2
          · rw[List.getElem?_append_right (by simpa [sf] using Nat.le_of_not_lt aR)] at hj;rw[Array.getElem?_append_right (by simpa using Nat.le_of_not_lt aR)];simp only[sf,List.length_map,Array.length_toList,Array.size_map,List.getElem?_map,Option.map_eq_some_iff] at hj ⊢;obtain⟨c0,h1,rfl⟩:=hj;have h2:=e3 _ c0 h1;have h3:=List.all_eq_true.1 zW c0 (List.mem_of_getElem? h1);rw[←Array.getD_eq_getD_getElem?];exact D8 r.DY h2 h3
         unfold Oper.wp;rw[b_];simp only[Oper.upon];refine(hs w _ du).mono fun e w' he=> ?_;obtain⟨v,rv,nb,H',ρ',rfl,hp,cn,hB,hv,aY⟩:=he;obtain⟨hlen,hK⟩:=hk rv nb hp;have lO:∀x o,w.heap[x]? = some o→w'.heap[x]? = some o:=fun x o hx=>hB.hh x o (hB.h0 x o hx);have mN:∀x,x<w.heap.size→w'.heap[x]? = w.heap[x]? :=fun x hx=>by rw[Array.getElem?_eq_getElem hx]; exact lO x _ (Array.getElem?_eq_getElem hx)
         have mO:∀i,i<nb.length→aL σ.af (8*d+i)=none:=fun i hi=>by
          have :∀bs:List (Nat × ak),se bs d=true→aL bs (8*d+i)=none:=by
            intro bs
            induction bs with
            | nil=>intro _; rfl
            | cons p bs ih=>
              intro ux;simp only[se,List.all_cons,Bool.and_eq_true,Bool.or_eq_true,decide_eq_true_eq] at ux;simp only[aL];rw[if_neg (by omega)];exact ih ux.2
          exact this _ gG
         have D9:∀(i:Nat) B,nb[i]? = some B→(i,B)∈num 0 nb:=fun i B hi=>oY.2 ⟨Nat.zero_le _,by simpa using hi⟩
         obtain⟨qS,r1,g1,g2⟩:=aG.pw (H':=H') (ρ':=ρ') (w':=w') nb 0 (8*d) r (fun b o hb=>mN b (jh (r.b.hh b o hb))) (fun b hb=>mN b (r.lt hb)) aY
          (fun i B hi=>by
            have h1:=hB.af i B (D9 i B hi);rw[Nat.zero_add];have h2:=List.all_eq_true.1 cn B (List.mem_of_getElem? hi);refine⟨?_,h2⟩;cases B with
            | own E xs l=>exact h1
            | dead=>cases h2
            | box cs=>cases h2
            | view E xs=>cases h2
            | mp m=>cases h2
            | bP E xs i fs=>cases h2)
          (fun i hi=>by rw[Nat.zero_add]; exact hB.oc i (mA.2 ⟨Nat.zero_le _,by omega⟩))
          (fun i x hi hx=>by
            rw[Nat.zero_add] at hx;have h1:=hB.fresh i _ (D9 i _ (List.getElem?_eq_getElem hi)) x hx;refine r.rO ?_;rcases Nat.lt_or_ge x w.heap.size with h2 | h2
            · rw[Array.getElem?_eq_getElem h2] at h1; cases h1
            · exact h2)
          hB.sum mO
         refine⟨_,hK,⟨qS, ?_⟩,fun _=>lO⟩;rw[hd];refine aG.put r1 (RV.cO (m:=fun i=>8*d+i) (D:=av (num 0 nb)) (ρ:=ρ') (fun i hi=> ?_) (hv.grow (H':=H) (ρ':=ρ') (D':=av (num 0 nb)) ⟨(fun _ _ h=>by cases h),(fun _ h=>⟨h,rfl⟩)⟩)) (some d);obtain⟨_,hi⟩:=mA.1 hi;have:=g1 i (by omega);rw[Nat.zero_add] at this;exact this
       · cases h
     · cases h
   · cases hc
 · cases hc
end
def C.nm:C→List Nat
 | .own k=>[k]
 | .ptr k _=>[k]
 | _=>[]
def uy:List C→List Nat
 | []=>[]
 | c::cs=>c.nm++uy cs
def V.nm:V→List Nat
 | .c x=>x.nm
 | .agg cs=>uy cs
 | .ba _=>[]
def C.pass:C→Bool
 | .own _ | .ptr _ _ | .bl _ | .nil | .undef=>true
 | .lf l=>l.sc
 | _=>false
def V.pass:V→Bool
 | .c x=>x.pass
 | .agg cs=>cs.all C.pass
 | .ba _=>false
def pz (ks:List Nat):List Nat→List Nat
 | []=>ks
 | x::xs=>if ks.contains x then pz ks xs else pz (ks ++ [x]) xs
def KE:Option ak→List Nat
 | some (.box cs)=>uy cs
 | _=>[]
def iQ:List Bool→List V→List Nat
 | true::ms,v::vs=>v.nm++iQ ms vs
 | false::ms,_::vs=>iQ ms vs
 | _,_=>[]
def D_ (bs:List (Nat × ak)):List Nat→List Nat
 | []=>[]
 | k::ks=>KE (aL bs k)++D_ bs ks
def gu (bs:List (Nat × ak)) (ms:List Bool) (vs:List V):List Nat:=
 pz (pz [] (iQ ms vs)) (D_ bs (pz [] (iQ ms vs)))
def kT (ks:List Nat):List (Nat × ak)→List (Nat × ak)
 | []=>[]
 | p::bs=>if ks.contains p.1 then kT ks bs else p::kT ks bs
def C.box (ks:List Nat):C→Bool
 | .own k=>ks.contains k
 | .lf l=>l.sc
 | .bl _ | .nil | .undef=>true
 | _=>false
def sg (ks:List Nat):Option ak→Option ak
 | some (.own E xs false)=>some (.own E xs false)
 | some (.view E xs)=>some (.view E xs)
 | some (.box cs)=>if cs.all (C.box ks)=true then some (.box (ji (place ks) cs)) else none
 | _=>none
def uz (bs:List (Nat × ak)) (ks:List Nat):List Nat→Option (List ak)
 | []=>some []
 | k::r=>match sg ks (aL bs k),uz bs ks r with | some B,some l=>some (B::l) | _,_=>none
def h_ (tab:aX) (bs:List (Nat × ak)) (ks:List Nat):List Bool→List TypeId→List V→List V
 | _,_,[]=>[]
 | true::ms,Ts,v::vs=>v.cO (place ks)::h_ tab bs ks ms Ts.tail vs
 | ms,T::Ts,v::vs=>wT tab bs T v::h_ tab bs ks ms.tail Ts vs
 | ms,[],_::vs=> .c .undef::h_ tab bs ks ms.tail [] vs
def oa (bs:List (Nat × ak)):List Bool→List V→Bool
 | _,[]=>true
 | true::ms,v::vs=>v.pass && oa bs ms vs
 | ms,v::vs=>v.n0 bs && oa bs ms.tail vs
def iS (ks:List Nat) (d j:Nat):Nat:=if j<100 then ks.getD j 0 else 8*d+(j - 100)
def ak.cO (m:Nat→Nat):ak→ak
 | .box cs=> .box (ji m cs)
 | B=>B
def kU (bs:List (Nat × ak)) (k:Nat) (B:ak):List (Nat × ak):=
 match aL bs k with
 | some _=>bK bs k B
 | none=>cU bs k B
def pA (m:Nat→Nat):List (Nat × ak)→List (Nat × ak)→List (Nat × ak)
 | [],bs=>bs
 | (_, .dead)::r,bs=>pA m r bs
 | (j,B)::r,bs=>pA m r (kU bs (m j) (B.cO m))
def kj (bs:List (Nat × ak)):List Nat→List (Nat × ak)→List (Nat × ak)
 | [],cs=>cs
 | k ::ks,cs=>match aL bs k with
   | some (.view E xs)=>(match aL cs k with | some .dead=>kj bs ks (bK cs k (.view E xs)) | _=>kj bs ks cs)
   | _=>kj bs ks cs
def C.bk (n:Nat):C→Bool
 | .own k=>decide (k<n)
 | .lf l=>l.sc
 | .bl _ | .nil | .undef=>true
 | _=>false
def uB (n:Nat) (p:Nat × ak):Bool:=
 (decide (p.1<n) || (decide (100≤p.1) && decide (p.1<108))) &&
  match p.2 with
  | .own _ _ false=>true
  | .box cs=>cs.all (C.bk n)
  | .dead=>decide (p.1<n)
  | _=>false
inductive aJ (P:Program) (f:FuncId) (as:List V) (bs:List (Nat × ak)) (K:V→List (Nat × ak)→Prop):Prop where
 | mk (post:V→List (Nat × ak)→Prop) (hs:bY P f as bs post) (hk:∀r bX,post r bX→K r bX)
def zY (P:Program) (tab:aX) (σ:SS) (f:FuncId) (l:List Cp) (ms:List Bool) (c:Call) (d:Nat) (K:SS→Prop):Prop:=
 match uz σ.af (gu σ.af ms (c.args.toList.map σ.ev)) (gu σ.af ms (c.args.toList.map σ.ev)) with
 | some nb=>
   if se σ.af d=true∧nb.length≤100∧dL (gu σ.af ms (c.args.toList.map σ.ev))=true∧zP (kT (gu σ.af ms (c.args.toList.map σ.ev)) σ.af) l=true∧c.argTypes.size=c.args.size∧
     oa (kT (gu σ.af ms (c.args.toList.map σ.ev)) σ.af) ms (c.args.toList.map σ.ev)=true then
    aJ P f (h_ tab (kT (gu σ.af ms (c.args.toList.map σ.ev)) σ.af) (gu σ.af ms (c.args.toList.map σ.ev)) ms c.argTypes.toList (c.args.toList.map σ.ev)++l.map (sd (kT (gu σ.af ms (c.args.toList.map σ.ev)) σ.af))) (num 0 nb) fun r bX=>
     (bX.all (uB nb.length)=true∧r.cl=true)∧
      K (({σ with af:=kj σ.af (gu σ.af ms (c.args.toList.map σ.ev)) (pA (iS (gu σ.af ms (c.args.toList.map σ.ev)) d) bX (eK σ.af (gu σ.af ms (c.args.toList.map σ.ev))))}:SS).put (some d) (r.cO (iS (gu σ.af ms (c.args.toList.map σ.ev)) d)))
   else False
 | none=>False
def wV (P:Program) (tab:aX) (σ:SS) (v:V) (c:Call) (dst:Option Nat) (K:SS→Prop):Prop:=
 match v,dst with
 | .c (.fn f l),some d=>
   match tG tab f with
   | some ms=>zY P tab σ f l ms c d K
   | none=>zU P tab σ v c dst K
 | _,_=>False
theorem KF {ks:List Nat} {bs:List (Nat × ak)} {k:Nat} {B:ak} (h:aL (kT ks bs) k=some B):aL bs k=some B∧k∉ks:=by
 induction bs with
 | nil=>simp[kT,aL] at h
 | cons p bs ih=>
   simp only[kT] at h
   split at h
   · rename_i hc;obtain⟨h1,h2⟩:=ih h;refine⟨?_,h2⟩;simp only[aL];rw[if_neg fun he=>h2 (by rw[←he]; simpa using hc)];exact h1
   · rename_i hc;simp only[aL] at h ⊢
     split at h
     · rename_i he;cases h;rw[if_pos he];exact⟨rfl,by rw[←he]; simpa using hc⟩
     · rename_i he;rw[if_neg he];exact ih h
theorem zZ {bs:List (Nat × ak)} {k:Nat} {B:ak} {j:Nat}:av (kU bs k B) j↔j=k∨av bs j:=by
 unfold kU
 split
 · rename_i hk;rw[dR];exact⟨.inr,fun h=>by rcases h with rfl | h; exact eH hk; exact h⟩
 · exact fb
theorem KG {l:List Nat} (h:dL l=true):l.Nodup:=by
 induction l with
 | nil=>simp
 | cons x l ih=>obtain⟨h1,h2⟩:=tU h; exact List.nodup_cons.2 ⟨h1,ih h2⟩
section
variable {Γ : Ctx} {H : Hp} {a : Act} {w w' : World}
theorem aG.move {ρ:aF} {σ:SS} (r:aG Γ H ρ σ a w) (h1:∀b o,H b=some o→w'.heap[b]? = w.heap[b]?) (h2:∀b,0<aP ρ σ.af b→w'.heap[b]? = w.heap[b]?) (h3:Ext w w'):aG Γ H ρ σ a w':=by
 refine⟨⟨r.b.oc,r.b.nd,r.b.h0,fun b o hb=> ?_,fun k B hk=> ?_,r.b.sum,r.b.fresh,r.b.gn⟩,r.e,r.d,r.n.trans h3,r.hd,r.hm⟩
 · rw[h1 b o hb]; exact r.b.hh b o hb
 · exact(r.b.af k B hk).mono (iN.refl _ _ _) fun b hb=>h2 b (Nat.lt_of_lt_of_le hb (lG hk b))
theorem z5 {bs:List (Nat × ak)} {k:Nat} {B:ak}:av (bK bs k B)=av bs:=by funext j; exact propext dR
theorem aG.KH {ρ:aF} {σ:SS} (r:aG Γ H ρ σ a w) {k:Nat} (hne:∀p∈Γ.hd,p.1≠k) {B:ak} {p:Value × (Nat→Nat)} (hk:aL σ.af k=none∨(aL σ.af k=some .dead∧p.1=(ρ k).1)) (dG:p.1.oneCell'=true)
   (di:∀x,0<p.2 x→H x=none∧aP ρ σ.af x=0) (hle:∀x,p.2 x≤1) (hB:∀ρ':aF,∀D':Nat→Prop,(∀q,q≠k→ρ' q=ρ q)→(ρ' k).1=p.1→(∀q,av σ.af q→D' q)→D' k→cD w.heap H ρ' D' B p) (tQ:B≠ .dead)
   (qM:∀x,fa B p x→0<p.2 x) :
   ∃ ρ',aG Γ H ρ' {σ with af:=kU σ.af k B} a w∧(∀q,q≠k→ρ' q=ρ q)∧ρ' k=p:=by
 rcases hk with hk | ⟨hk,hp⟩
 · have r1:=r.qG (w':=w) (k:=k) (B:=B) (p:=p) hk (fun _ _ _=>rfl) (fun _ _=>rfl) (Ext.refl _) dG di hle (hB _ _ (fun q hq=>cL hq) (by rw[db]) (fun q hq=>fb.2 (.inr hq)) (fb.2 (.inl rfl))) tQ;refine⟨_, ?_,fun q hq=>cL hq,db _ _ _⟩;unfold kU;rw[hk];exact r1
 · have hz:∀x,(ρ k).2 x=0:=fun x=>by
    have:=r.b.af k _ (cK hk);rw[this]
   obtain⟨pv,ps⟩:=p;simp only at hp;subst hp
   have r1:=r.zv (w':=w) (k:=k) hne (B:=B) (p:=ps) (eH hk) hz (fun _ _ _=>rfl) (Ext.refl _)
    (hB (cH ρ k ((ρ k).1,ps)) (av (bK σ.af k B)) (fun q hq=>cL hq) (by rw[db]) (fun q hq=>dR.2 hq) (dR.2 (eH hk))) qM di hle
   refine⟨_, ?_,fun q hq=>cL hq,db _ _ _⟩;unfold kU;rw[hk];exact r1
theorem aG.KI {ρ:aF} {σ:SS} (r:aG Γ H ρ σ a w) {k:Nat} {E:an} {xs:Unit→List E.α} (hk:aL σ.af k=some .dead) (hv:RL H (.list E xs) (ρ k).1):aG Γ H ρ {σ with af:=bK σ.af k (.view E xs)} a w:=by
 have hz:(ρ k).2=fun _=>0:=r.b.af k _ (cK hk);have hd:av (bK σ.af k (.view E xs))=av σ.af:=z5;refine⟨⟨fun j hj=>r.b.oc j (hd▸hj),by rw[qz]; exact r.b.nd,r.b.h0,r.b.hh,fun j B hj=> ?_,fun x=> ?_,fun j B hj x hx=> ?_,fun j B hj x hx=> ?_⟩, ?_,r.d,r.n,fun p hp=> ?_,fun p hp=> ?_⟩
 · show cD w.heap H ρ (av (bK σ.af k (.view E xs))) B (ρ j);rw[hd];rcases jd r.b.nd hj with⟨rfl,rfl⟩ | ⟨_,h⟩
   · exact⟨hv,hz⟩
   · exact r.b.af j B h
 · have h1:=qA (ρ:=ρ) (ρ':=ρ) r.b.nd (B:= .view E xs) (eH hk) (fun _ _=>rfl) x;have h2:=r.b.sum x;show aP ρ (bK σ.af k (.view E xs)) x≤1;omega
 · rcases jd r.b.nd hj with⟨rfl,rfl⟩ | ⟨_,h⟩
   · rw[hz] at hx; simp at hx
   · exact r.b.fresh j B h x hx
 · rcases jd r.b.nd hj with⟨rfl,rfl⟩ | ⟨_,h⟩
   · exact hx.elim
   · exact r.b.gn j B h x hx
 · show mq H ρ (av (bK σ.af k (.view E xs))) σ.env a.tmps;rw[hd]; exact r.e
 · have:=r.hd p hp;exact⟨by show av (bK σ.af k (.view E xs)) p.1; rw[hd]; exact this.1,this.2⟩
 · have:=r.hm p hp;exact⟨by show av (bK σ.af k (.view E xs)) p.1; rw[hd]; exact this.1,this.2⟩
theorem aG.kj {ρ:aF} {bs:List (Nat × ak)}:∀(ks:List Nat) {σ:SS},aG Γ H ρ σ a w→(∀k∈ks,∀(E:an) (xs:Unit→List E.α),aL bs k=some (.view E xs)→RL H (.list E xs) (ρ k).1)→
   aG Γ H ρ {σ with af:=Go.Proofs.YtpklefhdkkegiaaGreat.kj bs ks σ.af} a w∧av (Go.Proofs.YtpklefhdkkegiaaGreat.kj bs ks σ.af)=av σ.af
 | [],σ,r,_=>⟨r,rfl⟩
 | k ::ks,σ,r,h=>by
   have h':=fun j hj=>h j (List.mem_cons_of_mem _ hj);simp only[Go.Proofs.YtpklefhdkkegiaaGreat.kj]
   split
   · rename_i E xs hg
     split
     · rename_i hk;obtain⟨q1,q2⟩:=aG.kj ks (r.KI hk (h k List.mem_cons_self E xs hg)) h';exact⟨q1,q2.trans z5⟩
     · exact aG.kj ks r h'
   · exact aG.kj ks r h'
theorem aG.z6 {m :Nat→Nat} {n:Nat} {H':Hp} {ρ2:aF} {D2:Nat→Prop}:∀(l:List (Nat × ak)) {ρ:aF} {σ:SS},aG Γ H ρ σ a w→(∀p∈Γ.hd,∀j B,(j,B)∈l→p.1≠m j)→
   (l.all (uB n)=true)→(∀j B,(j,B)∈l→cD w.heap H' ρ2 D2 B (ρ2 j)∧(ρ2 j).1.oneCell'=true∧(aL σ.af (m j)=none∨(aL σ.af (m j)=some .dead∧(ρ2 j).1=(ρ (m j)).1)))→
   (∀j B,(j,B)∈l→∀x,0<(ρ2 j).2 x→H x=none∧aP ρ σ.af x=0)→(∀x,aP ρ2 l x≤1)→((l.map fun p=>m p.1).Nodup)→(∀j,j<n→D2 j→av σ.af (m j)∧(ρ2 j).1=(ρ (m j)).1)→(∀j B,(j,B)∈l→D2 j)→
   ∃ ρ',aG Γ H ρ' {σ with af:=pA m l σ.af} a w∧(∀q,av σ.af q→av (pA m l σ.af) q)∧(∀q,q∉l.map (fun p=>m p.1)→ρ' q=ρ q)∧(∀j B,(j,B)∈l→av (pA m l σ.af) (m j)∧ρ' (m j)=ρ2 j)
 | [],ρ,σ,r,_,_,_,_,_,_,_,_=>⟨ρ,r,fun q hq=>hq,fun q _=>rfl,fun j B hj=>by cases hj⟩
 | (j, B) :: l, ρ,σ,r,hne,cj,gb,di,eS,kM,eM,hD=>by
   by_cases kQ:B = .dead
   · subst kQ;simp only[List.all_cons,Bool.and_eq_true] at cj;simp only[List.map_cons,List.nodup_cons] at kM
     obtain⟨ρ',r',g3,g4,g5⟩:=aG.z6 (m:=m) (n:=n) (H':=H') (ρ2:=ρ2) (D2:=D2) l r (fun p hp j' B' h=>hne p hp j' B' (List.mem_cons_of_mem _ h)) cj.2 (fun j' B' h=>gb j' B' (List.mem_cons_of_mem _ h)) (fun j' B' h=>di j' B' (List.mem_cons_of_mem _ h))
       (fun x=>by have:=eS x; simp only[aP] at this; omega) kM.2 eM (fun j' B' h=>hD j' B' (List.mem_cons_of_mem _ h))
     refine⟨ρ',r',g3,fun q hq=>g4 q fun h=>hq (List.mem_cons_of_mem _ h),fun j' B' h=> ?_⟩;rcases List.mem_cons.1 h with h | h
     · cases h;obtain⟨hB,_,hk⟩:=gb j .dead List.mem_cons_self
       have hj:j<n:=by
         have:=cj.1;simp only[uB,Bool.and_eq_true,decide_eq_true_eq] at this;exact this.2
       obtain⟨q1,q2⟩:=eM j hj (hD j _ List.mem_cons_self);rcases hk with hk | ⟨hk,_⟩
       · exact(ir hk q1).elim
       · refine⟨g3 _ q1, ?_⟩;rw[g4 _ kM.1];have e1:(ρ (m j)).2=fun _=>0:=r.b.af _ _ (cK hk);have e2:(ρ2 j).2=fun _=>0:=hB;exact Prod.ext q2.symm (by rw[e1,e2])
     · exact g5 j' B' h
   have eg:∀bs,pA m ((j,B)::l) bs=pA m l (kU bs (m j) (B.cO m)):=fun bs=>by
     cases B with
     | dead=>exact(kQ rfl).elim
     | _=>rfl
   simp only[eg];simp only[List.all_cons,Bool.and_eq_true] at cj;simp only[List.map_cons,List.nodup_cons] at kM;obtain⟨hB,dG,hk⟩:=gb j B List.mem_cons_self;have hle:∀x,(ρ2 j).2 x≤1:=fun x=>by have:=eS x; simp only[aP] at this; omega
   have lV:=cj.1;unfold uB at lV;simp only[Bool.and_eq_true] at lV
   obtain ⟨ρ1, r1,g1,g2⟩:=r.KH (B:=B.cO m) (p:=ρ2 j) (fun p hp=>hne p hp j B List.mem_cons_self) hk dG (di j B List.mem_cons_self) hle (fun ρ' D' h1 KJ h2 h3=>by
       cases B with
       | own E xs l=>exact hB
       | box cs=>
         obtain⟨b,vs,e,fz,e1,e2,e3,e4,e5⟩:=hB;refine⟨b,vs,e,fz,e1,e2,e3,e4,by rw[rQ]; exact e5.1,fun q c hq=> ?_⟩;obtain⟨c0,gv,rfl⟩:=rP hq;have hc:=e5.2 q c0 gv;have lW:=List.all_eq_true.1 lV.2 c0 (List.mem_of_getElem? gv);cases c0 with
         | own k=>
           simp only[C.bk,decide_eq_true_eq] at lW;obtain⟨f1,f2⟩:=hc;obtain⟨f3,f4⟩:=eM k lW f1;refine⟨h2 _ f3, ?_⟩;rw[f2]
           by_cases nX:m k=m j
           · rw[nX,KJ,f4,nX];rcases hk with hk | ⟨hk,bw⟩
             · exact(ir hk (nX▸f3)).elim
             · exact bw.symm
           · rw[h1 _ nX]; exact f4
         | lf l=>cases l <;> first | exact(RC.cl (H':=H) (ρ:=ρ') (D:=D') (c:= .lf _) (by first | exact hc) rfl) | exact(by cases lW)
         | bl b=>exact hc
         | nil=>exact hc
         | undef=>trivial
         | ptr k off=>cases lW
         | el E x off=>cases lW
         | bN ls off=>cases lW
         | en k E i off=>cases lW
         | pre k n=>cases lW
         | fn f l=>cases lW
       | dead=>exact(kQ rfl).elim
       | view E xs=>cases lV.2
       | mp m=>cases lV.2
       | bP E xs i fs=>cases lV.2) (by cases B <;> simp[ak.cO] at lV kQ ⊢) (fun x hx=>by
       cases B with
       | own E xs l=>cases l with
         | false=>exact hx
         | true=>cases lV.2
       | box cs=>exact hx
       | dead=>exact(kQ rfl).elim
       | view E xs=>cases lV.2
       | mp m=>cases lV.2
       | bP E xs i fs=>cases lV.2)
   have cM:∀j' B',(j',B')∈l→m j'≠m j:=fun j' B' h he=>kM.1 (by rw[←he]; exact List.mem_map.2 ⟨_,h,rfl⟩)
   have fE :∀x,aP ρ1 (kU σ.af (m j) (B.cO m)) x=aP ρ σ.af x+(ρ2 j).2 x:=fun x=>by
     unfold kU
     split
     · rename_i A hA;have h1:=qA (ρ:=ρ) (ρ':=ρ1) r.b.nd (B:=B.cO m) (eH hA) (fun q hq=>g1 q hq) x;rw[g2] at h1
       have h2:(ρ (m j)).2 x=0:=by
         rcases hk with hk | ⟨hk,_⟩
         · rw[hk] at hA; cases hA
         · have:=r.b.af _ _ (cK hk); rw[this]
       omega
     · rename_i hA;rw[v5,g2,tF (ρ:=ρ) (ρ':=ρ1) fun q hq=>g1 q fun he=>ir hA (he▸hq)];omega
   obtain ⟨ρ', r',g3,g4,g5⟩:=aG.z6 (m:=m) (n:=n) (H':=H') (ρ2:=ρ2) (D2:=D2) l r1 (fun p hp j' B' h=>hne p hp j' B' (List.mem_cons_of_mem _ h)) cj.2
     (fun j' B' cF=>by
       obtain⟨q1,q2,q3⟩:=gb j' B' (List.mem_cons_of_mem _ cF);have hne:=cM j' B' cF;refine⟨q1,q2, ?_⟩
       have eD : aL (kU σ.af (m j) (B.cO m)) (m j')=aL σ.af (m j'):=by
         unfold kU
         split
         · have :∀bs:List (Nat × ak),aL (bK bs (m j) (B.cO m)) (m j')=aL bs (m j'):=by
             intro bs
             induction bs with
             | nil=>rfl
             | cons p bs ih=>
               simp only[bK]
               split
               · rename_i hp;simp only[aL,hp,if_neg (Ne.symm hne)]
               · simp only[aL,ih]
           exact this _
         · have :∀bs:List (Nat × ak),aL (cU bs (m j) (B.cO m)) (m j')=aL bs (m j'):=by
             intro bs
             induction bs with
             | nil=>simp only[cU,aL,if_neg (Ne.symm hne)]
             | cons p bs ih=>
               simp only[cU]
               split
               · simp only[aL,if_neg (Ne.symm hne)]
               · simp only[aL,ih]
           exact this _
       rw[eD,g1 _ hne];exact q3)
     (fun j' B' cF x hx=>by
       obtain⟨q1,q2⟩:=di j' B' (List.mem_cons_of_mem _ cF) x hx;refine⟨q1, ?_⟩;show aP ρ1 (kU σ.af (m j) (B.cO m)) x=0;rw[fE,q2];have h1:=eS x;have h2:=lG (ρ:=ρ2) cF x;simp only[aP] at h1;omega)
     (fun x=>by have:=eS x; simp only[aP] at this; omega) kM.2
     (fun q hq hD=>by
       obtain⟨q1,q2⟩:=eM q hq hD;refine⟨zZ.2 (.inr q1), ?_⟩
       by_cases he:m q=m j
       · rw[he,g2];rw[q2,he];rcases hk with hk | ⟨_,hk⟩
         · exact(ir hk (he▸q1)).elim
         · exact hk.symm
       · rw[g1 _ he]; exact q2) (fun j' B' h=>hD j' B' (List.mem_cons_of_mem _ h))
   refine⟨ρ',r',fun q hq=>g3 q (zZ.2 (.inr hq)),fun q hq=> ?_,fun j' B' cF=> ?_⟩
   · simp only[List.map_cons,List.mem_cons,not_or] at hq;rw[g4 q hq.2,g1 q hq.1]
   · rcases List.mem_cons.1 cF with h | h
     · cases h;exact⟨g3 _ (zZ.2 (.inl rfl)),by rw[g4 _ kM.1,g2]⟩
     · exact g5 j' B' h
end
theorem KK {bs:List (Nat × ak)} {k j:Nat} {B:ak} (h:j≠k):aL (bK bs k B) j=aL bs j:=by
 induction bs with
 | nil=>rfl
 | cons p bs ih=>
   simp only[bK]
   split
   · rename_i hp;simp only[aL,hp,if_neg (Ne.symm h)]
   · simp only[aL,ih]
theorem Ea:∀{ks:List Nat} {bs:List (Nat × ak)} {k:Nat},av bs k→(k∈ks∨aL bs k=some .dead)→aL (eK bs ks) k=some .dead
 | [],bs,k,_,h=>h.resolve_left (by simp)
 | j :: ks,bs,k,hd,h=>by
   simp only[eK];refine Ea (dR.2 hd) ?_
   by_cases hk:k=j
   · subst hk; exact .inr (zu hd)
   · rw [KK hk];rcases h with h | h
     · rcases List.mem_cons.1 h with h | h
       · exact(hk h).elim
       · exact .inl h
     · exact .inr h
theorem Eb:∀{ks r:List Nat} {bs:List (Nat × ak)} {nb:List ak},uz bs ks r=some nb→nb.length=r.length∧∀(j:Nat) B,nb[j]? = some B→∃k A,r[j]? = some k∧aL bs k=some A∧sg ks (some A)=some B
 | ks,[],bs,nb,h=>by simp only[uz,Option.some.injEq] at h; subst h; exact⟨rfl,fun j B hj=>by simp at hj⟩
 | ks, k ::r,bs,nb,h=>by
   simp only[uz] at h
   split at h
   · rename_i B l h1 h2;cases h;obtain⟨g1,g2⟩:=Eb h2;refine⟨by simp[g1],fun j B' hj=> ?_⟩;cases j with
     | zero=>
       simp at hj; subst hj;cases hg:aL bs k with
       | none=>rw[hg] at h1; simp[sg] at h1
       | some A=>exact⟨k,A,rfl,hg,by rw[←hg]; exact h1⟩
     | succ j=>simpa using g2 j B' (by simpa using hj)
   · cases h
theorem z7 {ks:List Nat} {A B:ak} (h:sg ks (some A)=some B):(∃E xs,A = .own E xs false∧B = .own E xs false)∨(∃cs,A = .box cs∧cs.all (C.box ks)=true∧B = .box (ji (place ks) cs))∨∃E xs,A = .view E xs∧B = .view E xs:=by
 unfold sg at h
 split at h
 · rename_i E xs hA; cases hA; cases h; exact .inl ⟨E,xs,rfl,rfl⟩
 · rename_i E xs hA; cases hA; cases h; exact .inr (.inr ⟨E,xs,rfl,rfl⟩)
 · rename_i cs hA;cases hA
   split at h
   · rename_i hc; cases h; exact .inr (.inl ⟨cs,rfl,hc,rfl⟩)
   · cases h
 · cases h
theorem Ec {ks xs:List Nat} {k:Nat} (h:k∈ks∨k∈xs):k∈pz ks xs:=by
 induction xs generalizing ks with
 | nil=>simpa [pz] using h
 | cons x xs ih=>
   simp only[pz]
   split
   · rename_i hc;refine ih ?_;rcases h with h | h
     · exact .inl h
     · rcases List.mem_cons.1 h with rfl | h
       · exact .inl (by simpa using hc)
       · exact .inr h
   · refine ih ?_;rcases h with h | h
     · exact .inl (List.mem_append_left _ h)
     · rcases List.mem_cons.1 h with rfl | h
       · exact .inl (List.mem_append_right _ List.mem_cons_self)
       · exact .inr h
theorem KL {cs:List C} {c:C} {k:Nat} (hc:c∈cs) (hk:k∈c.nm):k∈uy cs:=by
 induction cs with
 | nil=>cases hc
 | cons x cs ih=>
   simp only[uy,List.mem_append];cases hc with
   | head=>exact .inl hk
   | tail _ hc=>exact .inr (ih hc)
section
variable {H H1 : Hp} {ρ ρ1 : aF} {D D1 : Nat → Prop} {ks : List Nat}
theorem RC.hand (gR:∀k,k∈ks→D1 (place ks k)∧(ρ1 (place ks k)).1=(ρ k).1) {c:C} {v:Value} (h:RC H ρ D c v) (hp:c.pass=true) (hn:∀k∈c.nm,k∈ks):RC H1 ρ1 D1 (c.cO (place ks)) v:=by
 cases c with
 | own k=>
   obtain⟨_,h1⟩:=h;have:=gR k (hn k (by simp[C.nm]));exact⟨this.1,by rw[this.2]; exact h1⟩
 | ptr k off=>
   obtain⟨_,b,h1,h2⟩:=h;have:=gR k (hn k (by simp[C.nm]));exact⟨this.1,b,by rw[this.2]; exact h1,h2⟩
 | lf l=>cases l <;> first | exact(RC.cl (H':=H1) (ρ:=ρ1) (D:=D1) (c:= .lf _) (by first | exact h) rfl) | exact(by cases hp)
 | bl b=>exact h
 | nil=>exact h
 | undef=>trivial
 | el E x off=>cases hp
 | bN ls off=>cases hp
 | en k E i off=>cases hp
 | pre k n=>cases hp
 | fn f l=>cases hp
theorem RV.hand (gR:∀k,k∈ks→D1 (place ks k)∧(ρ1 (place ks k)).1=(ρ k).1) {c:V} {v:Value} (h:RV H ρ D c v) (hp:c.pass=true) (hn:∀k∈c.nm,k∈ks):RV H1 ρ1 D1 (c.cO (place ks)) v:=by
 cases c with
 | c x=>exact RC.hand gR h hp hn
 | agg cs=>
   obtain⟨vs,h1,h2⟩:=h;refine⟨vs,h1,by rw[rQ]; exact h2.1,fun j c hj=> ?_⟩;obtain⟨c0,gv,rfl⟩:=rP hj;exact RC.hand gR (h2.2 j c0 gv) (List.all_eq_true.1 hp c0 (List.mem_of_getElem? gv)) fun k hk=>hn k (KL (List.mem_of_getElem? gv) hk)
 | ba cs=>cases hp
theorem sh {tab:aX} {bs:List (Nat × ak)}:∀{vs:List V} {ms:List Bool} {Ts:List TypeId},(h_ tab bs ks ms Ts vs).length=vs.length
 | [],ms,Ts=>by cases ms <;> simp[h_]
 | v ::vs,ms,Ts=>by
   rcases ms with _ | ⟨m,ms⟩
   · cases Ts <;> simp[h_,sh (vs:=vs)]
   · cases m <;> cases Ts <;> simp[h_,sh (vs:=vs)]
def z8 (tab:aX) (bs:List (Nat × ak)) (x:V):List TypeId→V
 | T::_=>wT tab bs T x
 | []=> .c .undef
theorem Ed {w:World} {tab:aX} {bs:List (Nat × ak)} (L:wU w H H1 ρ D bs) (gR:∀k,k∈ks→D1 (place ks k)∧(ρ1 (place ks k)).1=(ρ k).1) :
   ∀ {vs:List V} {ms:List Bool} {Ts:List TypeId} {us:List Value},(∀(j:Nat) c v,vs[j]? = some c→us[j]? = some v→RV H ρ D c v)→oa bs ms vs=true→(∀k∈iQ ms vs,k∈ks)→vs.length=us.length→
   ∀ (j:Nat) c v,(h_ tab bs ks ms Ts vs)[j]? = some c→us[j]? = some v→RV H1 ρ1 D1 c v
 | [],ms,Ts,us,_,_,_,_,j,c,v,h,_=>by rcases ms with _ | ⟨m,ms⟩ <;> simp[h_] at h
 | x::vs,ms,Ts,[],_,_,_,hl,_,_,_,_,_=>by simp at hl
 | x :: vs,ms,Ts,u::us,hv,ho,hn,hl,j,c,v,h,h'=>by
   have rest:∀{ms':List Bool} {Ts':List TypeId},oa bs ms' vs=true→(∀k∈iQ ms' vs,k∈ks)→∀(j:Nat) c v,(h_ tab bs ks ms' Ts' vs)[j]? = some c→us[j]? = some v→RV H1 ρ1 D1 c v:=fun g1 g2=>
     Ed L gR (fun j c v q1 q2=>hv (j+1) c v (by simpa using q1) (by simpa using q2)) g1 g2 (by simpa using hl)
   have ro:∀{ms':List Bool},x.n0 bs=true→oa bs ms' vs=true→(∀k∈iQ ms' vs,k∈ks)→h_ tab bs ks ms Ts (x::vs)=z8 tab bs x Ts::h_ tab bs ks ms' Ts.tail vs→RV H1 ρ1 D1 c v:=by
     intro ms' g1 g2 g3 ge;rw[ge] at h;cases j with
     | zero=>
       simp only[List.getElem?_cons_zero,Option.some.injEq] at h h';subst h; subst h';cases Ts with
       | nil=>trivial
       | cons T Ts=>exact D7 L (hv 0 x u rfl rfl) g1
     | succ j=>exact rest g2 g3 j c v (by simpa using h) (by simpa using h')
   rcases ms with _ | ⟨m,ms⟩
   · simp only[oa,Bool.and_eq_true] at ho;refine ro (ms':=[]) ho.1 ho.2 (fun k hk=>by cases vs <;> simp[iQ] at hk) ?_;cases Ts <;> simp[h_,z8]
   · cases m with
     | false=>
       simp only[oa,Bool.and_eq_true,List.tail_cons] at ho;refine ro (ms':=ms) ho.1 ho.2 (fun k hk=>hn k (by simpa [iQ] using hk)) ?_;cases Ts <;> simp[h_,z8]
     | true=>
       simp only[oa,Bool.and_eq_true] at ho;cases j with
       | zero=>
         simp only[h_,List.getElem?_cons_zero,Option.some.injEq] at h h';subst h; subst h';exact RV.hand gR (hv 0 x u rfl rfl) ho.1 fun k hk=>hn k (by simp[iQ,hk])
       | succ j=>exact rest (ms':=ms) (Ts':=Ts.tail) ho.2 (fun k hk=>hn k (by simp[iQ,hk])) j c v (by simpa [h_] using h) (by simpa using h')
end
theorem Ee {m:Nat→Nat}:∀{l:List (Nat × ak)},(l.map (·.1)).Nodup→(∀p∈l,∀q∈l,m p.1=m q.1→p.1=q.1)→(l.map fun p=>m p.1).Nodup
 | [],_,_=>by simp
 | p ::l,hn,hi=>by
   simp only[List.map_cons,List.nodup_cons] at hn ⊢;refine⟨fun hm=> ?_,Ee hn.2 fun a ha b hb=>hi a (List.mem_cons_of_mem _ ha) b (List.mem_cons_of_mem _ hb)⟩;obtain⟨q,hq,he⟩:=List.mem_map.1 hm;refine hn.1 (List.mem_map.2 ⟨q,hq, ?_⟩);exact hi q (List.mem_cons_of_mem _ hq) p List.mem_cons_self he
section
variable {P : Program} {tab : aX} {Γ : Ctx} {H : Hp} {ρ : aF} {σ : SS} {a : Act} {w : World} (r : aG Γ H ρ σ a w)
include r
theorem Ef {o : Oper} {f:FuncId} {l:List Cp} {ms:List Bool} {c:Call} (hne:∀p∈Γ.hd,p.1∉gu σ.af ms (c.args.toList.map σ.ev)) {d:Nat} {K:SS→Prop} {Q:Exit→Act→World→Prop} (hc:fp σ o=some (.c (.fn f l),c)) (hd:o.dst=some d) (h:zY P tab σ f l ms c d K) :
   o.wp P a w (fun a' w'=>∃aw,K aw∧(∃ρ',aG Γ H ρ' aw a' w')∧∀j,av σ.af j→j∉gu σ.af ms (c.args.toList.map σ.ev)→∀x,0<(ρ j).2 x→w'.heap[x]? = w.heap[x]?) Q:=by
 unfold zY at h;generalize gR:gu σ.af ms (c.args.toList.map σ.ev)=ks at h hne ⊢
 split at h
 · rename_i nb y8
   split at h
   · rename_i qE;obtain⟨gG,Q7,uC,zW,yW,cj⟩:=qE;obtain⟨hlen,eD⟩:=Eb y8
     have KM:∀k∈iQ ms (c.args.toList.map σ.ev),k∈ks:=fun k hk=>by
       rw[←gR]; exact Ec (.inl (Ec (.inr hk)))
     let kV:aF:=fun j=>ρ (ks.getD j 0)
     have wW:∀(j k:Nat),ks[j]? = some k→kV (0+j)=ρ k:=fun j k hj=>by
       simp only[kV,Nat.zero_add,List.getD_eq_getElem?_getD,hj,Option.getD_some]
     have Eg:∀k∈ks,∃A,aL σ.af k=some A∧((∃E xs,A = .own E xs false)∨(∃cs,A = .box cs)∨∃E xs,A = .view E xs):=fun k hk=>by
       obtain⟨j,hj,lN⟩:=List.getElem_of_mem hk;obtain⟨B,hB⟩:∃B,nb[j]? = some B:=⟨_,List.getElem?_eq_getElem (by omega)⟩;obtain⟨k',A,h1,h2,h3⟩:=eD j B hB;rw[List.getElem?_eq_getElem hj,lN] at h1;cases h1;refine⟨A,h2, ?_⟩;rcases z7 h3 with⟨E,xs,rfl,_⟩ | ⟨cs,rfl,_⟩ | ⟨E,xs,rfl,_⟩
       · exact .inl ⟨E,xs,rfl⟩
       · exact .inr (.inl ⟨cs,rfl⟩)
       · exact .inr (.inr ⟨E,xs,rfl⟩)
     have fD:∀k∈ks,av σ.af k:=fun k hk=>by obtain⟨A,h1,_⟩:=Eg k hk; exact eH h1
     have KN:∀k∈ks,∀x,0<(ρ k).2 x→H x=none:=fun k hk x hx=>by
       obtain⟨A,h1,h2⟩:=Eg k hk;rcases h2 with⟨E,xs,rfl⟩ | ⟨cs,rfl⟩ | ⟨E,xs,rfl⟩
       · exact r.b.gn k _ (cK h1) x hx
       · exact r.b.gn k _ (cK h1) x hx
       · rw[(r.b.af k _ (cK h1)).2] at hx; simp at hx
     have Eh:∀x,0<bI ρ ks x→H x=none:=fun x hx=>by
       obtain⟨k,hk,h1⟩:=wE hx;exact KN k hk x h1
     have z_:∀x,aP kV (num 0 nb) x=bI ρ ks x:=fun x=>y6 hlen wW
     have Ei:∀k∈ks,av (num 0 nb) (place ks k)∧(kV (place ks k)).1=(ρ k).1:=fun k hk=>by
       have h1:=y7 hk;refine⟨mA.2 ⟨Nat.zero_le _,by rw[Nat.zero_add,hlen]; exact bD h1⟩, ?_⟩;have:=wW _ _ h1;rw[Nat.zero_add] at this;rw[this]
     let H1:Hp:=eI w (aP kV (num 0 nb))
     have wX:∀x,bI ρ ks x=0→H1 x=w.heap[x]? :=fun x hx=>by
       simp only[H1,eI,z_,hx,if_true]
     have Ej:∀x o,H1 x=some o→w.heap[x]? = some o∧bI ρ ks x=0:=fun x o hx=>by
       simp only[H1,eI,z_] at hx
       split at hx
       · rename_i h0; exact⟨hx,h0⟩
       · cases hx
     have Aa:∀b o,H b=some o→H1 b=some o:=fun b o hb=>by
       rw[wX b ?_]
       · exact r.b.hh b o hb
       · rcases Nat.eq_zero_or_pos (bI ρ ks b) with h0 | h0
         · exact h0
         · rw[Eh b h0] at hb; cases hb
     have Ek:wU w H H1 ρ (av σ.af) (kT ks σ.af):=⟨Aa,fun k B hk=>by
       obtain⟨h1,h2⟩:=KF hk;refine⟨r.b.af k B (cK h1),fun x hx=>wX x ?_⟩;have h3:=kL (ρ:=ρ) (k::ks) (bs:=σ.af) (by simp[dL,h2,uC]) (fun j hj=>by rcases List.mem_cons.1 hj with rfl | hj; exact eH h1; exact fD j hj) x;have h4:=r.b.sum x;simp only[bI] at h3;omega⟩
     have KO : fl w.heap H1 H1 kV (num 0 nb):=by
       have dG:∀j B,(j,B)∈num 0 nb→∃k A,ks[j]? = some k∧aL σ.af k=some A∧sg ks (some A)=some B∧kV j=ρ k:=fun j B hj=>by
         obtain⟨_,h1⟩:=oY.1 hj;obtain⟨k,A,h2,h3,h4⟩:=eD j B (by simpa using h1);exact⟨k,A,h2,h3,h4,by have:=wW j k h2; rwa [Nat.zero_add] at this⟩
       have El:∀j B x,(j,B)∈num 0 nb→0<(kV j).2 x→H1 x=none:=fun j B x hj hx=>by
         have h1:=lG (ρ:=kV) hj x;simp only[H1,eI];rw[if_neg (by omega)]
       refine⟨fun j hj=> ?_,y5,fun _ _ h=>h,fun b o hb=>(Ej b o hb).1,fun j B hj=> ?_,fun x=> ?_,fun j B hj x hx=>El j B x hj hx,fun j B hj x hx=>El j B x hj ?_⟩
       · obtain⟨⟨j',B⟩,tW,rfl⟩:=List.mem_map.1 hj;obtain⟨k,A,_,h2,_,h4⟩:=dG j' B tW;simp only;rw[h4]; exact r.b.oc k (eH h2)
       · obtain ⟨k,A,h1,h2,h3,h4⟩:=dG j B hj;have hA:=r.b.af k A (cK h2);rw[h4];rcases z7 h3 with⟨E,xs,rfl,rfl⟩ | ⟨cs,rfl,cV,rfl⟩ | ⟨E,xs,rfl,rfl⟩;rotate_right
         · exact⟨hA.1.mono Aa,hA.2⟩
         · exact hA
         · obtain⟨b,vs,e,fz,e1,e2,e3,e4,e5⟩:=hA;refine⟨b,vs,e,fz,e1,e2,e3,e4,by rw[rQ]; exact e5.1,fun q cq hq=> ?_⟩;obtain⟨c0,gv,rfl⟩:=rP hq;have hb:=List.all_eq_true.1 cV c0 (List.mem_of_getElem? gv);have KP:=e5.2 q c0 gv;refine RC.hand (fun k hk=>Ei k hk) KP ?_ ?_
           · cases c0 <;> first | rfl | exact hb | exact(by cases hb)
           · intro k hk;cases c0 with
             | own k'=>
               simp only[C.nm,List.mem_singleton] at hk;subst hk;simpa [C.box] using hb
             | ptr k' off=>cases hb
             | _=>simp[C.nm] at hk
       · rw[z_];exact Nat.le_trans (kL ks uC fD x) (r.b.sum x)
       · obtain⟨k,A,h1,h2,h3,h4⟩:=dG j B hj;rcases z7 h3 with⟨E,xs,rfl,rfl⟩ | ⟨cs,rfl,cV,rfl⟩ | ⟨E,xs,rfl,rfl⟩
         · exact hx
         · exact hx
         · exact hx.elim
     unfold fp at hc
     split at hc
     · rename_i c0 aQ
       split at hc
       · rename_i x dA;simp only[Option.some.injEq,Prod.mk.injEq] at hc;obtain⟨hx,rfl⟩:=hc;obtain⟨post,⟨⟨fn,n_,kS,zX⟩,hs⟩,hk⟩:=h;have ev:=iu r.e x;rw[hx] at ev;obtain⟨vs,e1,e2,e3⟩:=ev
         have b_:(execOp a.eval o).run P w = .ok (.enter f (c0.args.map a.eval++vs)) w:=by
           simp only[execOp,aQ,resolve,dA,Deferred.ofValue,e1,Sem.run_bind,Sem.run_pure,Result.andThen_ok,invoke,callFunc,run_program,n_,kS,zX];simp
         have du:args H1 kV (av (num 0 nb)) (h_ tab (kT ks σ.af) ks ms c0.argTypes.toList (c0.args.toList.map σ.ev)++l.map (sd (kT ks σ.af))) (c0.args.map a.eval++vs):=by
           refine⟨by simp[sh,e2],fun j cv hj=> ?_⟩;rw[Array.getD_eq_getD_getElem?]
           by_cases aR:j<c0.args.size
           · rw[List.getElem?_append_left (by simpa [sh] using aR)] at hj;rw[Array.getElem?_append_left (by simpa using aR)];have h1:(c0.args.map a.eval).toList[j]? = some (a.eval c0.args[j]):=by simp[aR]
             have h2:=Ed Ek Ei (tO r c0.args) cj KM (by simp) j cv _ hj h1;simpa [aR] using h2
           · rw[List.getElem?_append_right (by simpa [sh] using Nat.le_of_not_lt aR)] at hj;rw[Array.getElem?_append_right (by simpa using Nat.le_of_not_lt aR)];simp only[sh,List.length_map,Array.length_toList,Array.size_map,List.getElem?_map,Option.map_eq_some_iff] at hj ⊢;obtain⟨c1,h1,rfl⟩:=hj;have h2:=e3 _ c1 h1;have h3:=List.all_eq_true.1 zW c1 (List.mem_of_getElem? h1);rw[←Array.getD_eq_getD_getElem?];exact D8 Ek h2 h3
         unfold Oper.wp;rw[b_];simp only[Oper.upon];refine(hs w _ kV KO du).mono fun e w' he=> ?_;obtain⟨v,rv,bX,H',ρ2,rfl,hp,hB,hv,KQ,KR⟩:=he;obtain⟨⟨Em,eJ⟩,hK⟩:=hk rv bX hp;have KS:∀x o,H1 x=some o→w'.heap[x]? = some o:=fun x o hx=>hB.hh x o (hB.h0 x o hx)
         have mN:∀x,x<w.heap.size→bI ρ ks x=0→w'.heap[x]? = w.heap[x]? :=fun x hx h0=>by
           rw[Array.getElem?_eq_getElem hx];exact KS x _ (by rw[wX x h0,Array.getElem?_eq_getElem hx])
         have En:=fun x=>ud (ρ:=ρ) (x:=x) r.b.nd uC fD;have r1:=r.eK fD
         have r2:=r1.move (w':=w') (fun b o hb=>by
             have h0:=(Ej b o (Aa b o hb)).2;exact mN b (jh (r.b.hh b o hb)) h0) (fun b hb=>by
             have h1:=En b;have h2:=r.b.sum b;have eE:0<aP (gV ρ ks) (Go.Proofs.YtpklefhdkkegiaaGreat.eK σ.af ks) b:=hb;exact mN b (r.lt (by omega)) (by omega)) KQ
         have od:∀j,j<nb.length→iS ks d j∈ks∧ks[j]? = some (iS ks d j):=fun j hj=>by
           have h1:ks[j]? = some ks[j]:=List.getElem?_eq_getElem (by omega)
           have h2:iS ks d j=ks[j]:=by
             simp only[iS];rw[if_pos (by omega),List.getD_eq_getElem?_getD,h1,Option.getD_some]
           exact⟨by rw[h2]; exact List.getElem_mem _,by rw[h2]; exact h1⟩
         have dM:∀j,j<nb.length→av bX j→(ρ2 j).1=(gV ρ ks (iS ks d j)).1:=fun j hj hD=>by
           rw[mE,KR j hD (mA.2 ⟨Nat.zero_le _,by omega⟩)];have:=wW j _ (od j hj).2;rw[Nat.zero_add] at this;rw[this]
         have qx:∀j B,(j,B)∈bX→j<nb.length∨(100≤j∧j<108):=fun j B hj=>by
           have:=List.all_eq_true.1 Em _ hj;simp only[uB,Bool.and_eq_true,Bool.or_eq_true,decide_eq_true_eq] at this;exact this.1
         have d_ :∀i,i<8→aL σ.af (8*d+i)=none:=fun i hi=>by
           have :∀bs:List (Nat × ak),se bs d=true→aL bs (8*d+i)=none:=by
             intro bs
             induction bs with
             | nil=>intro _; rfl
             | cons p bs ih=>
               intro ux;simp only[se,List.all_cons,Bool.and_eq_true,Bool.or_eq_true,decide_eq_true_eq] at ux;simp only[aL];rw[if_neg (by omega)];exact ih ux.2
           exact this _ gG
         have qT:∀j,100≤j→j<108→iS ks d j=8*d+(j - 100)∧aL σ.af (iS ks d j)=none:=fun j h1 h2=>by
           have:iS ks d j=8*d+(j - 100):=by simp only[iS]; rw[if_neg (by omega)]
           exact⟨this,by rw[this]; exact d_ _ (by omega)⟩
         have KU:∀j1 B1 j2 B2,(j1,B1)∈bX→(j2,B2)∈bX→iS ks d j1=iS ks d j2→j1=j2:=fun j1 B1 j2 B2 h1 h2 he=>by
           rcases qx j1 B1 h1 with k1 | ⟨k1,pB⟩ <;> rcases qx j2 B2 h2 with k2 | ⟨k2,Eo⟩
           · have q1:=(od j1 k1).2;have q2:=(od j2 k2).2;rw[←he] at q2;have kM:=KG uC;exact(List.getElem?_inj (i:=j1) (j:=j2) (by omega) kM).1 (q1.trans q2.symm)
           · have q1:=fD _ (od j1 k1).1;have q2:=(qT j2 k2 Eo).2;rw[←he] at q2;exact(ir q2 q1).elim
           · have q1:=fD _ (od j2 k2).1;have q2:=(qT j1 k1 pB).2;rw[he] at q2;exact(ir q2 q1).elim
           · rw[(qT j1 k1 pB).1,(qT j2 k2 Eo).1] at he;omega
         obtain ⟨ρ',r3,g1,g2,g3⟩:=aG.z6 (m:=iS ks d) (n:=nb.length) (H':=H') (ρ2:=ρ2) (D2:=av bX) bX r2 (fun p hp j B hj he=>by
             rcases qx j B hj with k1 | ⟨k1,pB⟩
             · exact hne p hp (by rw[he]; exact(od j k1).1)
             · exact ir (qT j k1 pB).2 (by rw[←he]; exact(r.hd p hp).1)) Em
           (fun j B hj=>by
             refine⟨hB.af j B hj,hB.oc j (o_ hj), ?_⟩;rcases qx j B hj with k1 | ⟨k1,pB⟩
             · exact .inr ⟨Ea (fD _ (od j k1).1) (.inl (od j k1).1),dM j k1 (o_ hj)⟩
             · exact .inl (zk (qT j k1 pB).2))
           (fun j B hj x hx=>by
             have h1:=hB.fresh j B hj x hx;have h2:=En x;have h3:=r.b.sum x;rcases Nat.lt_or_ge x w.heap.size with h4 | h4
             · have h5:0<bI ρ ks x:=by
                rcases Nat.eq_zero_or_pos (bI ρ ks x) with h0 | h0
                · rw[show eI w (aP kV (num 0 nb)) x=H1 x from rfl,wX x h0,Array.getElem?_eq_getElem h4] at h1;cases h1
                · exact h0
               exact⟨Eh x h5,by show aP (gV ρ ks) (Go.Proofs.YtpklefhdkkegiaaGreat.eK σ.af ks) x=0; omega⟩
             · have h5:=r.rO h4;exact⟨h5.1,by show aP (gV ρ ks) (Go.Proofs.YtpklefhdkkegiaaGreat.eK σ.af ks) x=0; omega⟩)
           hB.sum
           (Ee hB.nd fun p hp q hq he=>KU p.1 p.2 q.1 q.2 hp hq he)
           (fun j hj hD=>⟨uc.2 (fD _ (od j hj).1),dM j hj hD⟩) (fun j B hj=>o_ hj)
         have wL:∀k∈ks,(ρ' k).1=(ρ k).1:=fun k hk=>by
           by_cases hm:k∈bX.map fun p=>iS ks d p.1
           · obtain⟨⟨j,B⟩,hj,rfl⟩:=List.mem_map.1 hm;rw[(g3 j B hj).2];rcases qx j B hj with k1 | ⟨k1,pB⟩
             · rw[dM j k1 (o_ hj),mE]
             · exact(ir (qT j k1 pB).2 (fD _ hk)).elim
           · rw[g2 k hm,mE]
         obtain⟨r4,g4⟩:=aG.kj ks r3 fun k hk E xs hg=>by
           rw[wL k hk];exact(r.b.af k _ (cK hg)).1
         refine⟨_,hK,⟨ρ', ?_⟩,fun j hj lN x hx=> ?_⟩;rotate_left
         · have h3:=kL (ρ:=ρ) (j::ks) (bs:=σ.af) (by simp[dL,lN,uC]) (fun q hq=>by rcases List.mem_cons.1 hq with rfl | hq; exact hj; exact fD q hq) x;have h4:=r.b.sum x;simp only[bI] at h3;exact mN x (r.lt (by omega)) (by omega)
         rw[hd];refine aG.put r4 (RV.cO (m:=iS ks d) (D:=av bX) (ρ:=ρ2) (fun i hi=> ?_) (hv.grow (H':=H) (ρ':=ρ2) (D':=av bX) ⟨(fun _ _ h=>by cases h),(fun _ h=>⟨h,rfl⟩)⟩)) (some d);obtain⟨⟨i',B⟩,KV,rfl⟩:=List.mem_map.1 hi;obtain⟨q1,q2⟩:=g3 i' B KV;exact⟨by show av (Go.Proofs.YtpklefhdkkegiaaGreat.kj _ _ _) _; rw[g4]; exact q1,by rw[q2]⟩
       · cases hc
     · cases hc
   · cases h
 · cases h
theorem KW {o:Oper} (KX:eQ tab o=true→Γ.hd = []) {v:V} {c:Call} {K:SS→Prop} {Q:Exit→Act→World→Prop} (hc:fp σ o=some (v,c)) (h:wV P tab σ v c o.dst K) :
   o.wp P a w (fun a' w'=>∃aw,K aw∧mB Γ H (eQ tab o) w aw a' w') Q:=by
 generalize Ep:o.dst=dst at h;unfold wV at h
 split at h
 · rename_i f l d
   split at h
   · rename_i ms Ab
     have hw:eQ tab o=true:=by
      unfold fp at hc;unfold eQ
      split at hc
      · rename_i c0 aQ
        split at hc
        · rename_i x dA;simp only[Option.some.injEq,Prod.mk.injEq] at hc;obtain⟨hx,rfl⟩:=hc;rw[aQ];simp only[dA]
          split
          · cases ‹Callee.value x=_›
          · rename_i g heq;cases heq;simp only[SS.ev,V.c.injEq,C.fn.injEq] at hx;rw[hx.1,Ab]; rfl
          · rfl
        · cases hc
      · cases hc
     exact Oper.wp_mono (fun a' w' ⟨aw,h1,h2,_⟩=>⟨aw,h1,h2,fun hh=>by rw[hw] at hh; cases hh⟩) (Ef r (fun p hp=>by rw[KX hw] at hp; cases hp) hc Ep h)
   · exact KD r hc (by rw[Ep]; exact h)
 · cases h
end
def sj:V→Bool
 | .c (.own _)=>true
 | .c (.pre _ _)=>true
 | _=>false
def Ac:V→Bool
 | .c (.lf (.str _))=>true
 | _=>false
def Ad:V→Bool
 | .c (.en _ _ _ _)=>true
 | _=>false
def jE (tab:aX) (σ:SS) (o:Oper):Bool:=
 match o.op with
 | .load T x=>Ad (σ.ev x) && t_ tab T
 | .box _ _ | .alloc _ | .buildSlice _ _ _ | .store _ _ _ | .makeSlice _ _ _=>true
 | .slice _ x _ _ _=>sj (oU σ.af (σ.ev x))
 | .convert _ D x=>sj (σ.ev x) || (Ac (σ.ev x) && (match cz tab D with | some (.sl _ _ _)=>true | _=>false))
 | .makeMap _ _ | .lookup _ _ _ _ | .mapUpdate _ _ _ _=>true
 | .call c=>match c.callee with | .builtin .append=>true | .builtin .copy=>true | .builtin .clear=>true | .builtin .len=>(match c.argTypes.toList with | [T]=>(match cz tab T with | some (.mp _ _)=>true | _=>false) | _=>false) | _=>false
 | _=>false
def gX (P:Program) (tab:aX) (o:Oper) (σ:SS) (K:SS→Prop):Prop:=
 match fp σ o with
 | some (v,c)=>wV P tab σ v c o.dst K
 | none=>if jE tab σ o then sa tab o σ K else yS tab o σ fun v=>K (σ.put o.dst v)
def oe:V:= .ba []
def SS.gd (σ:SS) (d:Nat) (v:V):SS:={σ with env:=σ.env.set d v}
def wY (all:List Oper) (j:Nat):Option Nat:=(all[j]?).bind (·.dst)
def mP (P :Program) (tab:aX) (all:List Oper):List Oper→SS→(SS→Prop)→Prop
 | [],σ,K=>K σ
 | o :: rest,σ,K=>
   match o.guard with
   | none=>gX P tab o σ fun aw=>mP P tab all rest aw K
   | some (j,want)=>
     match wY all j with
     | some d=>
       match σ.env.getD d (.c .undef) with
       | .c (.bl b)=>if b=want then gX P tab o σ fun aw=>mP P tab all rest aw K else mP P tab all rest (σ.put o.dst oe) K
       | .ba []=>mP P tab all rest (σ.put o.dst oe) K
       | .c (.lf (.bool t))=>Br t fun b=>
        if b=want then gX P tab o (σ.gd d (.c (.bl b))) fun aw=>mP P tab all rest aw K else mP P tab all rest ((σ.gd d (.c (.bl b))).put o.dst oe) K
       | _=>False
     | none=>False
inductive pC where
 | env (slot:Nat) (E:an) (key:Nat)
 | box (bk cell:Nat) (E:an) (key:Nat)
def Er:V→Bool
 | .c .nil=>true
 | _=>false
def Es:C→Bool
 | .nil=>true
 | _=>false
def SS.sm (σ:SS):pC→Option SS
 | .env s E k=>
   match σ.env[s]?,aL σ.af k with
   | some v,none=>if Er v then some {env:=σ.env.set s (.c (.own k)),af:=cU σ.af k (.own E (fun _=>[]) false)} else none
   | _,_=>none
 | .box bk c E k=>
   match aL σ.af bk,aL σ.af k with
   | some (.box cs),none=>
     match cs[c]? with
     | some x=>if Es x then some {σ with af:=bK (cU σ.af k (.own E (fun _=>[]) false)) bk (.box (cs.set c (.own k)))} else none
     | none=>none
   | _,_=>none
def SS.oh (σ:SS):List pC→Option SS
 | []=>some σ
 | m::ms=>match σ.sm m with | some aw=>aw.oh ms | none=>none
def lk:List (Nat × Nat)→Nat→Option Nat
 | [],_=>none
 | p::r,k=>if p.1=k then some p.2 else lk r k
def Cp.rd:Cp→Bool
 | .ptr _ _=>false
 | _=>true
def C.dv (m:List (Nat × Nat)):C→C
 | .own k=>match lk m k with | some k'=> .own k' | none=> .undef
 | .ptr k off=>match lk m k with | some k'=> .ptr k' off | none=> .undef
 | .en k E i off=>match lk m k with | some k'=> .en k' E i off | none=> .undef
 | .pre k n=>match lk m k with | some k'=> .pre k' n | none=> .undef
 | .fn f l=>if l.all Cp.rd=true then .fn f l else .undef
 | c=>c
def kW (m:List (Nat × Nat)):List C→List C
 | []=>[]
 | c::cs=>c.dv m::kW m cs
def V.dv (m:List (Nat × Nat)):V→V
 | .c x=> .c (x.dv m)
 | .agg cs=> .agg (kW m cs)
 | .ba []=> .ba []
 | .ba _=> .c .undef
def kX (m:List (Nat × Nat)):List (Option Nat)→List (Option Nat)
 | []=>[]
 | none::fs=>none::kX m fs
 | some k::fs=>lk m k::kX m fs
def mQ (m:List (Nat × Nat)):List (Option Nat)→Bool
 | []=>true
 | none::fs=>mQ m fs
 | some k::fs=>match lk m k with | some _=>mQ m fs | none=>false
def Et:List (Option Nat)→Bool
 | []=>false
 | none::fs=>Et fs
 | some _::_=>true
def ak.dv (m:List (Nat × Nat)):ak→ak
 | .box cs=> .box (kW m cs)
 | .bP E xs i fs=> .bP E xs i (kX m fs)
 | B=>B
def ak.wZ (m:List (Nat × Nat)):ak→Bool
 | .bP _ _ _ fs=> !mQ m fs
 | _=>false
def om (L:List Nat) (m:List (Nat × Nat)):Nat→List V→List V
 | _,[]=>[]
 | j,v::vs=>(if L.contains j then v.dv m else .c .undef)::om L m (j+1) vs
def mR (bs:List (Nat × ak)) (m:List (Nat × Nat)):List (Nat × Nat)→Option (List (Nat × ak))
 | []=>some []
 | p::r=>match aL bs p.1,mR bs m r with | some B,some l=>if B.wZ m=true then none else some ((p.2,B.dv m)::l) | _,_=>none
structure Norm where
 ms:List pC
 L :List Nat
 nm:List (Nat × Nat)
def kY (bs:List (Nat × ak)) (k:Nat):List (Nat × ak):=
 match aL bs k with
 | some (.bP _ _ _ _)=>(match r7 bs k with | some bX=>bX | none=>bs)
 | _=>bs
def closeAll:List Nat→List (Nat × ak)→List (Nat × ak)
 | [],bs=>bs
 | k::ks,bs=>closeAll ks (kY bs k)
def KY (m:List (Nat × Nat)) (bs:List (Nat × ak)) (k:Nat):Bool:=
 match aL bs k with
 | some (.bP _ _ _ fs)=>Et fs && mQ m fs && (match lk m k with | some _=>true | none=>false)
 | _=>false
def mT (m:List (Nat × Nat)):List Nat→List (Nat × ak)→List (Nat × ak)
 | [],bs=>bs
 | k ::ks,bs=>match KY m bs k with
   | true=>mT m ks bs
   | false=>mT m ks (kY bs k)
def w5 (m:List (Nat × Nat)):List Nat→Bool
 | []=>true
 | k::ks=>(match lk m k with | some k'=>k' == k | none=>false) && w5 m ks
def SS.norm (σ:SS) (pk:List Nat) (N:Norm):Option SS:=
 match σ.oh N.ms with
 | some aw=>
   match mR (mT N.nm (aw.af.map (·.1)) aw.af) N.nm N.nm with
   | some bs=>if dL (N.nm.map (·.1))=true∧dL (N.nm.map (·.2))=true∧w5 N.nm pk=true then some {env:=om N.L N.nm 0 aw.env,af:=bs} else none
   | none=>none
 | none=>none
def Sub (pk:List Nat) (σ τ:SS):Prop:=∀(Γ:Ctx) (a:Act) (w:World),Γ.hd = []→(∀p∈Γ.hm,p.1∈pk)→Rel Γ σ a w→Rel Γ τ a w
inductive aO (pk:List Nat) (X:Type) (st:X→SS) (φ:X→Prop) (m:X→Unit→Nat) (n:Unit→Nat) (σ:SS):Prop where
 | mk (x:X) (hm:m x ()<n ()) (w6:φ x) (hs:Sub pk σ (st x))
inductive aW (pk:List Nat) (σ:SS) (R:SS→(SS→Prop)→Prop):Prop where
 | mk (X:Type) (st:X→SS) (φ:X→Prop) (m:X→Unit→Nat) (x0:X) (h0:φ x0) (hs:Sub pk σ (st x0)) (hr:∀x,φ x→R (st x) fun aw=>aO pk X st φ m (m x) aw)
def km (P:Program) (tab:aX) (all:List Oper) (o:Oper) (σ:SS) (K:SS→Prop):Prop:=
 match o.guard with
 | none=>gX P tab o σ K
 | some (j,want)=>
   match wY all j with
   | some d=>
     match σ.env.getD d (.c .undef) with
     | .c (.bl b)=>if b=want then gX P tab o σ K else K (σ.put o.dst oe)
     | .ba []=>K (σ.put o.dst oe)
     | .c (.lf (.bool t))=>Br t fun b=>if b=want then gX P tab o (σ.gd d (.c (.bl b))) K else K ((σ.gd d (.c (.bl b))).put o.dst oe)
     | _=>False
   | none=>False
def oo (b:Bool) (pt rd:List Nat):Bool:=
 match b with
 | true=>rd.all pt.contains
 | false=>rd.isEmpty
def sn:Option ak→Bool
 | some (.box _)=>true
 | _=>false
def okW (tab:aX) (nm0 pt:List Nat) (σ:SS) (o:Oper):Bool:=
 !eQ tab o || ((fp σ o).isNone && !jE tab σ o) ||
  (match o.op,o.dst,o.guard with
  | .store _ p _,none,none=>(match σ.ev p with
    | .c (.ptr k _)=>(nm0.contains k && !pt.contains k) || (!pt.contains k && pt.all fun j=>sn (aL σ.af j))
    | .c (.en k _ _ _)=> !nm0.contains k && pt.all fun j=>sn (aL σ.af j)
    | _=>false)
  | .call c,_,_=>(match c.callee,c.args.toList with
    | .builtin .append,[x,_]=>(match σ.ev x with | .c .nil=>true | .c (.own k)=> !pt.contains k && pt.all fun j=>sn (aL σ.af j) | _=>false)
    | .value (.func f),_=>(match tG tab f with
      | some ms=>((gu σ.af ms (c.args.toList.map σ.ev)).all fun k=> !nm0.contains k) && pt.all fun j=>sn (aL σ.af j)
      | none=>false)
    | _,_=>false)
  | _,_,_=>false)
def findD (t:Nat):List Oper→Option Oper
 | []=>none
 | o ::os=>match o.dst with
   | some d=>(match Nat.beq d t with | true=>some o | false=>findD t os)
   | none=>findD t os
def kZ (tab:aX) (all:List Oper) (σ:SS):Nat→Operand→V
 | 0,_=> .c .undef
 | n + 1, .tmp t=>match findD t all with
   | some o=>(match o.op with
     | .move x=>kZ tab all σ n x
     | .fieldAddr T x i=>(match wk tab T i (kZ tab all σ n x) with | some v=>v | none=> .c .undef)
     | .load T x=>(match rI tab σ.af T (kZ tab all σ n x) with | some v=>v | none=> .c .undef)
     | .indexAddr _ x _=>(match kZ tab all σ n x with | .c (.lf (.list E _))=> .c (.el E (fun _=>E.j_) 0) | _=> .c .undef)
     | .nilCheck x=>kZ tab all σ n x
     | _=> .c .undef)
   | none=>σ.ev (.tmp t)
 | _,x=>σ.ev x
def w7 (all:List Oper):Nat→Operand→Bool
 | 0,_=>false
 | n + 1, .tmp t=>match findD t all with
   | some o=>(match o.op with | .fieldAddr _ x _=>w7 all n x | .nilCheck x=>w7 all n x | .alloc _=>true | .box _ _=>true | _=>false)
   | none=>false
 | _,_=>false
def Ae (all:List Oper):Nat→Operand→Bool
 | 0,_=>false
 | _, .const _=>true
 | n + 1, .tmp t=>match findD t all with
   | some o=>(match o.op with
     | .buildSlice _ _ _=>true
     | .makeSlice _ _ _=>false
     | .call c=>(match c.callee,c.args.toList with
       | .builtin .append,[x,_]=>Ae all n x
       | .builtin _,_=>false
       | _,_=>true)
     | _=>false)
   | none=>false
 | _,_=>false
def mU (tab:aX) (all:List Oper) (σ:SS):List Oper→Option (Bool × List Nat)
 | []=>some (false,[])
 | o :: os =>match o.op,o.dst,o.guard with
   | .store _ p _,none,none=>(match w7 all 5 p with
     | true=>(match mU tab all σ os with | some (_,l)=>some (true,l) | none=>none)
     | false=>(match kZ tab all σ 9 p,mU tab all σ os with | .c (.ptr k _),some (b,l)=>some (b,k::l) | _,_=>none))
   | .load T x,_,_=>(match t_ tab T with
     | true=>(match kZ tab all σ 9 x with | .c (.ptr _ _) | .c (.el _ _ _) | .c (.bN _ _)=>mU tab all σ os | _=>none)
     | false=>mU tab all σ os)
   | .call c,_,_=>(match c.callee with
     | .builtin .len | .builtin .max | .builtin .min=>mU tab all σ os
     | .builtin .append=>(match c.args.toList with
       | [x,_]=>(match Ae all 9 x with
         | true=>(match mU tab all σ os with | some (_,l)=>some (true,l) | none=>none)
         | false=>none)
       | _=>none)
     | _=>if eQ tab o then none else mU tab all σ os)
   | _,_,_=>if eQ tab o then none else mU tab all σ os
def KZ (bs:List (Nat × ak)):V→Bool
 | .c (.ptr k 0)=>(match aL bs k with | some (.box [.own _, .lf (.int _ _), .lf (.int _ _)])=>true | _=>false)
 | _=>false
def Eu:V→Bool
 | .c (.own _)=>true
 | .c .nil=>true
 | _=>false
def lX (tab : aX) (all:List Oper) (σ:SS):List Oper→Option (Bool × List Nat)
 | []=>some (false,[])
 | o :: os => match o.op,o.dst,o.guard with
   | .store _ p _,none,none=>(match w7 all 5 p with
     | true=>lX tab all σ os
     | false =>(match kZ tab all σ 9 p with
       | .c (.ptr k _)=>(match lX tab all σ os with | some (b,l)=>some (b,k::l) | none=>none)
       | _ => (match p with
         | .tmp t=>(match findD t all with
           | some q=>(match q.op with
             | .indexAddr _ x _=>(match Eu (kZ tab all σ 9 x) with | true=>lX tab all σ os | false=>none)
             | _=>none)
           | none=>none)
         | _=>none)))
   | .load T x,_,_=>(match t_ tab T with
     | true=>(match kZ tab all σ 9 x with | .c (.ptr _ _) | .c (.el _ _ _) | .c (.bN _ _)=>lX tab all σ os | _=>none)
     | false=>lX tab all σ os)
   | .call c,_,_=>(match c.callee with
     | .builtin .len | .builtin .max | .builtin .min=>lX tab all σ os
     | .builtin .append=>(match c.args.toList with
       | [x,_]=>(match Ae all 9 x || Eu (kZ tab all σ 9 x) with
         | true=>lX tab all σ os
         | false=>none)
       | _=>none)
     | .value (.func f)=>(match tG tab f with
       | none=>lX tab all σ os
       | some ms=>(match c.args.toList.map (kZ tab all σ 9) with
         | v ::vs=>(match KZ σ.af v with
           | true=>(match lX tab all σ os with | some (_,l)=>some (true,gu σ.af ms (v::vs)++l) | none=>none)
           | false=>none)
         | []=>none))
     | _=>none)
   | _,_,_=>if eQ tab o then none else lX tab all σ os
def pD (bs:List (Nat × ak)):List Nat→List Nat
 | []=>[]
 | k::ks=>if sn (aL bs k) then k::pD bs ks else pD bs ks
def mW (l:List Nat):List Nat→List Nat
 | []=>[]
 | k::ks=>if l.contains k then mW l ks else k::mW l ks
def qU (tab:aX) (b:Bool) (nm0:List Nat) (σ:SS) (o:Oper):Bool:=
 (fp σ o).isNone && !jE tab σ o && oo b nm0 (oS o σ)
def Af:List Nat→(Nat→Prop)→Prop
 | [],_=>True
 | [i],p=>p i
 | i::j::is,p=>p i∧Af (j::is) p
def so (tab:aX) (ops:Array Oper) (b:Bool) (nm0:List Nat) (listed:Array Bool) (σ:SS):List Nat→Option Nat
 | []=>none
 | i ::is=>match ops[i]? with
   | some o=>if(qU tab b nm0 σ o && Region.free .any ops listed i)=true then some i else so tab ops b nm0 listed σ is
   | none=>so tab ops b nm0 listed σ is
inductive Pz (p:Unit→Prop):Prop where
 | mk (h:p ())
def Ev (b:Bool) (p:Unit→Prop):Prop:=
 match b with
 | true=>Pz p
 | false=>p ()
theorem K0 {b:Bool} {p:Unit→Prop} (h:Ev b p):p ():=by
 cases b with
 | true=>exact h.1
 | false=>exact h
def pE (P:Program) (tab:aX) (ops:Array Oper) (b:Bool) (nm0 pt:List Nat):Nat→Array Bool→SS→(SS→Prop)→Prop
 | 0,listed,σ,K=>match Region.ready .any ops listed with | []=>K σ | _=>False
 | n + 1,listed,σ,K=>Ev (decide (30<ops.size) && n % 4 == 0) fun _=>
   match Region.ready .any ops listed with
   | []=>K σ
   | r ::rs=>
     match so tab ops b pt listed σ (r::rs) with
     | some i=>(match ops[i]? with | some o=>km P tab ops.toList o σ fun aw=>pE P tab ops b nm0 pt n (listed.setIfInBounds i true) aw K | none=>False)
     | none=>Af (r::rs) fun i=>match ops[i]? with
       | some o=>if(!b || okW tab nm0 pt σ o)=true then km P tab ops.toList o σ fun aw=>pE P tab ops b nm0 pt n (listed.setIfInBounds i true) aw K else False
       | none=>False
def Ag (P:Program) (tab:aX) (ops:Array Oper) (σ:SS) (K:SS→Prop):Prop:=
 match mU tab ops.toList σ ops.toList with
 | some (nw,ws)=>pE P tab ops true (σ.af.map (·.1)) (match nw with | true=>pD σ.af (mW ws (σ.af.map (·.1))) | false=>mW ws (σ.af.map (·.1))) ops.size (Array.replicate ops.size false) σ K
 | none=>pE P tab ops false (σ.af.map (·.1)) [] ops.size (Array.replicate ops.size false) σ K
def lY:List Bool→Nat→Bool
 | [],_=>false
 | b::_,0=>b
 | _::bs,n+1=>lY bs n
def ia:List Bool→Nat→List Bool
 | [],_=>[]
 | _::bs,0=>true::bs
 | b::bs,n+1=>b::ia bs n
def jF:List Bool→Bool
 | []=>true
 | b::bs=>match b with | true=>jF bs | false=>false
def pF:List Oper→List Bool
 | []=>[]
 | _::os=>false::pF os
def jm (l:List Bool):List Edge→Bool
 | []=>true
 | e ::es=>match Region.binds .any e with
   | true=>(match lY l e.on with | true=>jm l es | false=>false)
   | false=>jm l es
def lZ (tab:aX) (b:Bool) (pt:List Nat) (l0:List Bool) (σ:SS):List Oper→List Bool→Nat→Option (Nat × Oper)
 | o ::os,l::ls,i=>match l with
   | true=>lZ tab b pt l0 σ os ls (i+1)
   | false=>match jm l0 o.after.toList with
     | true=>(match qU tab b pt σ o with | true=>some (i,o) | false=>lZ tab b pt l0 σ os ls (i+1))
     | false=>lZ tab b pt l0 σ os ls (i+1)
 | _,_,_=>none
def jG (l0:List Bool):List Oper→List Bool→Nat→List (Nat × Oper)
 | o ::os,l::ls,i=>match l with
   | true=>jG l0 os ls (i+1)
   | false=>match jm l0 o.after.toList with
     | true=>(i,o)::jG l0 os ls (i+1)
     | false=>jG l0 os ls (i+1)
 | _,_,_=>[]
def w9:List (Nat × Oper)→(Nat→Oper→Prop)→Prop
 | [],_=>True
 | [p],q=>q p.1 p.2
 | p::r::rs,q=>q p.1 p.2∧w9 (r::rs) q
structure Row where
 t :Bool
 i :Nat
 es:List Edge
 d :Option Nat
 v :V
 nw:List (Nat × ak)
 ch:List (Nat × ak)
 gone:List Nat
def Ah (bs:List (Nat × ak)):List (Nat × ak)→List (Nat × ak)
 | []=>[]
 | p ::r=>match aL bs p.1 with
   | none=>p::Ah bs r
   | some _=>Ah bs r
def Ew:Option ak→Bool
 | some .dead=>true
 | _=>false
def w_ (bs:List (Nat × ak)):List (Nat × ak)→List Nat
 | []=>[]
 | p ::r=>match Ew (some p.2) with
   | true=>(match Ew (aL bs p.1) with | true=>w_ bs r | false=>p.1::w_ bs r)
   | false=>w_ bs r
def xa (bs:List (Nat × ak)):List (Nat × ak)→List (Nat × ak)
 | []=>[]
 | p ::r=>match p.2 with
   | .bP _ _ _ _=>(match aL bs p.1 with | some (.own _ _ _)=>p::xa bs r | _=>xa bs r)
   | _=>xa bs r
def xb (bs:List (Nat × ak)):List Nat→List (Nat × ak)
 | []=>[]
 | k ::ks=>match aL bs k with
   | some (.box cs)=>(k, .box cs)::xb bs ks
   | some (.own E xs l)=>(k, .own E xs l)::xb bs ks
   | _=>xb bs ks
def K1 (tab:aX) (o:Oper) (σ aw:SS):List (Nat × ak):=
 match fp σ o with
 | some (.c (.fn f _),c)=>(match tG tab f with
   | some ms=>xb aw.af (gu σ.af ms (c.args.toList.map σ.ev))
   | none=>[])
 | _=>[]
def rowOf (tab:aX) (t:Bool) (i:Nat) (o:Oper) (σ aw:SS):Row:=
 ⟨t,i,o.after.toList,o.dst,match o.dst with | some d=>aw.env.getD d (.c .undef) | none=> .c .undef,Ah σ.af aw.af,xa σ.af aw.af++K1 tab o σ aw,w_ σ.af aw.af⟩
def Ex:List (Nat × ak)→List (Nat × ak)→List (Nat × ak)
 | bs,[]=>bs
 | bs,p::r=>Ex (cU bs p.1 p.2) r
def Ey:List (Nat × ak)→List (Nat × ak)→List (Nat × ak)
 | bs,[]=>bs
 | bs,p::r=>Ey (bK bs p.1 p.2) r
def uD (l:List Bool):List Row→SS→SS
 | [],σ=>σ
 | r ::rs,σ=>match lY l r.i with
   | true=>uD l rs {env:=(σ.put r.d r.v).env,af:=eK (Ey (Ex σ.af r.nw) r.ch) r.gone}
   | false=>uD l rs σ
def uE (rows:List Row) (σ qV:SS) (l:List Bool):SS:=
 match jF l with
 | true=>qV
 | false=>uD l rows σ
def qW:List Bool→List Bool→Bool
 | [],[]=>true
 | b ::bs,c::cs=>match b,c with
   | true,true=>qW bs cs
   | false,false=>qW bs cs
   | _,_=>false
 | _,_=>false
def oq : List Row→List Bool→List Bool→Bool
 | [],l,l'=>qW l l'
 | r :: rs,l,l'=>match jm l r.es with
   | false=>oq rs l l'
   | true=>match r.t with
     | true=>oq rs (ia l r.i) l'
     | false=>match lY l' r.i with
       | true=>oq rs (ia l r.i) l'
       | false=>oq rs l l'
def jH:List Bool→Nat
 | []=>0
 | b::bs=>match b with | true=>jH bs | false=>jH bs+1
def uF (P:Program) (tab:aX) (all:List Oper) (b:Bool) (pt:List Nat):Nat→List Bool→SS→(List Bool→SS→Prop)→Prop
 | 0,l,σ,J=>J l σ
 | n + 1,l,σ,J=>match lZ tab b pt l σ all l 0 with
   | some (i,o)=>km P tab all o σ fun aw=>uF P tab all b pt n (ia l i) aw J
   | none=>J l σ
def sq (P :Program) (tab:aX) (all:List Oper) (b:Bool) (pt:List Nat):Nat→List Bool→SS→List Row→(List Row→SS→Prop)→Prop
 | 0,l,σ,rs,J=>match jF l with
   | true=>J rs σ
   | false=>False
 | n + 1, l,σ,rs,J=>match jF l with
   | true=>J rs σ
   | false =>match lZ tab b pt l σ all l 0 with
     | some (i,o)=>km P tab all o σ fun aw=>sq P tab all b pt n (ia l i) aw (rs ++ [rowOf tab true i o σ aw]) J
     | none=>match jG l all l 0 with
       | []=>False
       | (i,o)::_=>match o.guard with
         | none=>gX P tab o σ fun aw=>sq P tab all b pt n (ia l i) aw (rs ++ [rowOf tab false i o σ aw]) J
         | some _=>False
def Ai (P:Program) (tab:aX) (all:List Oper) (b:Bool) (nm0 pt:List Nat) (nodes:List Bool→Bool) (st:List Bool→SS) (l:List Bool):Prop:=
 match jF l with
 | true=>True
 | false =>match jG l all l 0 with
   | []=>False
   | r ::rs=>w9 (r::rs) fun i o=>if(!b || okW tab nm0 pt (st l) o)=true then
      km P tab all o (st l) fun aw=>uF P tab all b pt (jH l) (ia l i) aw fun l' sr=>match nodes l' with
       | true=>sr=st l'
       | false=>False
     else False
def qX :List Row→List Bool→(List Bool→Prop)→Prop
 | [],l,p=>Pz fun _=>p l
 | r ::rs,l,p=>match jm l r.es with
   | false=>qX rs l p
   | true=>match r.t with
     | true=>qX rs (ia l r.i) p
     | false=>(Pz fun _=>qX rs (ia l r.i) p)∧Pz fun _=>qX rs l p
inductive bp (k:Prop) (ok:Unit→Bool) (p:Unit→Prop):Prop where
 | mk (hk:k) (hb:ok ()=true) (ht:p ())
def xc (l:List Bool):List Row→Bool
 | []=>true
 | r ::rs=>match lY l r.i with
   | true=>false
   | false=>xc l rs
def Ez (P:Program) (tab:aX) (all:List Oper) (b:Bool) (nm0 pt:List Nat) (n:Nat) (l:List Bool) (σ:SS) (K:SS→Prop):Prop:=
 sq P tab all b pt n l σ [] fun rows qV=>
  bp (K qV) (fun _=>oq rows l l && (Nat.ble (jH l) n && xc l rows)) (fun _=>qX rows l (Ai P tab all b nm0 pt (oq rows l) (uE rows σ qV)))
def K2:List (Nat × Oper)→Bool
 | _::_::_::_::_=>true
 | _=>false
def ot (P :Program) (tab:aX) (all:List Oper) (b:Bool) (nm0 pt:List Nat):Nat→List Bool→SS→(SS→Prop)→Prop
 | 0,l,σ,K=>match jF l with | true=>K σ | false=>False
 | n + 1, l,σ,K=>
   match jF l with
   | true=>K σ
   | false =>
     match lZ tab b pt l σ all l 0 with
     | some (i,o)=>km P tab all o σ fun aw=>ot P tab all b nm0 pt n (ia l i) aw K
     | none=>
       match jG l all l 0 with
       | []=>False
       | r ::rs=>match K2 (r::rs) with
         | true=>Ez P tab all b nm0 pt (n+1) l σ K
         | false=>w9 (r::rs) fun i o=>if(!b || okW tab nm0 pt σ o)=true then km P tab all o σ fun aw=>ot P tab all b nm0 pt n (ia l i) aw K else False
def Aj (P:Program) (tab:aX) (ops:Array Oper) (σ:SS) (K:SS→Prop):Prop:=
 match mU tab ops.toList σ ops.toList with
 | some (nw,ws)=>ot P tab ops.toList true (σ.af.map (·.1)) (match nw with | true=>pD σ.af (mW ws (σ.af.map (·.1))) | false=>mW ws (σ.af.map (·.1))) ops.toList.length (pF ops.toList) σ K
 | none=>match lX tab ops.toList σ ops.toList with
   | some (true,ws)=>ot P tab ops.toList true (pD σ.af (mW ws (σ.af.map (·.1)))) (pD σ.af (mW ws (σ.af.map (·.1)))) ops.toList.length (pF ops.toList) σ K
   | _=>ot P tab ops.toList false (σ.af.map (·.1)) [] ops.toList.length (pF ops.toList) σ K
def EA (ops:Array Oper) (i:Nat):Bool:=
 match ops[i]? with
 | none=>true
 | some oi=>(List.range ops.size).all fun j=>j == i || match ops[j]? with
  | some oj=>oj.after.any (fun e=>Region.binds .any e && e.on == i) || oi.after.any (fun e=>Region.binds .any e && e.on == j) || oi.apart ops oj
  | none=>true
def mX (ops:Array Oper):Bool:=(List.range ops.size).all (EA ops) && Region.noSelect ops
def fG:Code→Bool
 | .region _ ops draw=> !draw || mX ops
 | .seq x y=>fG x && fG y
 | .cond _ x y=>fG x && fG y
 | .block _ x=>fG x
 | .loop x=>fG x
 | _=>true
def l3 (E:an):List Nat→List (Nat × ak)→List (Nat × ak)
 | [],bs=>bs
 | k ::ks,bs=>match aL bs k with
   | some (.own E' xs false)=>if E'=E then l3 E ks (bK bs k (.view E' xs)) else l3 E ks bs
   | _=>l3 E ks bs
def ou:List (Nat × Nat × an)→Nat→Nat→List (Nat × ak)→List (Nat × ak)
 | [],_,_,bs=>bs
 | p::r,n,id,bs=>if p.1=n∧p.2.1=id then ou r n id (l3 p.2.2 (bs.map (·.1)) bs) else ou r n id bs
def SS.qY (tab:aX) (id:Nat) (σ:SS):SS:=
 match tab.fz with
 | []=>σ
 | l=>{σ with af:=ou l σ.env.length id σ.af}
inductive ko (pk:List Nat) (σ:SS) (R:SS→Prop):Prop where
 | mk (X:Type) (st:X→SS) (φ:X→Prop) (x0:X) (h0:φ x0) (hs:Sub pk σ (st x0)) (hr:∀x,φ x→R (st x))
def Ak:List (Nat × Nat)→Nat→Nat→Bool
 | [],_,_=>false
 | p ::r,n,id=>match Nat.beq p.1 n with
   | true=>(match Nat.beq p.2 id with | true=>true | false=>Ak r n id)
   | false=>Ak r n id
def Al (tab:aX) (pk:List Nat) (id:Nat) (σ:SS) (R:SS→Prop):Prop:=
 match Ak tab.ct σ.env.length id with
 | true=>ko pk σ R
 | false=>R σ
theorem K3 {tab:aX} {pk:List Nat} {id:Nat} {σ:SS} {R:SS→Prop} (h:Al tab pk id σ R) {Γ:Ctx} {a:Act} {w:World} (bC:Γ.hd = []) (fP:∀p∈Γ.hm,p.1∈pk) (r:Rel Γ σ a w):∃aw,R aw∧Rel Γ aw a w:=by
 unfold Al at h
 split at h
 · obtain⟨X,st,φ,x0,h0,hs,hr⟩:=h;exact⟨_,hr x0 h0,hs Γ a w bC fP r⟩
 · exact⟨_,h,r⟩
def k8 (P:Program) (tab:aX) (fr:Bool) (pk:List Nat):Code→SS→(Exit→SS→Prop)→Prop
 | .skip,σ,K=>K .normal σ
 | .region id ops draw,σ,K=>Al tab pk id σ fun σ=>match draw with
   | false=>mP P tab ops.toList ops.toList (σ.qY tab id) fun aw=>K .normal aw
   | true=>match fr with
     | true=>Aj P tab ops (σ.qY tab id) fun aw=>K .normal aw
     | false=>if Region.noSelect ops=true then Ag P tab ops (σ.qY tab id) fun aw=>K .normal aw else False
 | .seq x y,σ,K=>k8 P tab fr pk x σ fun e aw=>match e with
   | .normal=>k8 P tab fr pk y aw K
   | e=>K e aw
 | .cond c x y,σ,K=>match σ.ev c with
   | .c (.bl true)=>k8 P tab fr pk x σ K
   | .c (.bl false)=>k8 P tab fr pk y σ K
   | .c (.lf (.bool t))=>Br t fun b=>match b with
     | true=>k8 P tab fr pk x σ K
     | false=>k8 P tab fr pk y σ K
   | _=>False
 | .block id x,σ,K=>k8 P tab fr pk x σ fun e aw=>match e with
   | .exit i=>if i=id then K .normal aw else K (.exit i) aw
   | e=>K e aw
 | .loop x,σ,K=>aW pk σ fun aw J=>k8 P tab fr pk x aw fun e sr=>match e with
   | .normal=>J sr
   | e=>K e sr
 | .exit id,σ,K=>K (.exit id) σ
 | .ret,σ,K=>K .ret σ
 | _,_,_=>False
section
variable {P : Program} {tab : aX} (hT : eC P tab = true) {Γ : Ctx}
include hT
theorem xd {H:Hp} {ρ:aF} {σ:SS} {a:Act} {w:World} {o:Oper} {K:SS→Prop} {Q:Exit→Act→World→Prop} (hw:eQ tab o=true→Γ.hd = []) (h:gX P tab o σ K) (r:aG Γ H ρ σ a w) :
   o.wp P a w (fun a' w'=>∃aw,K aw∧mB Γ H (eQ tab o) w aw a' w') Q:=by
 unfold gX at h
 split at h
 · rename_i v c hc; exact KW r hw hc h
 · split at h
   · exact Kz hT r hw h
   · obtain⟨v,y,hk,hv,b_⟩:=yX hT r h;exact hY (b_ w (mv.refl r _)) ⟨_,hk,⟨ρ,r.put hv _⟩,fun _=>fO.refl w⟩
theorem K4 (bC:Γ.hd = []) {σ:SS} {a:Act} {w:World} {o:Oper} {K:SS→Prop} {Q:Exit→Act→World→Prop} (h:gX P tab o σ K) (r:Rel Γ σ a w) :
  o.wp P a w (fun a' w'=>∃aw,K aw∧Rel Γ aw a' w') Q:=by
 obtain⟨H,ρ,r⟩:=r;exact Oper.wp_mono (fun a' w' ⟨aw,h1,h2⟩=>⟨aw,h1,h2.rel⟩) (xd hT (fun _=>bC) h r)
omit hT in
theorem aG.gd {H:Hp} {ρ:aF} {σ:SS} {a:Act} {w:World} (r:aG Γ H ρ σ a w) {d:Nat} {t:Unit→Bool} (hd:σ.env.getD d (.c .undef) = .c (.lf (.bool t))):aG Γ H ρ (σ.gd d (.c (.bl (t ())))) a w:=by
 refine⟨r.b,⟨by simpa [SS.gd] using r.e.size,fun j c hj=> ?_⟩,r.d,r.n,r.hd,r.hm⟩;simp only[SS.gd] at hj;rw[List.getElem?_set] at hj
 split at hj
 · rename_i jn
   split at hj
   · cases hj;have:=tV r d;rw[hd] at this;have h2:=RL.of_bool this;rw[←jn];exact h2
   · cases hj
 · exact r.e.get j c hj
omit hT in
theorem Rel.gd {σ:SS} {a:Act} {w:World} (r:Rel Γ σ a w) {d:Nat} {t:Unit→Bool} (hd:σ.env.getD d (.c .undef) = .c (.lf (.bool t))):Rel Γ (σ.gd d (.c (.bl (t ())))) a w:=by
 obtain⟨H,ρ,r⟩:=r;exact⟨H,ρ,r.gd hd⟩
omit hT in
theorem su {σ:SS} {a:Act} {w:World} (r:Rel Γ σ a w) {all:Array Oper} {j d:Nat} (hg:wY all.toList j=some d) :
   (∀b,σ.env.getD d (.c .undef) = .c (.bl b)→yielded all a.tmps j=some b)∧(σ.env.getD d (.c .undef) = .ba []→yielded all a.tmps j=none):=by
 obtain⟨H,ρ,r⟩:=r;have wD:(all[j]?).bind (·.dst)=some d:=by simpa [wY] using hg
 have he:=tV r d
 have aR:∀c,σ.env.getD d (.c .undef)=c→c≠ .c .undef→a.tmps[d]? = some (a.tmps.getD d Go.undef):=fun c hc hne=>by
   refine getD_some ?_;rw[r.e.size];rcases Nat.lt_or_ge d σ.env.length with h | h
   · exact h
   · rw[List.getD_eq_getElem?_getD,List.getElem?_eq_none h] at hc;exact(hne hc.symm).elim
 refine⟨fun b hb=> ?_,fun hb=> ?_⟩
 · have h1:=aR _ hb (by simp);rw[hb] at he;simp only[RV,RC] at he;unfold yielded;rw[wD,Option.bind_some,h1,he]
 · have h1:=aR _ hb (by simp);rw[hb] at he;obtain⟨vs,h2,h3,_⟩:=he;unfold yielded;rw[wD,Option.bind_some,h1,h2]
omit hT in
theorem aG.skip {H:Hp} {ρ:aF} {σ:SS} {a:Act} {w:World} (r:aG Γ H ρ σ a w) (d:Option Nat):aG Γ H ρ (σ.put d oe) (a.put d Go.undef) w:=by
 have h:RV H ρ (av σ.af) (.ba []) Go.undef:=⟨#[],rfl,rfl,fun j p hj=>by simp at hj⟩;exact r.put h d
omit hT in
theorem Rel.skip {σ:SS} {a:Act} {w:World} (r:Rel Γ σ a w) (d:Option Nat):Rel Γ (σ.put d oe) (a.put d Go.undef) w:=by
 obtain⟨H,ρ,r⟩:=r;exact⟨H,ρ,r.skip d⟩
theorem uG (bC:Γ.hd = []) {all:Array Oper} {Q:Exit→Act→World→Prop}:∀(l:List Oper) {σ:SS} {a:Act} {w:World} {K:SS→Prop},mP P tab all.toList l σ K→Rel Γ σ a w→
   (∀aw a' w',K aw→Rel Γ aw a' w'→Q .normal a' w')→wpList P all Q l a w
 | [],σ,a,w,K,h,r,hQ=>hQ σ a w h r
 | o :: rest,σ,a,w,K,h,r,hQ=>by
   have go:∀{σ:SS},gX P tab o σ (fun aw=>mP P tab all.toList rest aw K)→Rel Γ σ a w→o.wp P a w (wpList P all Q rest) Q:=fun h r=>
     Oper.wp_mono (fun a' w' ⟨aw,h1,h2⟩=>uG bC rest h1 h2 hQ) (K4 hT bC h r)
   unfold wpList;unfold mP at h
   split at h
   · rename_i hg;rw[if_pos (by simp[Region.wanted,hg])];exact .inl (go h r)
   · rename_i j want hg
     split at h
     · rename_i d hd;obtain⟨y1,y2⟩:=su r hd
       split at h
       · rename_i b hb
         split at h
         · rename_i fR;rw[if_pos (by simp[Region.wanted,hg,y1 b hb,fR])];exact .inl (go h r)
         · rename_i fR;rw[if_neg (by simp[Region.wanted,hg,y1 b hb,fR])];exact uG bC rest h (r.skip _) hQ
       · rename_i hb;rw[if_neg (by simp[Region.wanted,hg,y2 hb])];exact uG bC rest h (r.skip _) hQ
       · rename_i t hb;obtain⟨h⟩:=h;have r':=r.gd hb
         have aR:d<σ.env.length:=by
           rcases Nat.lt_or_ge d σ.env.length with h | h
           · exact h
           · rw[List.getD_eq_getElem?_getD,List.getElem?_eq_none h] at hb; cases hb
         have y3:=(su r' hd).1 (t ()) (by simp[SS.gd,List.getD_eq_getElem?_getD,aR])
         split at h
         · rename_i fR;rw[if_pos (by simp[Region.wanted,hg,y3,fR])];exact .inl (go h r')
         · rename_i fR;rw[if_neg (by simp[Region.wanted,hg,y3,fR])];exact uG bC rest h (r'.skip _) hQ
       · cases h
     · cases h
omit hT in
theorem qZ {σ:SS} {d:Nat} {t:Unit→Bool} {b:Bool} (hd:σ.env.getD d (.c .undef) = .c (.lf (.bool t))) (x:Operand) :
   (σ.gd d (.c (.bl b))).ev x=σ.ev x∨(∃t,σ.ev x = .c (.lf (.bool t)))∧∃b',(σ.gd d (.c (.bl b))).ev x = .c (.bl b'):=by
 cases x with
 | tmp j=>
   by_cases h:d=j
   · subst h;right;refine⟨⟨t,hd⟩,b, ?_⟩
     have aR:d<σ.env.length:=by
      rcases Nat.lt_or_ge d σ.env.length with h | h
      · exact h
      · rw[List.getD_eq_getElem?_getD,List.getElem?_eq_none h] at hd; cases hd
     simp[SS.ev,SS.gd,List.getD_eq_getElem?_getD,aR]
   · left;simp[SS.ev,SS.gd,List.getD_eq_getElem?_getD,h]
 | _=>left; rfl
omit hT in
theorem EB {σ aw:SS} {o:Oper} (h:fp σ o=none):fp aw o=none:=by
 cases aQ:o.op with
 | call c=>
   cases hc:c.callee with
   | value x=>simp[fp,aQ,hc] at h
   | _=>simp[fp,aQ,hc]
 | _=>simp[fp,aQ]
omit hT in
theorem EC {σ aw:SS} {o:Oper} (gS:∀x,aw.ev x=σ.ev x∨(∃t,σ.ev x = .c (.lf (.bool t)))∧∃b',aw.ev x = .c (.bl b')) (hb:aw.af=σ.af) (h:jE tab σ o=false):jE tab aw o=false:=by
 have key:∀x,sj (aw.ev x)=sj (σ.ev x):=fun x=>by
  rcases gS x with h | ⟨⟨t,h1⟩,b',h2⟩
  · rw[h]
  · rw[h1,h2]; rfl
 have Q8:∀x,Ad (aw.ev x)=Ad (σ.ev x):=fun x=>by
  rcases gS x with h | ⟨⟨t,h1⟩,b',h2⟩
  · rw[h]
  · rw[h1,h2]; rfl
 have Q9:∀x,sj (oU aw.af (aw.ev x))=sj (oU σ.af (σ.ev x)):=fun x=>by
  rw[hb];rcases gS x with h | ⟨⟨t,h1⟩,b',h2⟩
  · rw[h]
  · rw[h1,h2]; rfl
 have Q_:∀x,Ac (aw.ev x)=Ac (σ.ev x):=fun x=>by
  rcases gS x with h | ⟨⟨t,h1⟩,b',h2⟩
  · rw[h]
  · rw[h1,h2]; rfl
 unfold jE at h ⊢
 split at h <;> simp_all
omit hT in
theorem ED {H:Hp} {ρ:aF} {ops:Array Oper} {i:Nat} {o:Oper} (hi:ops[i]? = some o) {σ:SS} {a:Act} {w:World} {K:SS→Prop} {Q:Exit→Act→World→Prop} {next:Act→World→Prop}
   (h:km P tab ops.toList o σ K) (r:aG Γ H ρ σ a w) (go:∀{cA:SS},gX P tab o cA K→aG Γ H ρ cA a w→(cA=σ∨∃d t,σ.env.getD d (.c .undef) = .c (.lf (.bool t))∧cA=σ.gd d (.c (.bl (t ()))))→o.wp P a w next Q)
   (sk:∀{cA:SS},K (cA.put o.dst oe)→aG Γ H ρ cA a w→next (a.put o.dst Go.undef) w):wpOp P ops Q i next a w:=by
 unfold wpOp;simp only[hi];unfold km at h
 split at h
 · rename_i hg;rw[if_pos (by simp[Region.wanted,hg])];exact .inl (go h r (.inl rfl))
 · rename_i j want hg
   split at h
   · rename_i d hd;obtain⟨y1,y2⟩:=su (⟨H,ρ,r⟩:Rel Γ σ a w) hd
     split at h
     · rename_i b hb
       split at h
       · rename_i fR;rw[if_pos (by simp[Region.wanted,hg,y1 b hb,fR])];exact .inl (go h r (.inl rfl))
       · rename_i fR;rw[if_neg (by simp[Region.wanted,hg,y1 b hb,fR])];exact sk h r
     · rename_i hb;rw[if_neg (by simp[Region.wanted,hg,y2 hb])];exact sk h r
     · rename_i t hb;obtain⟨h⟩:=h;have r':=r.gd hb
       have aR:d<σ.env.length:=by
         rcases Nat.lt_or_ge d σ.env.length with h | h
         · exact h
         · rw[List.getD_eq_getElem?_getD,List.getElem?_eq_none h] at hb; cases hb
       have y3:=(su (⟨H,ρ,r'⟩:Rel Γ _ a w) hd).1 (t ()) (by simp[SS.gd,List.getD_eq_getElem?_getD,aR])
       split at h
       · rename_i fR;rw[if_pos (by simp[Region.wanted,hg,y3,fR])];exact .inl (go h r' (.inr ⟨d,t,hb,rfl⟩))
       · rename_i fR;rw[if_neg (by simp[Region.wanted,hg,y3,fR])];exact sk h r'
     · cases h
   · cases h
theorem Am {H:Hp} {ρ:aF} {ops:Array Oper} {i:Nat} {o:Oper} (hw:eQ tab o=true→Γ.hd = []) (hi:ops[i]? = some o) {σ:SS} {a:Act} {w:World} {K:SS→Prop} {Q:Exit→Act→World→Prop} {next:Act→World→Prop}
  (h:km P tab ops.toList o σ K) (r:aG Γ H ρ σ a w) (hn:∀aw a' w',K aw→mB Γ H (eQ tab o) w aw a' w'→next a' w'):wpOp P ops Q i next a w:=
 ED hi h r (fun h r _=>Oper.wp_mono (fun a' w' ⟨aw,h1,h2⟩=>hn aw a' w' h1 h2) (xd hT hw h r)) (fun h r=>hn _ _ _ h ⟨⟨ρ,r.skip _⟩,fun _=>fO.refl _⟩)
def gf (ρ0:aF) (pt:List Nat) (w w':World):Prop:=∀k∈pt,∀x,0<(ρ0 k).2 x→w'.heap[x]? = w.heap[x]?
omit hT in
theorem An {σ cA:SS} (h:∀x,(cA.ev x).nm=(σ.ev x).nm):∀{l:List Operand} {ms:List Bool},iQ ms (l.map cA.ev)=iQ ms (l.map σ.ev)
 | [],ms=>by cases ms <;> rfl
 | x::l,[]=>rfl
 | x::l,true::ms=>by simp only[List.map_cons,iQ,h x,An h (l:=l)]
 | x::l,false::ms=>by simp only[List.map_cons,iQ,An h (l:=l)]
omit hT in
theorem EE {H:Hp} {ρ:aF} {σ:SS} {a:Act} {w:World} (r:aG Γ H ρ σ a w) {j:Nat} {p0:Value × (Nat→Nat)} (hb:sn (aL σ.af j)=true) (hf:(ρ j).1=p0.1)
   (ib:∀b,p0.1 = .pointer (some ⟨b,0,none⟩)→p0.2=one b∨∀x,p0.2 x=0) {x:Nat} (hx:0<p0.2 x):av σ.af j∧(ρ j).2 x=1:=by
 cases hg:aL σ.af j with
 | none=>rw[hg] at hb; cases hb
 | some B=>
   rw[hg] at hb;cases B with
   | box cs=>
     obtain⟨b,vs,e,fz,e1,e2,_⟩:=r.b.af j _ (cK hg);refine⟨eH hg, ?_⟩;rcases ib b (by rw[←hf]; exact e1) with h | h
     · rw[h] at hx;rw[e2];simp only[one] at hx ⊢
       split at hx
       · rename_i gY; rw[if_pos gY]
       · cases hx
     · rw[h x] at hx; cases hx
   | _=>cases hb
theorem Ao {H : Hp} {ρ ρ0:aF} {nm0 pt:List Nat} {ops:Array Oper} {i:Nat} {o:Oper} (hi:ops[i]? = some o) {σ:SS} (cj:okW tab nm0 pt σ o=true) {a:Act} {w:World} {K:SS→Prop} {Q:Exit→Act→World→Prop}
   {next:Act→World→Prop} (h:km P tab ops.toList o σ K) (r:aG Γ H ρ σ a w) (dM:∀k∈nm0,(k,ρ0 k)∈Γ.hd) (jI:∀p∈Γ.hd,p.1∈nm0) (dK:∀k∈pt,k∈nm0) (EF:∀k∈pt,∀x,0<(ρ0 k).2 x→∃o,w.heap[x]? = some o)
   (jn:∀k∈nm0,∀j∈nm0,k≠j→∀x,(ρ0 k).2 x+(ρ0 j).2 x≤1)
   (ib:∀k∈pt,∀b,(ρ0 k).1 = .pointer (some ⟨b,0,none⟩)→(ρ0 k).2=one b∨∀x,(ρ0 k).2 x=0) (hn:∀aw a' w',K aw→(∃ρ',aG Γ H ρ' aw a' w')→gf ρ0 pt w w'→next a' w'):wpOp P ops Q i next a w:=by
 have kp:∀w',fO w w'→gf ρ0 pt w w':=fun w' hk k bw x hx=>by
   obtain⟨o,h3⟩:=EF k bw x hx;rw[hk x _ h3,h3]
 refine ED hi h r (fun {cA} h r hs=> ?_) (fun h r=>hn _ _ _ h ⟨ρ,r.skip _⟩ (kp _ (fO.refl _)));simp only[okW,Bool.or_eq_true] at cj;rcases cj with(cj | cj) | cj
 · have EG:eQ tab o=false:=by simpa using cj
   exact Oper.wp_mono (fun a' w' ⟨aw,h1,h2,h3⟩=>hn aw a' w' h1 h2 (kp _ (h3 EG))) (xd hT (fun hw=>by rw[EG] at hw; cases hw) h r)
 · simp only[Bool.and_eq_true,Bool.not_eq_true',Option.isNone_iff_eq_none] at cj;obtain⟨hc,hm⟩:=cj
   have EH:fp cA o=none∧jE tab cA o=false:=by
     rcases hs with rfl | ⟨d,t,hd,rfl⟩
     · exact⟨hc,hm⟩
     · exact⟨EB hc,EC (qZ hd) rfl hm⟩
   unfold gX at h;simp only[EH.1,EH.2,Bool.false_eq_true,if_false] at h;obtain⟨v,y,hk,hv,b_⟩:=yX hT r h;exact hY (b_ w (mv.refl r _)) (hn _ _ _ hk ⟨ρ,r.put hv _⟩ (kp _ (fO.refl w)))
 · split at cj
   · rename_i T p v aQ hd hg
     split at cj
     · rename_i k off hp
       have pj:k∉pt:=by
         simp only[Bool.or_eq_true,Bool.and_eq_true,Bool.not_eq_true'] at cj;rcases cj with h1 | h1
         · simpa using h1.2
         · simpa using h1.1
       have dn:cA.ev p = .c (.ptr k off):=by
         rcases hs with rfl | ⟨d,t,hd,rfl⟩
         · exact hp
         · rcases qZ (b:=t ()) hd p with h1 | ⟨⟨t',h1⟩,_⟩
           · rw[h1]; exact hp
           · rw[hp] at h1; cases h1
       have dA:fp cA o=none:=by simp[fp,aQ]
       have cM:jE tab cA o=true:=by simp[jE,aQ]
       unfold gX at h;simp only[dA,cM,if_true] at h;unfold sa at h;simp only[um,aQ] at h;unfold qR at h;simp only[aQ,hd,dn] at h;refine Oper.wp_mono (fun a' w' ⟨aw,h1,h2,h3⟩=>hn aw a' w' h1 ⟨ρ,h2⟩ fun j hj x hx=>h3 x ?_) (JD hT r aQ hd dn h);simp only[Bool.or_eq_true,Bool.and_eq_true,Bool.not_eq_true'] at cj;rcases cj with cj | cj
       · have gw:k∈nm0:=by simpa using cj.1
         have h4:=(r.hd _ (dM k gw)).2.2 x;have h5:=jn k gw j (dK j hj) (fun he=>pj (he▸hj)) x;simp only at h4;omega
       · have l4:=List.all_eq_true.1 cj.2 j hj
         have gb:cA.af=σ.af:=by
           rcases hs with rfl | ⟨d,t,hd,rfl⟩ <;> rfl
         rw[←gb] at l4
         have fD:av cA.af k:=by
           have:=iu r.e p;rw[dn] at this;exact this.1
         cases ov:aL cA.af j with
         | none=>rw[ov] at l4; cases l4
         | some B=>
           rw[ov] at l4;cases B with
           | box cs=>
             obtain⟨b,vs,e,fz,e1,e2,_⟩:=r.b.af j _ (cK ov);have h6:=(r.hd _ (dM j (dK j hj))).2.1;have h7:=ib j hj b (by rw[←e1]; exact h6.symm);have h8:=qL (ρ:=ρ) fD (eH ov) (fun he=>pj (he▸hj)) x;have h9:=r.b.sum x;rw[e2] at h8;rcases h7 with h7 | h7
             · rw[h7] at hx;omega
             · rw[h7] at hx;omega
           | _=>cases l4
     · rename_i k E i off hp;simp only[Bool.and_eq_true,Bool.not_eq_true',List.contains_eq_mem,decide_eq_false_iff_not] at cj
       have dn:cA.ev p = .c (.en k E i off):=by
         rcases hs with rfl | ⟨d,t,hd,rfl⟩
         · exact hp
         · rcases qZ (b:=t ()) hd p with h1 | ⟨⟨t',h1⟩,_⟩
           · rw[h1]; exact hp
           · rw[hp] at h1; cases h1
       have gb:cA.af=σ.af:=by
         rcases hs with rfl | ⟨d,t,hd,rfl⟩ <;> rfl
       have dA:fp cA o=none:=by simp[fp,aQ]
       have cM:jE tab cA o=true:=by simp[jE,aQ]
       unfold gX at h;simp only[dA,cM,if_true] at h;unfold sa at h;simp only[um,aQ] at h;unfold qR at h;simp only[aQ,hd,dn] at h;have ep:=iu r.e p;rw[dn] at ep;obtain⟨aw,w',ρ',h1,h2,h3,h4⟩:=DT hT r (fun q hq he=>cj.1 (by rw[←he]; exact jI q hq)) h ep (iu r.e v);refine ua (w':=w') (by simp only[execOp,aQ,Sem.run_bind,h4,Result.andThen_ok,Sem.run_pure]) hd (hn aw a w' h1 ⟨ρ',h2⟩ fun j hj x hx=>h3 x ?_);have fD:av cA.af k:=ep.1;obtain⟨q1,q2⟩:=EE r (gb▸List.all_eq_true.1 cj.2 j hj) ((r.hd _ (dM j (dK j hj))).2.1) (ib j hj) hx;have h8:=qL (ρ:=ρ) fD q1 (fun he=>cj.1 (he▸dK j hj)) x;have h9:=r.b.sum x;omega
     · cases cj
   · rename_i c aQ
     split at cj
     · rename_i x y dA du;have xe:fp cA o=none:=by simp[fp,aQ,dA]
       have K5:jE tab cA o=true:=by simp[jE,aQ,dA]
       unfold gX at h;simp only[xe,K5,if_true] at h
       have gS:∀k,cA.ev x = .c (.own k)→σ.ev x = .c (.own k):=fun k hk=>by
         rcases hs with rfl | ⟨d,t,hd,rfl⟩
         · exact hk
         · rcases qZ (b:=t ()) hd x with h1 | ⟨_,b',h2⟩
           · rw[←h1]; exact hk
           · rw[h2] at hk; cases hk
       have gb:cA.af=σ.af:=by
         rcases hs with rfl | ⟨d,t,hd,rfl⟩ <;> rfl
       have fP : um o cA=false:=by
         simp only[um,aQ,dA,du];cases ic:cA.ev x with
         | c z =>
           cases z with
           | pre k n=>
             have :σ.ev x = .c (.pre k n):=by
               rcases hs with rfl | ⟨d,t,hd,rfl⟩
               · exact ic
               · rcases qZ (b:=t ()) hd x with h1 | ⟨_,b',h2⟩
                 · rw[←h1]; exact ic
                 · rw[h2] at ic; cases ic
             rw[this] at cj; cases cj
           | _=>rfl
         | agg cs=>rfl
         | ba ps=>rfl
       unfold sa at h;rw[fP] at h;simp only at h;refine Oper.wp_mono (fun a' w' ⟨aw,h1,h2,h3⟩=>hn aw a' w' h1 h2 fun j hj b hb=>h3 b ?_ fun k hk=> ?_) (KA hT r aQ dA du h)
       · obtain⟨o',zN⟩:=EF j hj b hb;exact jh zN
       · have gw:=gS k hk;rw[gw] at cj;simp only[Bool.and_eq_true,Bool.not_eq_true'] at cj;have pj:k∉pt:=by simpa using cj.1
         have l4:=List.all_eq_true.1 cj.2 j hj;rw[←gb] at l4
         have fD:av cA.af k:=by
           have:=iu r.e x;rw[hk] at this;exact this.1
         cases ov:aL cA.af j with
         | none=>rw[ov] at l4; cases l4
         | some B=>
           rw[ov] at l4;cases B with
           | box cs=>
             obtain⟨b',vs,e,fz,e1,e2,_⟩:=r.b.af j _ (cK ov);have h6:=(r.hd _ (dM j (dK j hj))).2.1;have h7:=ib j hj b' (by rw[←e1]; exact h6.symm);have h8:=qL (ρ:=ρ) fD (eH ov) (fun he=>pj (he▸hj)) b;have h9:=r.b.sum b;rw[e2] at h8;rcases h7 with h7 | h7
             · rw[h7] at hb;omega
             · rw[h7] at hb;omega
           | _=>cases l4
     · rename_i f dA
       split at cj
       · rename_i ms Ab;simp only[Bool.and_eq_true,List.all_eq_true,Bool.not_eq_true',List.contains_eq_mem,decide_eq_false_iff_not] at cj;have xe:fp cA o=some (.c (.fn f []),c):=by simp[fp,aQ,dA,SS.ev]
         have gb:cA.af=σ.af:=by
           rcases hs with rfl | ⟨d,t,hd,rfl⟩ <;> rfl
         have eM:∀x,(cA.ev x).nm=(σ.ev x).nm:=fun x=>by
           rcases hs with rfl | ⟨d,t,hd,rfl⟩
           · rfl
           · rcases qZ (b:=t ()) hd x with h1 | ⟨⟨t',h1⟩,b',h2⟩
             · rw[h1]
             · rw[h1,h2]; rfl
         have gR:gu cA.af ms (c.args.toList.map cA.ev)=gu σ.af ms (c.args.toList.map σ.ev):=by
           unfold gu;rw[gb,An eM]
         unfold gX at h;simp only[xe] at h;unfold wV at h;cases hd:o.dst with
         | none=>simp only[hd] at h
         | some d=>
           simp only[hd,Ab] at h;refine Oper.wp_mono (fun a' w' ⟨aw,h1,h2,h3⟩=>hn aw a' w' h1 h2 fun j hj x hx=> ?_) (Ef r (fun p hp hm=>cj.1 _ (gR▸hm) (jI p hp)) xe hd h);obtain⟨q1,q2⟩:=EE r (gb▸cj.2 j hj) ((r.hd _ (dM j (dK j hj))).2.1) (ib j hj) hx;exact h3 j q1 (fun hm=>cj.1 _ (gR▸hm) (dK j hj)) x (by rw[q2]; exact Nat.one_pos)
       · cases cj
     · cases cj
   · cases cj
end
section
variable {P : Program} {tab : aX} (hT : eC P tab = true) {Γ : Ctx} {H : Hp}
include hT
omit hT in
theorem Ap {ops:Array Oper} {b:Bool} {nm0:List Nat} {listed:Array Bool} {σ:SS}:∀{l:List Nat} {i:Nat},so tab ops b nm0 listed σ l=some i→i∈l∧∃o,ops[i]? = some o∧qU tab b nm0 σ o=true∧Region.free .any ops listed i=true
 | [],i,h=>by simp[so] at h
 | j ::l,i,h=>by
   unfold so at h
   split at h
   · rename_i o ho
     split at h
     · rename_i hc;cases h;simp only[Bool.and_eq_true] at hc;exact⟨List.mem_cons_self,o,ho,hc.1,hc.2⟩
     · obtain⟨h1,h2⟩:=Ap h; exact⟨List.mem_cons_of_mem _ h1,h2⟩
   · obtain⟨h1,h2⟩:=Ap h; exact⟨List.mem_cons_of_mem _ h1,h2⟩
omit hT in
theorem EI {p:Nat→Prop}:∀{l:List Nat},Af l p→∀i∈l,p i
 | [],_,i,hi=>by cases hi
 | [j],h,i,hi=>by
   simp only[List.mem_singleton] at hi;subst hi; exact h
 | j ::k::l,h,i,hi=>by
   rcases List.mem_cons.1 hi with rfl | hi
   · exact h.1
   · exact EI h.2 i hi
omit hT in
theorem K6 {σ aw:SS} {o:Oper} (gS:∀x,aw.ev x=σ.ev x∨(∃t,σ.ev x = .c (.lf (.bool t)))∧∃b',aw.ev x = .c (.bl b')):oS o aw=oS o σ:=by
 unfold oS
 split
 · rename_i T x _;rcases gS x with h | ⟨⟨t,h1⟩,b',h2⟩
   · rw[h]
   · rw[h1,h2]; rfl
 · rfl
theorem xf {S:World→Prop} {ρ:aF} {ops:Array Oper} {o:Oper} {b:Bool} {pt:List Nat} {σ:SS} {a:Act} {w:World} {K:SS→Prop} (h:km P tab ops.toList o σ K) (hd:qU tab b pt σ o=true) (r:aG Γ H ρ σ a w)
   (hS:∀w',S w'→∀rd:List Nat,oo b pt rd=true→mv H ρ rd w w') :
   ∃ v aw,YieldsIf P ops S o v a∧K aw∧aG Γ H ρ aw (a.put o.dst v) w:=by
 simp only[qU,Bool.and_eq_true,Bool.not_eq_true',Option.isNone_iff_eq_none] at hd;obtain⟨⟨hc,hm⟩,gh⟩:=hd
 have go:∀{cA:SS},gX P tab o cA K→aG Γ H ρ cA a w→fp cA o=none→jE tab cA o=false→oo b pt (oS o cA)=true→
     ∃ v aw,(∀w',S w'→(execOp a.eval o).run P w' = .ok (.value v) w')∧K aw∧aG Γ H ρ aw (a.put o.dst v) w:=fun {cA} h r hc hm gh=>by
   unfold gX at h;simp only[hc,hm,Bool.false_eq_true,if_false] at h;obtain⟨v,y,hk,hv,b_⟩:=yX hT r h;exact⟨y,_,fun w' k9=>b_ w' (hS w' k9 _ gh),hk,r.put hv _⟩
 unfold km at h
 split at h
 · rename_i hg;obtain⟨v,aw,h1,h2,h3⟩:=go h r hc hm gh;exact⟨v,aw, .inl ⟨by simp[Region.wanted,hg],h1⟩,h2,h3⟩
 · rename_i j want hg
   split at h
   · rename_i d kQ;obtain⟨y1,y2⟩:=su (⟨H,ρ,r⟩:Rel Γ σ a w) kQ
     split at h
     · rename_i c hb
       split at h
       · rename_i fR;obtain⟨v,aw,h1,h2,h3⟩:=go h r hc hm gh;exact⟨v,aw, .inl ⟨by simp[Region.wanted,hg,y1 c hb,fR],h1⟩,h2,h3⟩
       · rename_i fR;exact⟨Go.undef,_, .inr ⟨by simp[Region.wanted,hg,y1 c hb,fR],rfl⟩,h,r.skip _⟩
     · rename_i hb;exact⟨Go.undef,_, .inr ⟨by simp[Region.wanted,hg,y2 hb],rfl⟩,h,r.skip _⟩
     · rename_i t hb;obtain⟨h⟩:=h;have r':=r.gd hb
       have aR:d<σ.env.length:=by
         rcases Nat.lt_or_ge d σ.env.length with h | h
         · exact h
         · rw[List.getD_eq_getElem?_getD,List.getElem?_eq_none h] at hb; cases hb
       have y3:=(su (⟨H,ρ,r'⟩:Rel Γ _ a w) kQ).1 (t ()) (by simp[SS.gd,List.getD_eq_getElem?_getD,aR]);have gS:=qZ (b:=t ()) hb
       split at h
       · rename_i fR;obtain⟨v,aw,h1,h2,h3⟩:=go h r' (EB hc) (EC gS rfl hm) (by rw[K6 gS]; exact gh);exact⟨v,aw, .inl ⟨by simp[Region.wanted,hg,y3,fR],h1⟩,h2,h3⟩
       · rename_i fR;exact⟨Go.undef,_, .inr ⟨by simp[Region.wanted,hg,y3,fR],rfl⟩,h,r'.skip _⟩
     · cases h
   · cases h
theorem xg {ops:Array Oper} {b:Bool} {nm0 pt:List Nat} {Q:Exit→Act→World→Prop} {w0:World} {ρ0:aF} {K:SS→Prop} (mY:Region.noSelect ops=true)
   (l5:b=false→Γ.hd = []) (dM:b=true→∀k∈nm0,(k,ρ0 k)∈Γ.hd) (jI:b=true→∀p∈Γ.hd,p.1∈nm0) (dK:∀k∈pt,k∈nm0) (aR:∀k∈nm0,∀x,0<(ρ0 k).2 x→x<w0.heap.size) (jn:∀k∈nm0,∀j∈nm0,k≠j→∀x,(ρ0 k).2 x+(ρ0 j).2 x≤1)
   (ib:∀k∈pt,∀b,(ρ0 k).1 = .pointer (some ⟨b,0,none⟩)→(ρ0 k).2=one b∨∀x,(ρ0 k).2 x=0) (jJ:∀c a w,¬Q (.panic c) a w) (hQ:∀aw a' w',K aw→(∃ρ,aG Γ H ρ aw a' w')→Q .normal a' w') :
   ∀ (n:Nat) {listed:Array Bool} {σ:SS} {a:Act} {w:World} {ρ:aF},pE P tab ops b nm0 pt n listed σ K→aG Γ H ρ σ a w→(b=true→gf ρ0 pt w0 w)→
     wpAnyH P .any ops Q (fun w'=>(∀x o,H x=some o→w'.heap[x]? = some o)∧(b=true→gf ρ0 pt w0 w')) n listed a w
 | 0,listed,σ,a,w,ρ,h,r,hk=>by
   unfold pE at h
   split at h
   · rename_i he;exact⟨he,hQ _ _ _ h ⟨ρ,r⟩⟩
   · cases h
 | n + 1, listed,σ,a,w,ρ,h,r,hk=>by
   unfold pE at h;have h:=K0 h
   split at h
   · rename_i he;exact wpAnyH_done he (hQ _ _ _ h ⟨ρ,r⟩) _
   · rename_i r0 rs he
     split at h
     · rename_i i hp;obtain⟨hi,o,ho,hd,hf⟩:=Ap hp;simp only[ho] at h
       obtain ⟨v,aw,hy,hK,r'⟩:=xf hT h hd r (S:=fun w'=>(∀x o,H x=some o→w'.heap[x]? = some o)∧(b=true→gf ρ0 pt w0 w')) fun w' k9 rd gh=>by
         refine⟨k9.1,fun k bw x hx=> ?_⟩;cases b with
         | false=>simp only[oo,List.isEmpty_iff] at gh; subst gh; cases bw
         | true=>
           have h1:k∈pt:=by
             simp only[oo,List.all_eq_true] at gh;simpa using gh k bw
           have h2:=(r.hd _ (dM rfl k (dK k h1))).2.2 x;have h0:0<(ρ0 k).2 x:=by simp only at h2; omega
           rw[k9.2 rfl k h1 x h0,hk rfl k h1 x h0]
       exact wpAnyH_take ho mY hf (by rw[he]; simpa using hi) (fun c a w hq=>(jJ _ _ _ hq).elim) hy ⟨r.b.hh,hk⟩ (xg mY l5 dM jI dK aR jn ib jJ hQ n hK r' hk)
     · refine wpAnyH_all he (by simp) fun i hi=> ?_;have h:=EI h i hi
       split at h
       · rename_i o ho
         split at h
         · rename_i cj;cases b with
           | false=>
             refine Am hT (fun _=>l5 rfl) ho h r fun aw a' w' hK hr=> ?_;obtain⟨⟨ρ',r'⟩,_⟩:=hr;exact⟨⟨r'.b.hh,fun hb=>by cases hb⟩,xg mY l5 dM jI dK aR jn ib jJ hQ n hK r' (fun hb=>by cases hb)⟩
           | true=>
             refine Ao hT ho (by simpa using cj) h r (dM rfl) (jI rfl) dK (fun k bw x hx=>⟨_,by rw[hk rfl k bw x hx]; exact Array.getElem?_eq_getElem (aR k (dK k bw) x hx)⟩) jn ib fun aw a' w' hK hr uH=> ?_;obtain⟨ρ',r'⟩:=hr;have bw:true=true→gf ρ0 pt w0 w':=fun _ k gw x hx=>by rw[uH k gw x hx,hk rfl k gw x hx]
             exact⟨⟨r'.b.hh,bw⟩,xg mY l5 dM jI dK aR jn ib jJ hQ n hK r' bw⟩
         · cases h
       · cases h
omit hT in
theorem EJ {h:Array Obj} {H:Hp} {ρ:aF} {D:Nat→Prop} {B:ak} {p:Value × (Nat→Nat)} (hr:cD h H ρ D B p) {b:Nat} (hp:p.1 = .pointer (some ⟨b,0,none⟩)):p.2=one b∨∀x,p.2 x=0:=by
 cases B with
 | dead=>simp only[cD] at hr; exact .inr fun x=>by rw[hr]
 | box cs=>
   obtain⟨b',vs,e,fz,h1,h2,_⟩:=hr;rw[hp] at h1;simp only[Value.pointer.injEq,Option.some.injEq,Addr.mk.injEq,and_true] at h1;subst h1;exact .inl h2
 | own E xs l=>
   obtain⟨b',c,h1,_⟩:=bc.slice hr;rw[hp] at h1; cases h1
 | view E xs=>exact .inr fun x=>by rw[hr.2]
 | bP E xs i fs=>
   obtain⟨b',o,c,cs,e,fz,S,h1,_⟩:=hr;rw[hp] at h1; cases h1
 | mp m=>
   obtain⟨b',es,c,h1,_⟩:=hr;rw[hp] at h1; cases h1
omit hT in
theorem uI {bs:List (Nat × ak)} {k:Nat}:∀{ks:List Nat},k∈pD bs ks→k∈ks
 | [],h=>by cases h
 | j ::ks,h=>by
   simp only[pD] at h
   split at h
   · rcases List.mem_cons.1 h with rfl | h
     · exact List.mem_cons_self
     · exact List.mem_cons_of_mem _ (uI h)
   · exact List.mem_cons_of_mem _ (uI h)
omit hT in
theorem q_ {l:List Nat} {k:Nat}:∀{ks:List Nat},k∈mW l ks→k∈ks
 | [],h=>by cases h
 | j ::ks,h=>by
   simp only[mW] at h
   split at h
   · exact List.mem_cons_of_mem _ (q_ h)
   · rcases List.mem_cons.1 h with rfl | h
     · exact List.mem_cons_self
     · exact List.mem_cons_of_mem _ (q_ h)
theorem K7 {id:Nat} {ops:Array Oper} {σ:SS} {a:Act} {w:World} {K:Exit→SS→Prop} {Q:Exit→Act→World→Prop} (bC:Γ.hd = [])
   (h:if Region.noSelect ops=true then Ag P tab ops σ fun aw=>K .normal aw else False)
   (r:Rel Γ σ a w) (hQ:∀aw a' w',K .normal aw→Rel Γ aw a' w'→Q .normal a' w'):(Code.region id ops true).wp P Q a w:=by
 split at h
 · rename_i mY
   have key:∀(b:Bool) (pt:List Nat),(∀k∈pt,k∈σ.af.map (·.1))→pE P tab ops b (σ.af.map (·.1)) pt ops.size (Array.replicate ops.size false) σ (fun aw=>K .normal aw)→(Code.region id ops true).wp P Q a w:=by
     intro b pt dK h;obtain⟨H,ρ,r⟩:=r
     let kq:Ctx:={Γ with hd:=if b=true then σ.af.map fun p=>(p.1,ρ p.1) else[]}
     have r':aG kq H ρ σ a {w with drawn:=w.drawn+1}:=by
       refine⟨r.b,r.e,r.d,r.n.trans (Ext.of (Nat.le_refl _) rfl rfl fun _=>rfl),fun p hp=> ?_,r.hm⟩;simp only[kq] at hp
       split at hp
       · obtain⟨q,hq,rfl⟩:=List.mem_map.1 hp;exact⟨List.mem_map.2 ⟨q,hq,rfl⟩,rfl,fun x=>Nat.le_refl _⟩
       · cases hp
     refine Code.wp_mono (Q:=fun e a w=>match e with | .normal=>Q .normal a w | _=>False) (fun e a w hq=>by cases e <;> first | exact hq | exact hq.elim) ?_
     refine wp_region_held (CG hT) (xg (Γ:=kq) (H:=H) (ρ0:=ρ) (w0:={w with drawn:=w.drawn+1}) hT mY (fun hb=>by simp only[kq,hb]; rfl) (fun hb k hk=> ?_) (fun hb p hp=> ?_) dK (fun k hk x hx=> ?_) (fun k hk j hj hne x=> ?_) (fun k hk b hb=> ?_) (fun c a w hq=>hq)
       (fun aw a' w' hK hr=> ?_) _ h r' (fun _ _ _ _ _=>rfl))
     · obtain⟨q,hq,rfl⟩:=List.mem_map.1 hk;simp only[kq,hb,if_true];exact List.mem_map.2 ⟨q,hq,rfl⟩
     · simp only[kq,hb,if_true] at hp;obtain⟨q,hq,rfl⟩:=List.mem_map.1 hp;exact List.mem_map.2 ⟨q,hq,rfl⟩
     · obtain⟨q,hq,rfl⟩:=List.mem_map.1 hk;exact r'.lt (Nat.lt_of_lt_of_le hx (lG hq x))
     · exact Nat.le_trans (qL hk hj (Ne.symm hne) x) (r.b.sum x)
     · obtain⟨q,hq,rfl⟩:=List.mem_map.1 (dK k hk);have h1:=r.b.af _ _ hq;exact EJ h1 hb
     · obtain⟨ρ',r2⟩:=hr;exact hQ _ _ _ hK ⟨H,ρ',r2.b,r2.e,r2.d,r2.n,by rw[bC];(intro p hp; cases hp),r2.hm⟩
   unfold Ag at h
   split at h
   · rename_i nw ws _;cases nw with
     | true=>exact key true _ (fun k hk=>q_ (uI hk)) h
     | false=>exact key true _ (fun k hk=>q_ hk) h
   · exact key false [] (fun k hk=>by cases hk) h
 · cases h
omit hT in
theorem EK:∀(l:List Bool) (j:Nat),lY l j=l.toArray.getD j false
 | [],j=>by simp[lY]
 | b::l,0=>by simp[lY]
 | b ::l,j+1=>by
   have:=EK l j;simp only[lY,this];simp[Array.getD_eq_getD_getElem?]
omit hT in
theorem sv:∀(l:List Bool) (i:Nat),ia l i=l.set i true
 | [],i=>by simp[ia]
 | b::l,0=>by simp[ia]
 | b::l,i+1=>by simp[ia,sv l i]
omit hT in
theorem Aq:∀{l:List Bool},jF l=true→∀b∈l,b=true
 | [],_,b,hb=>by cases hb
 | c ::l,h,b,hb=>by
   cases c with
   | false=>cases h
   | true=>
     cases hb with
     | head=>rfl
     | tail _ hb=>exact Aq (l:=l) h b hb
omit hT in
theorem EL:∀(os:List Oper),pF os=List.replicate os.length false
 | []=>rfl
 | _::os=>by simp[pF,EL os,List.replicate_succ]
omit hT in
theorem EM {l:List Bool}:∀{es:List Edge},jm l es=true↔∀e∈es,Region.binds .any e=true→lY l e.on=true
 | []=>by simp[jm]
 | e ::es=>by
   have ih:=EM (l:=l) (es:=es);unfold jm;cases h:Region.binds .any e with
   | false=>simp[ih,h]
   | true=>
     cases h2:lY l e.on with
     | false=>simp[h,h2]
     | true=>simp[ih,h,h2]
omit hT in
theorem xh {b:Bool} {pt:List Nat} {l0:List Bool} {σ:SS}:∀{os:List Oper} {ls:List Bool} {k i:Nat} {o:Oper},lZ tab b pt l0 σ os ls k=some (i,o)→
   ∃ j,i=k+j∧os[j]? = some o∧ls[j]? = some false∧jm l0 o.after.toList=true∧qU tab b pt σ o=true
 | [],ls,k,i,o,h=>by simp[lZ] at h
 | _::_,[],k,i,o,h=>by simp[lZ] at h
 | q :: os,l::ls,k,i,o,h=>by
   have next:lZ tab b pt l0 σ os ls (k+1)=some (i,o)→∃j,i=k+j∧(q::os)[j]? = some o∧(l::ls)[j]? = some false∧jm l0 o.after.toList=true∧qU tab b pt σ o=true:=fun h=>by
     obtain⟨j,h1,h2,h3,h4⟩:=xh h;exact⟨j+1,by omega,by simpa using h2,by simpa using h3,h4⟩
   unfold lZ at h;cases l with
   | true=>exact next h
   | false=>
     simp only at h
     split at h
     · rename_i ha
       split at h
       · rename_i hd;cases h;exact⟨0,rfl,rfl,rfl,ha,hd⟩
       · exact next h
     · exact next h
omit hT in
theorem As {l0:List Bool}:∀{os:List Oper} {ls:List Bool} {k j:Nat} {o:Oper},os[j]? = some o→ls[j]? = some false→jm l0 o.after.toList=true→(k+j,o)∈jG l0 os ls k
 | [],ls,k,j,o,h,_,_=>by simp at h
 | _::_,[],k,j,o,_,h,_=>by simp at h
 | q ::os,l::ls,k,0,o,h1,h2,h3=>by
   simp only[List.getElem?_cons_zero,Option.some.injEq] at h1 h2;subst h1; subst h2;unfold jG;simp only[h3,Nat.add_zero,List.mem_cons,true_or]
 | q ::os,l::ls,k,j+1,o,h1,h2,h3=>by
   have ih:=As (l0:=l0) (os:=os) (ls:=ls) (k:=k+1) (j:=j) (o:=o) (by simpa using h1) (by simpa using h2) h3;rw[show k+(j+1)=k+1+j by omega];unfold jG
   split
   · exact ih
   · split
     · exact List.mem_cons_of_mem _ ih
     · exact ih
omit hT in
theorem At {l0:List Bool}:∀{os:List Oper} {ls:List Bool} {k i:Nat} {o:Oper},(i,o)∈jG l0 os ls k→∃j,i=k+j∧os[j]? = some o∧ls[j]? = some false∧jm l0 o.after.toList=true
 | [],ls,k,i,o,h=>by simp[jG] at h
 | _::_,[],k,i,o,h=>by simp[jG] at h
 | q :: os,l::ls,k,i,o,h=>by
   have next:(i,o)∈jG l0 os ls (k+1)→∃j,i=k+j∧(q::os)[j]? = some o∧(l::ls)[j]? = some false∧jm l0 o.after.toList=true:=fun h=>by
     obtain⟨j,h1,h2,h3,h4⟩:=At h;exact⟨j+1,by omega,by simpa using h2,by simpa using h3,h4⟩
   unfold jG at h
   split at h
   · exact next h
   · split at h
     · rename_i ha;rcases List.mem_cons.1 h with h | h
       · cases h;exact⟨0,rfl,rfl,rfl,ha⟩
       · exact next h
     · exact next h
omit hT in
theorem Au {q:Nat→Oper→Prop}:∀{l:List (Nat × Oper)},w9 l q→∀p∈l,q p.1 p.2
 | [],_,p,hp=>by cases hp
 | [_],h,p,hp=>by cases List.mem_singleton.1 hp; exact h
 | _ ::r::l,h,p,hp=>by
   rcases List.mem_cons.1 hp with rfl | hp
   · exact h.1
   · exact Au (l:=r::l) h.2 p hp
omit hT in
theorem pG {ops:Array Oper} {l:List Bool} {i:Nat}:i∈Region.ready .any ops l.toArray↔l.toArray.getD i true=false∧∃o,ops.toList[i]? = some o∧jm l o.after.toList=true:=by
 rw[mem_ready];simp only[EM,EK,Array.getElem?_toList,Array.mem_toList_iff]
omit hT in
theorem ow {l:List Bool} {i:Nat}:l.toArray.getD i true=false↔l[i]? = some false:=by
 rw[Array.getD_eq_getD_getElem?,List.getElem?_toArray];cases h:l[i]? with
 | none=>simp
 | some b=>simp
omit hT in
theorem EN {ops:Array Oper} (hf:mX ops=true) {l:Array Bool} {i:Nat} (hi:i∈Region.ready .any ops l):Region.free .any ops l i=true:=by
 obtain⟨h1,o,h2,h3⟩:=mem_ready.1 hi;simp only[mX,Bool.and_eq_true,List.all_eq_true,List.mem_range] at hf;have aR:=(Array.getElem?_eq_some_iff.1 h2).1;have h4:=hf.1 i aR;simp only[EA,h2,List.all_eq_true,List.mem_range] at h4;simp only[Region.free,h2,List.all_eq_true,List.mem_range];intro j hj;have h5:=h4 j hj;simp only[Bool.or_eq_true] at h5 ⊢;rcases h5 with h5 | h5
 · exact .inl (.inl h5)
 · cases uJ:l.getD j true with
   | true=>exact .inl (.inr rfl)
   | false =>
     refine .inr ?_;cases K8:ops[j]? with
     | none=>rfl
     | some oj=>
       simp only[K8,Bool.or_eq_true] at h5 ⊢;rcases h5 with(h5 | h5) | h5
       · exact .inl h5
       · exfalso;obtain⟨e,he,h6⟩:=Array.any_eq_true'.1 h5;simp only[Bool.and_eq_true,beq_iff_eq] at h6;have h7:=h3 e he h6.1;rw[h6.2] at h7;rw[Array.getD_eq_getD_getElem?] at h7 uJ;cases h8:l[j]? with
         | none=>rw[h8] at h7; cases h7
         | some b=>rw[h8] at h7 uJ; simp at h7 uJ; rw[h7] at uJ; cases uJ
       · exact .inr h5
omit hT in
theorem Av:∀{l m:List Bool},qW l m=true→l=m
 | [],[],_=>rfl
 | [],_::_,h=>by simp[qW] at h
 | _::_,[],h=>by simp[qW] at h
 | b ::bs,c::cs,h=>by
   cases b <;> cases c <;> simp only[qW] at h
   · rw[Av h]
   · cases h
   · cases h
   · rw[Av h]
omit hT in
theorem uK {p:List Bool→Prop}:∀{rs:List Row} {l l':List Bool},qX rs l p→oq rs l l'=true→p l'
 | [],l,l',h,hi=>by
   rw[←Av hi]; exact h.1
 | r :: rs,l,l',h,hi=>by
   unfold qX at h;unfold oq at hi
   split at h
   · rename_i ha;rw[ha] at hi;exact uK h hi
   · rename_i ha;rw[ha] at hi
     split at h
     · rename_i ht;rw[ht] at hi;exact uK h hi
     · rename_i ht;rw[ht] at hi;simp only at hi
       split at hi
       · exact uK h.1.1 hi
       · exact uK h.2.1 hi
omit hT in
theorem Aw:∀{l:List Bool} {i:Nat},l[i]? = some false→jH l=jH (ia l i)+1
 | [],i,h=>by simp at h
 | b ::l,0,h=>by
   simp only[List.getElem?_cons_zero,Option.some.injEq] at h;subst h; rfl
 | b ::l,i+1,h=>by
   have ih:=Aw (l:=l) (i:=i) (by simpa using h);cases b <;> simp only[jH,ia,ih]
omit hT in
theorem EO:∀{l:List Bool},jH l=0→jF l=true
 | [],_=>rfl
 | b ::l,h=>by
   cases b with
   | true=>exact EO (l:=l) h
   | false=>simp[jH] at h
omit hT in
theorem EP {l:List Bool} {σ:SS}:∀{rs:List Row},xc l rs=true→uD l rs σ=σ
 | [],_=>rfl
 | r ::rs,h=>by
   unfold xc at h;unfold uD
   split at h
   · cases h
   · exact EP h
omit hT in
theorem K9 {o:Oper} {a:Act} {w:World} {C:Prop} (h:o.wp P a w (fun _ _=>C) (fun _ _ _=>False)):C:=by
 unfold Oper.wp at h;cases hr:(execOp a.eval o).run P w with
 | ok n w'=>
   rw[hr] at h;cases n with
   | value v=>exact h
   | skip=>exact h
   | defer d=>exact h
   | enter f args=>
     obtain⟨e,qy,fr,h1,_⟩:=h [];cases e with
     | returned v=>exact h1
     | panicked c=>exact h1.elim
     | outgrown=>obtain⟨_,_,h2⟩:=h1; exact h2.elim
   | row r args=>
     obtain⟨v,qy,h1,_⟩:=h (Frame.ofRow P r args .normal) [];exact h1
   | _=>exact h.elim
 | halt x w'=>
   rw[hr] at h;cases x <;> exact h.elim
theorem Ax {ops:Array Oper} {b:Bool} {pt:List Nat} (bC:Γ.hd = []):∀(n:Nat) {l:List Bool} {σ:SS} {rs:List Row} {J:List Row→SS→Prop} {ρ:aF} {a:Act} {w:World},sq P tab ops.toList b pt n l σ rs J→aG Γ H ρ σ a w→∃K_ aw,J K_ aw
 | 0,l,σ,rs,J,ρ,a,w,h,r=>by
   unfold sq at h
   split at h
   · exact⟨_,_,h⟩
   · cases h
 | n + 1, l,σ,rs,J,ρ,a,w,h,r=>by
   unfold sq at h
   split at h
   · exact⟨_,_,h⟩
   · split at h
     · rename_i i o hp;obtain⟨j,hj,h1,h2,h3,hd⟩:=xh hp;obtain⟨v,aw,_,hK,r'⟩:=xf hT h hd r (S:=fun w'=>w'=w) (fun w' k9 rd _=>by rw[k9]; exact mv.refl r _);exact Ax bC n hK r'
     · split at h
       · cases h
       · rename_i i o _ _
         split at h
         · have h1:=xd hT (Q:=fun _ _ _=>False) (fun _=>bC) h r;refine K9 (o:=o) (a:=a) (w:=w) (P:=P) (Oper.wp_mono (fun a' w' h2=> ?_) h1);obtain⟨aw,hK,⟨ρ',r'⟩,_⟩:=h2;exact Ax bC n hK r'
         · cases h
theorem ER {ops:Array Oper} {b:Bool} {nm0 pt:List Nat} {Q:Exit→Act→World→Prop} {w0:World} {ρ0:aF} (gG:mX ops=true)
   (dM:b=true→∀k∈nm0,(k,ρ0 k)∈Γ.hd) (dK:∀k∈pt,k∈nm0) (jJ:∀c a w,¬Q (.panic c) a w) {J:List Bool→SS→Prop} :
   ∀ (n:Nat) {m:Nat} {l:List Bool} {σ:SS} {a:Act} {w:World} {ρ:aF},uF P tab ops.toList b pt n l σ J→aG Γ H ρ σ a w→(b=true→gf ρ0 pt w0 w)→jH l≤m→
     (∀m' l' aw a' w' ρ',m'≤m→J l' aw→aG Γ H ρ' aw a' w'→(b=true→gf ρ0 pt w0 w')→jH l'≤m'→wpAnyH P .any ops Q (fun w'=>(∀x o,H x=some o→w'.heap[x]? = some o)∧(b=true→gf ρ0 pt w0 w')) m' l'.toArray a' w')→
     wpAnyH P .any ops Q (fun w'=>(∀x o,H x=some o→w'.heap[x]? = some o)∧(b=true→gf ρ0 pt w0 w')) m l.toArray a w
 | 0,m,l,σ,a,w,ρ,h,r,hk,hc,go=>go m l σ a w ρ (Nat.le_refl _) h r hk hc
 | n + 1, m,l,σ,a,w,ρ,h,r,hk,hc,go=>by
   have mY:Region.noSelect ops=true:=by
     have h1:=gG;simp only[mX,Bool.and_eq_true] at h1;exact h1.2
   unfold uF at h
   split at h
   · rename_i i o hp;obtain⟨j,hj,h1,h2,h3,hd⟩:=xh hp;rw[Nat.zero_add] at hj;subst hj;have hi:i∈Region.ready .any ops l.toArray:=pG.2 ⟨ow.2 h2,o,h1,h3⟩;have ho:ops[i]? = some o:=by rw[←Array.getElem?_toList]; exact h1
     obtain⟨v,aw,hy,hK,r'⟩:=xf hT h hd r (S:=fun w'=>(∀x o,H x=some o→w'.heap[x]? = some o)∧(b=true→gf ρ0 pt w0 w')) fun w' k9 rd gh=>by
      refine⟨k9.1,fun k bw x hx=> ?_⟩;cases b with
      | false=>simp only[oo,List.isEmpty_iff] at gh; subst gh; cases bw
      | true=>
        have h1:k∈pt:=by
         simp only[oo,List.all_eq_true] at gh;simpa using gh k bw
        have h2:=(r.hd _ (dM rfl k (dK k h1))).2.2 x;have h0:0<(ρ0 k).2 x:=by simp only at h2; omega
        rw[k9.2 rfl k h1 x h0,hk rfl k h1 x h0]
     have cV:=Aw h2;obtain⟨m,rfl⟩:∃m',m=m'+1:=⟨m - 1,by omega⟩;have l6:=ER gG dM dK jJ n (m:=m) hK r' hk (by omega) (fun m' l' aw a' w' ρ' hm=>go m' l' aw a' w' ρ' (by omega));rw[sv,←List.setIfInBounds_toArray] at l6;exact wpAnyH_take ho mY (EN gG hi) (by simpa using hi) (fun c a w hq=>(jJ _ _ _ hq).elim) hy ⟨r.b.hh,hk⟩ l6
   · exact go m l σ a w ρ (Nat.le_refl _) h r hk hc
theorem La {ops:Array Oper} {b:Bool} {nm0 pt:List Nat} {Q:Exit→Act→World→Prop} {w0:World} {ρ0:aF} {K:SS→Prop} (gG:mX ops=true)
   (l5:b=false→Γ.hd = []) (dM:b=true→∀k∈nm0,(k,ρ0 k)∈Γ.hd) (jI:b=true→∀p∈Γ.hd,p.1∈nm0) (dK:∀k∈pt,k∈nm0) (aR:∀k∈nm0,∀x,0<(ρ0 k).2 x→x<w0.heap.size) (jn:∀k∈nm0,∀j∈nm0,k≠j→∀x,(ρ0 k).2 x+(ρ0 j).2 x≤1)
   (ib:∀k∈pt,∀b,(ρ0 k).1 = .pointer (some ⟨b,0,none⟩)→(ρ0 k).2=one b∨∀x,(ρ0 k).2 x=0) (jJ:∀c a w,¬Q (.panic c) a w) (hQ:∀aw a' w',K aw→(∃ρ,aG Γ H ρ aw a' w')→Q .normal a' w')
   {nodes:List Bool→Bool} {st:List Bool→SS} (hK:∀l,jF l=true→K (st l)) (hn:∀l,nodes l=true→Ai P tab ops.toList b nm0 pt nodes st l) :
   ∀ (m:Nat) {l:List Bool} {a:Act} {w:World} {ρ:aF},nodes l=true→aG Γ H ρ (st l) a w→(b=true→gf ρ0 pt w0 w)→jH l≤m→
     wpAnyH P .any ops Q (fun w'=>(∀x o,H x=some o→w'.heap[x]? = some o)∧(b=true→gf ρ0 pt w0 w')) m l.toArray a w:=by
 have fH:∀{l:List Bool},jF l=true→Region.ready .any ops l.toArray = []:=fun {l} h=>by
   refine List.eq_nil_iff_forall_not_mem.2 fun i hi=> ?_;obtain⟨h1,_⟩:=pG.1 hi;have:=Aq h _ (List.mem_of_getElem? (ow.1 h1));cases this
 intro m
 induction m using Nat.strongRecOn with
 | ind m ih =>
   intro l a w ρ hl r hk hc;cases uL:jF l with
   | true=>exact wpAnyH_done (fH uL) (hQ _ _ _ (hK l uL) ⟨ρ,r⟩) _
   | false =>
     have h:=hn l hl;unfold Ai at h;rw[uL] at h;simp only at h
     split at h
     · cases h
     · rename_i r0 rs he
       have hne:Region.ready .any ops l.toArray≠ []:=by
         obtain⟨i0,o0⟩:=r0;obtain⟨j,hj,h1,h2,h3⟩:=At (i:=i0) (o:=o0) (by rw[he]; exact List.mem_cons_self);rw[Nat.zero_add] at hj;subst hj;intro h0;have:i0∈Region.ready .any ops l.toArray:=pG.2 ⟨ow.2 h2,o0,h1,h3⟩;rw[h0] at this; cases this
       obtain⟨m,rfl⟩:∃m',m=m'+1:=by
         cases m with
         | zero=>
           have:=EO (Nat.le_zero.1 hc);rw[this] at uL; cases uL
         | succ m=>exact⟨m,rfl⟩
       refine wpAnyH_all rfl hne fun i hi=> ?_;obtain⟨h1,o,h2,h3⟩:=pG.1 hi;have cM:=As (l0:=l) (k:=0) h2 (ow.1 h1) h3;rw[Nat.zero_add,he] at cM;have h:=Au h _ cM;have ho:ops[i]? = some o:=by rw[←Array.getElem?_toList]; exact h2
       have cV:=Aw (ow.1 h1)
       have next:∀(aw:SS) (a':Act) (w':World) (ρ':aF),uF P tab ops.toList b pt (jH l) (ia l i) aw (fun l' sr=>match nodes l' with | true=>sr=st l' | false=>False)→aG Γ H ρ' aw a' w'→(b=true→gf ρ0 pt w0 w')→
           wpAnyH P .any ops Q (fun w'=>(∀x o,H x=some o→w'.heap[x]? = some o)∧(b=true→gf ρ0 pt w0 w')) m (l.toArray.setIfInBounds i true) a' w':=fun aw a' w' ρ' hR r' bw=>by
         have:=ER hT gG dM dK jJ (jH l) (m:=m) hR r' bw (by omega) (fun m' l' aw a' w' ρ' hm hJ r' bw wv=>by
           split at hJ
           · rename_i wR;subst hJ;exact ih m' (by omega) wR r' bw wv
           · cases hJ)
         rw[sv,←List.setIfInBounds_toArray] at this;exact this
       simp only at h
       split at h
       · rename_i cj;cases b with
         | false=>
           refine Am hT (fun _=>l5 rfl) ho h r fun aw a' w' Ay hr=> ?_;obtain⟨⟨ρ',r'⟩,_⟩:=hr;exact⟨⟨r'.b.hh,fun hb=>by cases hb⟩,next _ _ _ _ Ay r' (fun hb=>by cases hb)⟩
         | true=>
           refine Ao hT ho (by simpa using cj) h r (dM rfl) (jI rfl) dK (fun k bw x hx=>⟨_,by rw[hk rfl k bw x hx]; exact Array.getElem?_eq_getElem (aR k (dK k bw) x hx)⟩) jn ib fun aw a' w' Ay hr uH=> ?_;obtain⟨ρ',r'⟩:=hr;have bw:true=true→gf ρ0 pt w0 w':=fun _ k gw x hx=>by rw[uH k gw x hx,hk rfl k gw x hx]
           exact⟨⟨r'.b.hh,bw⟩,next _ _ _ _ Ay r' bw⟩
       · cases h
theorem Lb {ops:Array Oper} {b:Bool} {nm0 pt:List Nat} {Q:Exit→Act→World→Prop} {w0:World} {ρ0:aF} {K:SS→Prop} (gG:mX ops=true)
  (l5:b=false→Γ.hd = []) (dM:b=true→∀k∈nm0,(k,ρ0 k)∈Γ.hd) (jI:b=true→∀p∈Γ.hd,p.1∈nm0) (dK:∀k∈pt,k∈nm0) (aR:∀k∈nm0,∀x,0<(ρ0 k).2 x→x<w0.heap.size) (jn:∀k∈nm0,∀j∈nm0,k≠j→∀x,(ρ0 k).2 x+(ρ0 j).2 x≤1)
  (ib:∀k∈pt,∀b,(ρ0 k).1 = .pointer (some ⟨b,0,none⟩)→(ρ0 k).2=one b∨∀x,(ρ0 k).2 x=0) (jJ:∀c a w,¬Q (.panic c) a w) (hQ:∀aw a' w',K aw→(∃ρ,aG Γ H ρ aw a' w')→Q .normal a' w')
  {n :Nat} {l:List Bool} {σ:SS} {a:Act} {w:World} {ρ:aF} (hl:jF l=false) (h:Ez P tab ops.toList b nm0 pt n l σ K) (r:aG Γ H ρ σ a w) (hk:b=true→gf ρ0 pt w0 w) :
   wpAnyH P .any ops Q (fun w'=>(∀x o,H x=some o→w'.heap[x]? = some o)∧(b=true→gf ρ0 pt w0 w')) n l.toArray a w:=by
 have r0:aG {Γ with hd:=[]} H ρ σ a w:=⟨r.b,r.e,r.d,r.n,(fun p hp=>by cases hp),r.hm⟩;obtain⟨rows,qV,pj,hb,ht⟩:=Ax (Γ:={Γ with hd:=[]}) hT rfl n h r0;simp only[Bool.and_eq_true] at hb;obtain⟨k_,dN,gk⟩:=hb
 have e0:uE rows σ qV l=σ:=by
  unfold uE;rw[hl];exact EP gk
 refine La hT gG l5 dM jI dK aR jn ib jJ hQ (nodes:=oq rows l) (st:=uE rows σ qV) (fun l' iP=> ?_) (fun l' iP=>uK ht iP) n k_ (by rw[e0]; exact r) hk (Nat.le_of_ble_eq_true dN);unfold uE;rw[iP];exact pj
theorem Lc {ops:Array Oper} {b:Bool} {nm0 pt:List Nat} {Q:Exit→Act→World→Prop} {w0:World} {ρ0:aF} {K:SS→Prop} (gG:mX ops=true)
   (l5:b=false→Γ.hd = []) (dM:b=true→∀k∈nm0,(k,ρ0 k)∈Γ.hd) (jI:b=true→∀p∈Γ.hd,p.1∈nm0) (dK:∀k∈pt,k∈nm0) (aR:∀k∈nm0,∀x,0<(ρ0 k).2 x→x<w0.heap.size) (jn:∀k∈nm0,∀j∈nm0,k≠j→∀x,(ρ0 k).2 x+(ρ0 j).2 x≤1)
   (ib:∀k∈pt,∀b,(ρ0 k).1 = .pointer (some ⟨b,0,none⟩)→(ρ0 k).2=one b∨∀x,(ρ0 k).2 x=0) (jJ:∀c a w,¬Q (.panic c) a w) (hQ:∀aw a' w',K aw→(∃ρ,aG Γ H ρ aw a' w')→Q .normal a' w') :
   ∀ (n:Nat) {l:List Bool} {σ:SS} {a:Act} {w:World} {ρ:aF},ot P tab ops.toList b nm0 pt n l σ K→aG Γ H ρ σ a w→(b=true→gf ρ0 pt w0 w)→
     wpAnyH P .any ops Q (fun w'=>(∀x o,H x=some o→w'.heap[x]? = some o)∧(b=true→gf ρ0 pt w0 w')) n l.toArray a w:=by
 have mY:Region.noSelect ops=true:=by
   simp only[mX,Bool.and_eq_true] at gG;exact gG.2
 have fH:∀{l:List Bool},jF l=true→Region.ready .any ops l.toArray = []:=fun {l} h=>by
   refine List.eq_nil_iff_forall_not_mem.2 fun i hi=> ?_;obtain⟨h1,_⟩:=pG.1 hi;have:=Aq h _ (List.mem_of_getElem? (ow.1 h1));cases this
 intro n
 induction n with
 | zero=>
   intro l σ a w ρ h r hk;unfold ot at h
   split at h
   · rename_i he;exact⟨fH he,hQ _ _ _ h ⟨ρ,r⟩⟩
   · cases h
 | succ n ih =>
   intro l σ a w ρ h r hk;unfold ot at h
   split at h
   · rename_i he;exact wpAnyH_done (fH he) (hQ _ _ _ h ⟨ρ,r⟩) _
   · split at h
     · rename_i i o hp;obtain⟨j,hj,h1,h2,h3,hd⟩:=xh hp;rw[Nat.zero_add] at hj;subst hj;have hi:i∈Region.ready .any ops l.toArray:=pG.2 ⟨ow.2 h2,o,h1,h3⟩;have ho:ops[i]? = some o:=by rw[←Array.getElem?_toList]; exact h1
       obtain ⟨v,aw,hy,hK,r'⟩:=xf hT h hd r (S:=fun w'=>(∀x o,H x=some o→w'.heap[x]? = some o)∧(b=true→gf ρ0 pt w0 w')) fun w' k9 rd gh=>by
         refine⟨k9.1,fun k bw x hx=> ?_⟩;cases b with
         | false=>simp only[oo,List.isEmpty_iff] at gh; subst gh; cases bw
         | true=>
           have h1:k∈pt:=by
             simp only[oo,List.all_eq_true] at gh;simpa using gh k bw
           have h2:=(r.hd _ (dM rfl k (dK k h1))).2.2 x;have h0:0<(ρ0 k).2 x:=by simp only at h2; omega
           rw[k9.2 rfl k h1 x h0,hk rfl k h1 x h0]
       have l6:=ih hK r' hk;rw[sv,←List.setIfInBounds_toArray] at l6;exact wpAnyH_take ho mY (EN gG hi) (by simpa using hi) (fun c a w hq=>(jJ _ _ _ hq).elim) hy ⟨r.b.hh,hk⟩ l6
     · split at h
       · cases h
       · rename_i r0 rs he
         have hne:Region.ready .any ops l.toArray≠ []:=by
           obtain⟨i0,o0⟩:=r0;obtain⟨j,hj,h1,h2,h3⟩:=At (i:=i0) (o:=o0) (by rw[he]; exact List.mem_cons_self);rw[Nat.zero_add] at hj;subst hj;intro h0;have:i0∈Region.ready .any ops l.toArray:=pG.2 ⟨ow.2 h2,o0,h1,h3⟩;rw[h0] at this; cases this
         split at h
         · exact Lb hT gG l5 dM jI dK aR jn ib jJ hQ (by assumption) h r hk
         refine wpAnyH_all rfl hne fun i hi=> ?_;obtain⟨h1,o,h2,h3⟩:=pG.1 hi;have cM:=As (l0:=l) (k:=0) h2 (ow.1 h1) h3;rw[Nat.zero_add,he] at cM;have h:=Au h _ cM;have ho:ops[i]? = some o:=by rw[←Array.getElem?_toList]; exact h2
         simp only at h
         split at h
         · rename_i cj;cases b with
           | false=>
             refine Am hT (fun _=>l5 rfl) ho h r fun aw a' w' hK hr=> ?_;obtain⟨⟨ρ',r'⟩,_⟩:=hr;have l6:=ih hK r' (fun hb=>by cases hb);rw[sv,←List.setIfInBounds_toArray] at l6;exact⟨⟨r'.b.hh,fun hb=>by cases hb⟩,l6⟩
           | true=>
             refine Ao hT ho (by simpa using cj) h r (dM rfl) (jI rfl) dK (fun k bw x hx=>⟨_,by rw[hk rfl k bw x hx]; exact Array.getElem?_eq_getElem (aR k (dK k bw) x hx)⟩) jn ib fun aw a' w' hK hr uH=> ?_;obtain⟨ρ',r'⟩:=hr;have bw:true=true→gf ρ0 pt w0 w':=fun _ k gw x hx=>by rw[uH k gw x hx,hk rfl k gw x hx]
             have l6:=ih hK r' bw;rw[sv,←List.setIfInBounds_toArray] at l6;exact⟨⟨r'.b.hh,bw⟩,l6⟩
         · cases h
theorem Ld {id:Nat} {ops:Array Oper} {σ:SS} {a:Act} {w:World} {K:Exit→SS→Prop} {Q:Exit→Act→World→Prop} (bC:Γ.hd = []) (gG:mX ops=true)
   (h:Aj P tab ops σ fun aw=>K .normal aw)
   (r:Rel Γ σ a w) (hQ:∀aw a' w',K .normal aw→Rel Γ aw a' w'→Q .normal a' w'):(Code.region id ops true).wp P Q a w:=by
 have key:∀(b:Bool) (nm0 pt:List Nat),(∀k∈nm0,k∈σ.af.map (·.1))→(∀k∈pt,k∈nm0)→ot P tab ops.toList b nm0 pt ops.toList.length (pF ops.toList) σ (fun aw=>K .normal aw)→(Code.region id ops true).wp P Q a w:=by
   intro b nm0 pt eM dK h;obtain⟨H,ρ,r⟩:=r
   let kq:Ctx:={Γ with hd:=if b=true then nm0.map fun k=>(k,ρ k) else[]}
   have r':aG kq H ρ σ a {w with drawn:=w.drawn+1}:=by
    refine⟨r.b,r.e,r.d,r.n.trans (Ext.of (Nat.le_refl _) rfl rfl fun _=>rfl),fun p hp=> ?_,r.hm⟩;simp only[kq] at hp
    split at hp
    · obtain⟨q,hq,rfl⟩:=List.mem_map.1 hp;exact⟨eM q hq,rfl,fun x=>Nat.le_refl _⟩
    · cases hp
   have Le:(pF ops.toList).toArray=Array.replicate ops.size false:=by rw[EL]; simp
   have aY:ops.toList.length=ops.size:=by simp
   refine Code.wp_mono (Q:=fun e a w=>match e with | .normal=>Q .normal a w | _=>False) (fun e a w hq=>by cases e <;> first | exact hq | exact hq.elim) ?_
   have main:=Lc (Γ:=kq) (H:=H) (ρ0:=ρ) (w0:={w with drawn:=w.drawn+1}) (b:=b) (nm0:=nm0) (pt:=pt) (K:=fun aw=>K .normal aw) (Q:=fun e a w=>match e with | .normal=>Q .normal a w | _=>False) hT gG (fun hb=>by simp only[kq,hb]; rfl) (fun hb k hk=>by
      simp only[kq,hb,if_true];exact List.mem_map.2 ⟨k,hk,rfl⟩) (fun hb p hp=>by
      simp only[kq,hb,if_true] at hp;obtain⟨q,hq,rfl⟩:=List.mem_map.1 hp;exact hq) dK (fun k hk x hx=>by
      obtain⟨q,hq,rfl⟩:=List.mem_map.1 (eM k hk);exact r'.lt (Nat.lt_of_lt_of_le hx (lG hq x))) (fun k hk j hj hne x=>Nat.le_trans (qL (eM k hk) (eM j hj) (Ne.symm hne) x) (r.b.sum x)) (fun k hk b hb=>by
      obtain⟨q,hq,rfl⟩:=List.mem_map.1 (eM k (dK k hk));exact EJ (r.b.af _ _ hq) hb) (fun c a w hq=>hq) (fun aw a' w' hK hr=>by
      obtain⟨ρ',r2⟩:=hr;exact hQ _ _ _ hK ⟨H,ρ',r2.b,r2.e,r2.d,r2.n,by rw[bC];(intro p hp; cases hp),r2.hm⟩) _ h r' (fun _ _ _ _ _=>rfl)
   rw[Le,aY] at main;exact wp_region_held (CG hT) main
 unfold Aj at h
 split at h
 · rename_i nw ws _;cases nw with
   | true=>exact key true _ _ (fun k hk=>hk) (fun k hk=>q_ (uI hk)) h
   | false=>exact key true _ _ (fun k hk=>hk) (fun k hk=>q_ hk) h
 · split at h
   · exact key true _ _ (fun k hk=>q_ (uI hk)) (fun k hk=>hk) h
   · exact key false _ [] (fun k hk=>hk) (fun k hk=>by cases hk) h
end
end Go.Proofs.YtpklefhdkkegiaaGreat

