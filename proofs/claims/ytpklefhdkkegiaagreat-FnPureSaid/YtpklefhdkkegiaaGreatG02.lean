/- Parts of a proof. No conditions. -/

import Derived.Test.YtpklefhdkkegiaaGreatG01
import Derived.Deep.AppendSrc
import Derived.Great.BuildSlice
import Derived.Laws.MakeOwn
set_option linter.unusedSimpArgs false
set_option linter.unusedVariables false
namespace Go.Proofs.YtpklefhdkkegiaaGreat
open Go
theorem o_ {bs:List (Nat × ak)} {k:Nat} {B:ak} (h:(k,B)∈bs):av bs k:=List.mem_map.2 ⟨_,h,rfl⟩
theorem qL {ρ:aF} {bs:List (Nat × ak)} {k j:Nat} (hk:av bs k) (hj:av bs j) (hne:j≠k) (x:Nat):(ρ k).2 x+(ρ j).2 x≤aP ρ bs x:=by
 rw[C2 hk x];have h:=C3 hj hne;obtain⟨⟨j',B⟩,h1,h2⟩:=List.mem_map.1 h;simp only at h2;subst h2;have:=lG (ρ:=ρ) h1 x;omega
theorem aG.rV {Γ:Ctx} {H:Hp} {ρ:aF} {σ:SS} {a:Act} {w w':World} (r:aG Γ H ρ σ a w) {k:Nat} {B B':ak} (hk:aL σ.af k=some B)
   (hold:∀x,¬fa B (ρ k) x→w'.heap[x]? = w.heap[x]?) (aY:Ext w w')
   (hB:cD w'.heap H ρ (av σ.af) B' (ρ k)) (qM:∀x,fa B' (ρ k) x→fa B (ρ k) x) (hS:∀x,fa B (ρ k) x→0<(ρ k).2 x) :
   aG Γ H ρ {σ with af:=bK σ.af k B'} a w':=by
 have hm:=cK hk;have hd:=o_ hm;have e:av (bK σ.af k B')=av σ.af:=by funext j; exact propext dR
 refine⟨⟨?_,by rw[qz]; exact r.b.nd,r.b.h0, ?_, ?_, ?_, ?_, ?_⟩,by rw[e]; exact r.e,r.d,r.n.trans aY,by rw[e]; exact r.hd,by rw[e]; exact r.hm⟩
 · intro j hj; exact r.b.oc j (dR.1 hj)
 · intro b o hb;rw[hold b fun ht=>by have:=r.b.gn k B hm b ht; rw[this] at hb; cases hb];exact r.b.hh b o hb
 · intro j A hj;rw[e];rcases jd r.b.nd hj with⟨rfl,rfl⟩ | ⟨hne,hj⟩
   · exact hB
   · refine(r.b.af j A hj).mono (iN.refl _ _ _) fun b hb=>hold b fun ht=> ?_;have h1:=qL (ρ:=ρ) hd (o_ hj) hne b;have h2:=r.b.sum b;have h3:=hS b ht;omega
 · intro x;have:=qA (ρ:=ρ) (ρ':=ρ) r.b.nd (B:=B') hd (fun _ _=>rfl) x;have:=r.b.sum x;show aP ρ (bK σ.af k B') x≤1;omega
 · intro j A hj x hx;rcases jd r.b.nd hj with⟨rfl,rfl⟩ | ⟨hne,hj⟩
   · exact r.b.fresh _ B hm x hx
   · exact r.b.fresh j A hj x hx
 · intro j A hj x hx;rcases jd r.b.nd hj with⟨rfl,rfl⟩ | ⟨hne,hj⟩
   · exact r.b.gn _ B hm x (qM x hx)
   · exact r.b.gn j A hj x hx
theorem dk:∀(us:List Value) (vs:Array Value) (o:Nat),(cZ vs o us).size=vs.size
 | [],_,_=>rfl
 | u::us,vs,o=>by simp only[cZ]; rw[dk us]; simp
theorem Jz {w:World} {b o:Nat} {vs:Array Value} {e:TypeId} {fz:Nat × Nat} (hb:w.heap[b]? = some (.cells vs e fz)) (hf:NF vs fz) (ho:o<vs.size):w.frozen? ⟨b,o,none⟩=false:=by
 obtain⟨lo,hi⟩:=fz;simp only[World.frozen?,hb];rcases hf with hf | hf
 · simp only at hf;have:¬(lo≤o∧o<hi):=by omega
   simpa using this
 · simp only at hf;have:¬(lo≤o∧o<hi):=by omega
   simpa using this
theorem JA (w:World) (b o:Nat) (v:Value) {vs:Array Value} {e:TypeId} {fz:Nat × Nat} (hb:w.heap[b]? = some (.cells vs e fz)) :
   (w.setCell ⟨b,o,none⟩ v).heap[b]? = some (.cells (vs.setIfInBounds o v) e fz)∧(∀x,x≠b→(w.setCell ⟨b,o,none⟩ v).heap[x]? = w.heap[x]?)∧Ext w (w.setCell ⟨b,o,none⟩ v):=by
 obtain⟨lo,hi⟩:=fz;refine⟨?_,fun x hx=> ?_,Ext.of (by simp[World.setCell]) rfl rfl fun a=>World.frozen?_setCell _ _ _ _⟩
 · simp only[World.setCell,Array.getElem?_modify,hb];simp
 · simp only[World.setCell,Array.getElem?_modify];rw[if_neg (Ne.symm hx)]
theorem nJ {P:Program}:∀(us:List Value) (w:World) (b o i:Nat) (vs:Array Value) (e:TypeId) (fz:Nat × Nat),w.heap[b]? = some (.cells vs e fz)→NF vs fz→o+i+us.length≤vs.size→
   (∀u∈us,u.oneCell'=true)→
   ∃ w',(storeCells ⟨b,o,none⟩ us i).run P w = .ok () w'∧w'.heap[b]? = some (.cells (cZ vs (o+i) us) e fz)∧(∀x,x≠b→w'.heap[x]? = w.heap[x]?)∧Ext w w'
 | [],w,b,o,i,vs,e,fz,hb,_,_,_=>⟨w,rfl,hb,fun _ _=>rfl,Ext.refl w⟩
 | u ::us,w,b,o,i,vs,e,fz,hb,hf,hs,h1=>by
   simp only[List.length_cons] at hs;obtain⟨g1,g2,g3⟩:=JA w b (o+i) u hb;have JB:NF (vs.setIfInBounds (o+i) u) fz:=by rcases hf with h | h; exact .inl h; exact .inr (by simpa using h)
   obtain⟨w',g4,g5,g6,g7⟩:=nJ (P:=P) us (w.setCell ⟨b,o+i,none⟩ u) b o (i+1) _ e fz g1 JB (by simp; omega) (fun x hx=>h1 x (List.mem_cons_of_mem _ hx));refine⟨w', ?_,g5,fun x hx=>by rw[g6 x hx,g2 x hx],g3.trans g7⟩;simp only[storeCells,Sem.run_bind,dS];rw[run_store P w _ u .plain (h1 u List.mem_cons_self),cell_of hb (getD_some (show o+i<vs.size by omega)),Jz hb hf (show o+i<vs.size by omega)];simpa using g4
def nK (tab:aX) (T:TypeId):Option Nat:=
 match cz tab T with
 | some (.st n _ _ _)=>some n
 | some _=>some 1
 | none=>none
def zT (tab:aX) (T:TypeId):Option (List Z):=
 match cz tab T with
 | some (.st _ _ z _)=>some z
 | some (.sc z)=>some [z]
 | some (.sl E _ _)=>some [.nl E]
 | some (.it k)=>some [.i k]
 | some .bt=>some [.bo]
 | some .ss=>some [.st]
 | some (.mp _ _)=>none
 | none=>none
def fO (w w':World):Prop:=∀(b:Nat) o,w.heap[b]? = some o→w'.heap[b]? = some o
theorem fO.refl (w:World):fO w w:=fun _ _ h=>h
theorem fO.alloc (w:World) (o:Obj):fO w (w.alloc o):=fun b _ h=>by rw[alloc_old w o b (jh h)]; exact h
def t_ (tab:aX) (T:TypeId):Bool:=
 match cz tab T with
 | some (.sl _ _ _)=>true
 | some (.st n _ z _)=>decide (n≤7) && z.any fun z=>match z with | .nl _=>true | _=>false
 | _=>false
def eQ (tab:aX) (o:Oper):Bool:=
 match o.op with
 | .store _ _ _=>true
 | .mapUpdate _ _ _ _=>true
 | .load T _=>t_ tab T
 | .call c=>match c.callee with
   | .builtin _=>true
   | .value (.func f)=>(tG tab f).isSome
   | _=>true
 | _=>false
def mB (Γ:Ctx) (H:Hp) (wr:Bool) (w:World) (aw:SS) (a':Act) (w':World):Prop:=(∃ρ,aG Γ H ρ aw a' w')∧(wr=false→fO w w')
theorem mB.rel {Γ:Ctx} {H:Hp} {wr:Bool} {w:World} {aw:SS} {a':Act} {w':World} (h:mB Γ H wr w aw a' w'):Rel Γ aw a' w':=⟨H,h.1⟩
def SS.set (σ:SS) (k:Nat) (B:ak):SS:={σ with af:=bK σ.af k B}
def SS.new (σ:SS) (k:Nat) (B:ak):SS:={σ with af:=cU σ.af k B}
def pb (tab:aX) (o:Oper) (σ:SS) (K:SS→Prop):Prop:=
 match o.op,o.dst with
 | .box _ x,some d=>
   match my (σ.ev x),aL σ.af (8*d) with
   | some cs,none=>K ((σ.new (8*d) (.box cs)).put (some d) (.c (.ptr (8*d) 0)))
   | _,_=>False
 | .alloc T,some d=>
   match zT tab T,aL σ.af (8*d) with
   | some z,none=>K ((σ.new (8*d) (.box (z.map Z.c))).put (some d) (.c (.ptr (8*d) 0)))
   | _,_=>False
 | .store T p v,none=>
   match σ.ev p,my (σ.ev v),nK tab T with
   | .c (.ptr k off),some xs,some n=>
     match aL σ.af k with
     | some (.box cs)=>if xs.length=n∧off+n≤cs.length∧xs.all C.wb=true then K (σ.set k (.box (wo cs off xs))) else False
     | _=>False
   | _,_,_=>False
 | .makeMap T none,some d=>
   match cz tab T,aL σ.af (8*d) with
   | some (.mp _ _),none=>K ((σ.new (8*d) (.mp fun _=>[])).put (some d) (.c (.own (8*d))))
   | _,_=>False
 | .lookup T x i false,some d=>
   match cz tab T,σ.ev x,σ.ev i with
   | some (.mp _ _), .c (.own k), .c (.lf (.int .i64 t))=>
     match aL σ.af k with
     | some (.mp m)=>K (σ.put (some d) (iV .i64 fun _=>dQ (m ()) (t ())))
     | _=>False
   | _,_,_=>False
 | .mapUpdate T x i v,none=>
   match cz tab T,σ.ev x,σ.ev i,σ.ev v with
   | some (.mp _ _), .c (.own k), .c (.lf (.int .i64 t)), .c (.lf (.int .i64 u))=>
     match aL σ.af k with
     | some (.mp m)=>Ob (fun _=>(m ()).length<9223372036854775807) fun _=>K (σ.set k (.mp fun _=>iq (m ()) (t ()) (u ())))
     | _=>False
   | _,_,_,_=>False
 | .call c,some d=>
   match c.callee,c.args.toList,c.argTypes.toList with
   | .builtin .len,[x],[T]=>
     match cz tab T,σ.ev x with
     | some (.mp _ _), .c (.own k)=>
       match aL σ.af k with
       | some (.mp m)=>K (σ.put (some d) (iV .i64 fun _=>((m ()).length:Int)))
       | _=>False
     | _,_=>False
   | _,_,_=>False
 | _,_=>False
section
variable {P : Program} {tab : aX} (hT : eC P tab = true) {Γ : Ctx} {H : Hp} {ρ : aF} {σ : SS} {a : Act} {w : World} (r : aG Γ H ρ σ a w)
include hT r
omit hT r in
theorem hY {o:Oper} {a:Act} {w w':World} {v:Value} {next:Act→World→Prop} {Q:Exit→Act→World→Prop} (h:(execOp a.eval o).run P w = .ok (.value v) w') (hn:next (a.put o.dst v) w'):o.wp P a w next Q:=by
 unfold Oper.wp; rw[h]; exact hn
omit hT r in
theorem ua {o:Oper} {a:Act} {w w':World} {next:Act→World→Prop} {Q:Exit→Act→World→Prop} (h:(execOp a.eval o).run P w = .ok .skip w') (hd:o.dst=none) (hn:next a w'):o.wp P a w next Q:=by
 unfold Oper.wp; rw[h];simp only[Oper.upon,hd,Act.put];exact hn
omit r in
theorem JC {T:TypeId} {z:List Z} (h:zT tab T=some z):∃i v,P.info? T=some i∧i.zero=some v∧Z.ga z v.cells.toList=true:=by
 have sc:∀{t:TypeId} {z:Z},dJ P t (.sc z)=true→∃i v,P.info? t=some i∧i.zero=some v∧Z.ga [z] v.cells.toList=true:=fun {t z} h=>by
   obtain⟨_,i,v,h1,h2,h3,h4,h5⟩:=nz h;refine⟨i,v,h1,h3, ?_⟩;have:v.cells = #[v]:=by cases v <;> simp[Value.oneCell'] at h4 <;> rfl
   rw[this];simp[Z.ga,h5]
 unfold zT at h
 split at h
 · rename_i aU; cases h;obtain⟨fields,_,_,i,cs,h1,h2,h3,h4⟩:=ny (ck hT aU);exact⟨i,_,h1,h3,h4⟩
 · rename_i aU; cases h; exact sc (ck hT aU)
 · rename_i aU; cases h; exact sc (v_ (ck hT aU))
 · rename_i aU; cases h; exact sc (nB (ck hT aU)).2
 · rename_i aU; cases h; exact sc (qB (ck hT aU)).2
 · rename_i aU; cases h; exact sc (lI (ck hT aU)).2
 · cases h
 · cases h
theorem JD {o :Oper} {K:SS→Prop} {Q:Exit→Act→World→Prop} {T:TypeId} {p v:Operand} {k off:Nat} (aQ:o.op = .store T p v) (hd:o.dst=none) (hp:σ.ev p = .c (.ptr k off)) (h:pb tab o σ K) :
   o.wp P a w (fun a' w'=>∃aw,K aw∧aG Γ H ρ aw a' w'∧∀x,(ρ k).2 x=0→w'.heap[x]? = w.heap[x]?) Q:=by
 have ev:=iu r.e;unfold pb at h;simp only[aQ,hd,hp] at h
 split at h
 · rename_i k' JE xs n fP tM aY;cases fP
   split at h
   · rename_i cs hg
     split at h
     · rename_i hc;obtain⟨gE,jy,qN⟩:=hc;have ep:=ev p;rw[hp] at ep;obtain⟨fN,b,hh,jg⟩:=ep
       have hv:=(ev v).cells tM fun k hk=>by
         have:=ev v;rw[hk] at this;exact tN r this
       obtain⟨b',vs,e,fz,h1,h2,h3,h4,h5⟩:=r.b.af k _ (cK hg);rw[hh] at h1;simp only[Value.pointer.injEq,Option.some.injEq,Addr.mk.injEq,and_true] at h1;subst h1
       have dG:∀u∈(a.eval v).cells.toList,u.oneCell'=true:=by
         intro u hu;obtain⟨j,hj,ze⟩:=List.getElem_of_mem hu;have cF:j<xs.length:=by rw[←hv.1]; simpa using hj
         have h6:=hv.2 j _ (List.getElem?_eq_getElem cF);rw[Array.getD_eq_getD_getElem?,Array.getElem?_eq_getElem (by simpa using hj)] at h6;simp only[Option.getD_some] at h6;have h7:=List.all_eq_true.1 qN _ (List.getElem_mem cF);rw[←ze];simp only[Array.getElem_toList];exact(RC.cells h6 h7 fun k hk=>by rw[hk] at h6; obtain⟨h8,h9⟩:=h6; rw[h9]; exact r.b.oc k h8).2
       obtain⟨w',h6,h7,h8,h9⟩:=nJ (P:=P) (a.eval v).cells.toList w b off 0 vs e fz h3 h4 (by rw[h5.1]; have:=hv.1; simp only[Array.length_toList]; omega) dG
       have zf :∃i,P.info? T=some i∧i.size=n:=by
         unfold nK at aY
         split at aY
         · rename_i aU; cases aY;obtain⟨fields,_,_,i,cs,h1,h2,_⟩:=ny (ck hT aU);exact⟨i,h1,h2⟩
         · rename_i ti hne aU; cases aY
           have sc:∀{t:TypeId} {z:Z},dJ P t (.sc z)=true→∃i,P.info? t=some i∧i.size=1:=fun {t z} h=>by
             obtain⟨_,i,v,h1,h2,_⟩:=nz h; exact⟨i,h1,h2⟩
           have ht:=ck hT aU;cases ti with
           | st n fs z q=>exact(hne _ _ _ _ rfl).elim
           | sl E elem bytes=>exact sc (v_ ht)
           | sc z=>exact sc ht
           | it k=>exact sc (nB ht).2
           | bt=>exact sc (qB ht).2
           | ss=>exact sc (lI ht).2
           | mp kt et=>exact sc (oP ht).2.2.2
         · cases aY
       obtain⟨i,hi,zg⟩:=zf;refine ua (w':=w') ?_ hd ⟨_,h, ?_,fun x hx=>h8 x fun he=>by rw[he,h2] at hx; simp[one] at hx⟩
       · have cV:¬((a.eval v).cells.size≠i.size):=by have:=hv.1; omega
         simp only[execOp,aQ,Instr.storeAt,jg,Instr.sureAddr,storeVar,Sem.run_bind,Sem.run_pure,Result.andThen_ok,kb w hi];rw[if_neg cV];simp only[Result.andThen_ok,h6]
       · refine r.rV hg (fun x hx=>h8 x fun he=>hx ?_) h9 ?_ (fun x hx=>hx) (fun x hx=>hx)
         · rw[he]; show 0<(ρ k).2 b; rw[h2]; simp[one]
         · refine⟨b,_,e,fz,hh,h2,h7, ?_, ?_⟩
           · rcases h4 with h | h
             · exact .inl h
             · exact .inr (by rw[dk]; exact h)
           · rw[Nat.add_zero];exact cG.wq xs _ h5 (by simpa using hv)
     · cases h
   · cases h
 · cases h
theorem zh {o : Oper} {K:SS→Prop} {Q:Exit→Act→World→Prop} (h:pb tab o σ K) :
   o.wp P a w (fun a' w'=>∃aw,K aw∧mB Γ H (eQ tab o) w aw a' w') Q:=by
 have ev:=iu r.e;unfold pb at h
 split at h
 · rename_i T x d aQ hd
   split at h
   · rename_i cs cV hg
     have hc:=(ev x).cells cV fun k hk=>by
       have:=ev x;rw[hk] at this;exact tN r this
     obtain⟨ρ',r1,h1,h2⟩:=r.C1 hg T hc;refine hY (v:= .pointer (some ⟨w.heap.size,0,none⟩)) (w':=w.alloc (.cells (a.eval x).cells T)) ?_ ⟨_,h,⟨ρ', ?_⟩,fun _=>fO.alloc w _⟩
     · simp[execOp,aQ,Instr.box,newVar,newRow]
     · rw[hd];refine aG.put r1 (v:= .c (.ptr (8*d) 0)) ⟨fb.2 (.inl rfl),_,h1,rfl⟩ (some d)
   · cases h
 · rename_i T d aQ hd
   split at h
   · rename_i z hz hg;obtain⟨i,v,hi,hv,lL⟩:=JC hT hz;have hc:=Z.CD (H:=H) (ρ:=ρ) (D:=av σ.af) lL;obtain⟨ρ',r1,h1,h2⟩:=r.C1 hg T hc;refine hY (v:= .pointer (some ⟨w.heap.size,0,none⟩)) (w':=w.alloc (.cells v.cells T)) ?_ ⟨_,h,⟨ρ', ?_⟩,fun _=>fO.alloc w _⟩
     · simp[execOp,aQ,Instr.alloc,newVar,newRow,CH w hi hv]
     · rw[hd];simp only[Array.toArray_toList] at r1;refine aG.put r1 (v:= .c (.ptr (8*d) 0)) ⟨fb.2 (.inl rfl),_,h1,rfl⟩ (some d)
   · cases h
 · rename_i T p v aQ hd
   split at h
   · rename_i k off xs n hp tM aY
     split at h
     · rename_i cs hg
       split at h
       · rename_i hc;obtain⟨gE,jy,qN⟩:=hc;have ep:=ev p;rw[hp] at ep;obtain⟨fN,b,hh,jg⟩:=ep
         have hv:=(ev v).cells tM fun k hk=>by
           have:=ev v;rw[hk] at this;exact tN r this
         obtain⟨b',vs,e,fz,h1,h2,h3,h4,h5⟩:=r.b.af k _ (cK hg);rw[hh] at h1;simp only[Value.pointer.injEq,Option.some.injEq,Addr.mk.injEq,and_true] at h1;subst h1
         have dG:∀u∈(a.eval v).cells.toList,u.oneCell'=true:=by
           intro u hu;obtain⟨j,hj,ze⟩:=List.getElem_of_mem hu;have cF:j<xs.length:=by rw[←hv.1]; simpa using hj
           have h6:=hv.2 j _ (List.getElem?_eq_getElem cF);rw[Array.getD_eq_getD_getElem?,Array.getElem?_eq_getElem (by simpa using hj)] at h6;simp only[Option.getD_some] at h6;have h7:=List.all_eq_true.1 qN _ (List.getElem_mem cF);rw[←ze];simp only[Array.getElem_toList];exact(RC.cells h6 h7 fun k hk=>by rw[hk] at h6; obtain⟨h8,h9⟩:=h6; rw[h9]; exact r.b.oc k h8).2
         obtain⟨w',h6,h7,h8,h9⟩:=nJ (P:=P) (a.eval v).cells.toList w b off 0 vs e fz h3 h4 (by rw[h5.1]; have:=hv.1; simp only[Array.length_toList]; omega) dG
         have zf :∃i,P.info? T=some i∧i.size=n:=by
           unfold nK at aY
           split at aY
           · rename_i aU; cases aY;obtain⟨fields,_,_,i,cs,h1,h2,_⟩:=ny (ck hT aU);exact⟨i,h1,h2⟩
           · rename_i ti hne aU; cases aY
             have sc:∀{t:TypeId} {z:Z},dJ P t (.sc z)=true→∃i,P.info? t=some i∧i.size=1:=fun {t z} h=>by
               obtain⟨_,i,v,h1,h2,_⟩:=nz h; exact⟨i,h1,h2⟩
             have ht:=ck hT aU;cases ti with
             | st n fs z q=>exact(hne _ _ _ _ rfl).elim
             | sl E elem bytes=>exact sc (v_ ht)
             | sc z=>exact sc ht
             | it k=>exact sc (nB ht).2
             | bt=>exact sc (qB ht).2
             | ss=>exact sc (lI ht).2
             | mp kt et=>exact sc (oP ht).2.2.2
           · cases aY
         obtain⟨i,hi,zg⟩:=zf;refine ua (w':=w') ?_ hd ⟨_,h,⟨ρ, ?_⟩,fun hw=>by simp[eQ,aQ] at hw⟩
         · have cV:¬((a.eval v).cells.size≠i.size):=by have:=hv.1; omega
           simp only[execOp,aQ,Instr.storeAt,jg,Instr.sureAddr,storeVar,Sem.run_bind,Sem.run_pure,Result.andThen_ok,kb w hi];rw[if_neg cV];simp only[Result.andThen_ok,h6]
         · refine r.rV hg (fun x hx=>h8 x fun he=>hx ?_) h9 ?_ (fun x hx=>hx) (fun x hx=>hx)
           · rw[he]; show 0<(ρ k).2 b; rw[h2]; simp[one]
           · refine⟨b,_,e,fz,hh,h2,h7, ?_, ?_⟩
             · rcases h4 with h | h
               · exact .inl h
               · exact .inr (by rw[dk]; exact h)
             · rw[Nat.add_zero];exact cG.wq xs _ h5 (by simpa using hv)
       · cases h
     · cases h
   · cases h
 · rename_i T d aQ hd
   split at h
   · rename_i kt et aU hg;obtain⟨ρ',r1,h1⟩:=r.Ju hg;refine hY (v:= .map (some w.heap.size)) (w':=w.alloc (.map #[] 0)) ?_ ⟨_,h,⟨ρ', ?_⟩,fun _=>fO.alloc w _⟩
     · simp[execOp,aQ,Instr.makeMap]
     · rw[hd];exact aG.put r1 (v:= .c (.own (8*d))) ⟨fb.2 (.inl rfl),h1.symm⟩ (some d)
   · cases h
 · rename_i T x i d aQ hd
   split at h
   · rename_i kt et k t aU hx hi
     split at h
     · rename_i m hg;have ex:=ev x;rw[hx] at ex;obtain⟨fN,nL⟩:=ex;have ei:=ev i;rw[hi] at ei;obtain⟨zi,JF⟩:=RL.of_int ei;obtain⟨b,es,c,h1,h2,h3,h4⟩:=r.b.af k _ (cK hg);obtain⟨t1,t2,⟨Q2,t3,t4⟩,_⟩:=oP (ck hT aU);have b_:=IU (P:=P) t1 t2 t3 t4 h3 h4 (t ());refine hY (v:= .int .i64 (dQ (m ()) (t ()))) (w':=w) ?_ ⟨_,h,⟨ρ, ?_⟩,fun _=>fO.refl w⟩
       · simp only[execOp,aQ,nL,h1,zi,b_,Sem.run_bind,Result.andThen_ok,Sem.run_pure]
       · rw[hd];exact r.put (v:=iV .i64 fun _=>dQ (m ()) (t ())) (RL.int (t:=fun _=>dQ (m ()) (t ())) (h4.get _)) (some d)
     · cases h
   · cases h
 · rename_i T x i v aQ hd
   split at h
   · rename_i kt et k t u aU hx hi hv
     split at h
     · rename_i m hg;obtain⟨hlen,h⟩:=h;have ex:=ev x;rw[hx] at ex;obtain⟨fN,nL⟩:=ex;have ei:=ev i;rw[hi] at ei;obtain⟨zi,JF⟩:=RL.of_int ei;have eu:=ev v;rw[hv] at eu;obtain⟨JG,JH⟩:=RL.of_int eu;obtain⟨b,es,c,h1,h2,h3,h4⟩:=r.b.af k _ (cK hg);obtain⟨t1,t2,_,_⟩:=oP (ck hT aU);obtain⟨nv,c',b_,h5⟩:=IV (P:=P) t1 t2 h3 h4 (t ()) (u ()) JH hlen;have hb:b<w.heap.size:=jh h3;have di:(w.heap.setIfInBounds b (.map nv c'))[b]? = some (.map nv c'):=by rw[Array.getElem?_setIfInBounds,if_pos rfl,if_pos hb]
       have Dm:∀y,y≠b→(w.heap.setIfInBounds b (.map nv c'))[y]? = w.heap[y]? :=fun y hy=>by rw[Array.getElem?_setIfInBounds,if_neg (Ne.symm hy)]
       refine ua (w':={w with heap:=w.heap.setIfInBounds b (.map nv c')}) ?_ hd ⟨_,h,⟨ρ, ?_⟩,fun hw=>by simp[eQ,aQ] at hw⟩
       · simp only[execOp,aQ,nL,h1,zi,JG,b_,Sem.run_bind,Result.andThen_ok,Sem.run_pure]
       · refine r.rV hg (fun y hy=>Dm y fun he=>hy ?_) (Ext.of (by simp) rfl rfl (CZ fun y=> ?_)) ?_ (fun x hx=>hx) (fun x hx=>hx)
         · rw[he]; show 0<(ρ k).2 b; rw[h2]; simp[one]
         · by_cases hy:y=b
           · subst hy; exact .inr ⟨nv,c',di, .inr ⟨es,c,h3⟩⟩
           · exact .inl (Dm y hy)
         · exact⟨b,nv,c',h1,h2,di,h5⟩
     · cases h
   · cases h
 · rename_i c d aQ hd
   split at h
   · rename_i x T dA hx yK
     split at h
     · rename_i kt et k aU nL
       split at h
       · rename_i m hg;have ex:=ev x;rw[nL] at ex;obtain⟨fN,JI⟩:=ex;obtain⟨b,es,cc,h1,h2,h3,h4⟩:=r.b.af k _ (cK hg);obtain⟨t1,_,_,_⟩:=oP (ck hT aU);have e1:c.args = #[x]:=by rw[←Array.toList_inj]; simpa using hx
         have e2:c.argTypes = #[T]:=by rw[←Array.toList_inj]; simpa using yK
         have wD:(getObj b).run P w = .ok (.map es cc) w:=by simp[getObj,Sem.run,h3]
         have hle:=h4.le;refine hY (v:= .int .i64 ((m ()).length:Int)) (w':=w) ?_ ⟨_,h,⟨ρ, ?_⟩,fun _=>fO.refl w⟩
         · simp[execOp,aQ,resolve,dA,e1,e2,invoke,builtin,Builtin.len_,gD w t1,JI,h1,wD,h4.size,goInt]
         · rw[hd];exact r.put (v:=iV .i64 fun _=>((m ()).length:Int)) (RL.int (t:=fun _=>(((m ()).length:Nat):Int)) (qC.2 (by omega))) (some d)
       · cases h
     · cases h
   · cases h
 · cases h
end
def bQ (n sz:Nat) (S:Nat→Nat→Nat→Nat) (x:Nat):Nat:=bM n fun i=>bM sz fun j=>S i j x
def bj (h:Array Obj) (E:an) (xs:List E.α) (cs:Nat→Value) (S:Nat→Nat→Nat→Nat):Prop:=
 ∀ i x,xs[i]? = some x→∀j l,(bH E fun _=>x)[j]? = some l→bc h l (cs (i*E.sz+j)) (S i j)
def glue {α:Type} (n:Nat) (f g:Nat→α):Nat→α:=fun i=>if i<n then f i else g (i - n)
theorem ub {n m:Nat} {f:Nat→Nat}:bM (n+m) f=bM n f+bM m fun i=>f (n+i):=by
 induction m with
 | zero=>simp[bM]
 | succ m ih=>rw[←Nat.add_assoc]; simp only[bM,ih]; omega
theorem rW {n m sz:Nat} {S T:Nat→Nat→Nat→Nat} {x:Nat}:bQ (n+m) sz (glue n S T) x=bQ n sz S x+bQ m sz T x:=by
 unfold bQ;rw[ub]
 congr 1
 · exact tB fun i hi=>by simp[glue,hi]
 · exact tB fun i _=>by simp only[glue,if_neg (Nat.not_lt.2 (Nat.le_add_right n i)),Nat.add_sub_cancel_left]
theorem Dn {n sz:Nat} {S:Nat→Nat→Nat→Nat} {i j x:Nat} (hi:i<n) (hj:j<sz):S i j x≤bQ n sz S x:=
 Nat.le_trans (vY (f:=fun j=>S i j x) hj) (vY (f:=fun i=>bM sz fun j=>S i j x) hi)
theorem mD {E:an} {x:E.α} {j:Nat} {l:Lf} (h:(bH E fun _=>x)[j]? = some l):j<E.sz:=by
 have:=bD h; rwa [gm] at this
theorem pc {i j n sz:Nat} (hi:i<n) (hj:j<sz):i*sz+j<n*sz:=by
 have:(i+1)*sz≤n*sz:=Nat.mul_le_mul_right _ hi;rw[Nat.add_mul] at this;omega
section
variable {h h' : Array Obj} {E : an} {xs ys : List E.α} {cs ds : Nat → Value} {S T : Nat → Nat → Nat → Nat}
theorem bj.mono (hs:bj h E xs cs S) (hk:∀x,0<bQ xs.length E.sz S x→h'[x]? = h[x]?):bj h' E xs cs S:=fun i x hx j l hj=>
 (hs i x hx j l hj).mono fun b hb=>hk b (Nat.lt_of_lt_of_le hb (Dn (bD hx) (mD hj)))
theorem bj.cells (hs:bj h E xs cs S) (hc:∀q,q<xs.length*E.sz→ds q=cs q):bj h E xs ds S:=fun i x hx j l hj=>by
 rw[hc _ (pc (bD hx) (mD hj))];exact hs i x hx j l hj
theorem bj.glue (hs:bj h E xs cs S) (ht:bj h E ys ds T):bj h E (xs++ys) (glue (xs.length*E.sz) cs ds) (glue xs.length S T):=fun i x hx j l hj=>by
 rcases Nat.lt_or_ge i xs.length with hi | hi
 · rw[List.getElem?_append_left hi] at hx;simp only[Go.Proofs.YtpklefhdkkegiaaGreat.glue,hi,if_true,pc hi (mD hj)];exact hs i x hx j l hj
 · rw[List.getElem?_append_right hi] at hx;have h1:¬i*E.sz+j<xs.length*E.sz:=by have:=Nat.mul_le_mul_right E.sz hi; omega
   simp only[Go.Proofs.YtpklefhdkkegiaaGreat.glue,if_neg (Nat.not_lt.2 hi),if_neg h1];have h2:i*E.sz+j - xs.length*E.sz=(i - xs.length)*E.sz+j:=by rw[Nat.sub_mul]; have:=Nat.mul_le_mul_right E.sz hi; omega
   rw[h2];exact ht _ x hx j l hj
theorem bj.nil:bj h E [] cs S:=fun i x hx=>by simp at hx
theorem bj.own {b off c:Nat} {vs:Array Value} {e:TypeId} {fz:Nat × Nat} (hs:bj h E xs (fun q=>vs.getD (off+q) Go.undef) S) (hb:h[b]? = some (.cells vs e fz)) (hf:NF vs fz)
  (hl:xs.length≤c) (hm:xs.length≤cm) (ho:off+c*E.sz≤vs.size):bc h (.list E fun _=>xs) (.slice (some ⟨b,off,none⟩) xs.length c) (bB b xs.length E.sz S):=
 .list (t:=fun _=>xs) S hb hf hl hm ho fun i x hx j l hj=>by have:=hs i x hx j l hj; rwa [Nat.add_assoc]
theorem bc.dU {xs:Unit→List E.α} {v:Value} {p:Nat→Nat} (ho:bc h (.list E xs) v p) :
   (v = .slice none 0 0∧xs () = []∧p=fun _=>0)∨
   ∃ b off c vs e fz S,v = .slice (some ⟨b,off,none⟩) (xs ()).length c∧p=bB b (xs ()).length E.sz S∧h[b]? = some (.cells vs e fz)∧NF vs fz∧(xs ()).length≤c∧(xs ()).length≤cm∧
    off+c*E.sz≤vs.size∧bj h E (xs ()) (fun q=>vs.getD (off+q) Go.undef) S:=by
 cases ho with
 | nil h0=>exact .inl ⟨rfl,h0,rfl⟩
 | list S hb hf hl hm dm hc=>
   exact .inr ⟨_,_,_,_,_,_,S,rfl,rfl,hb,hf,hl,hm,dm,fun i x hx j l hj=>by have:=hc i x hx j l hj; rwa [Nat.add_assoc] at this⟩
end
def eK:List (Nat × ak)→List Nat→List (Nat × ak)
 | bs,[]=>bs
 | bs,k::ks=>eK (bK bs k .dead) ks
def gV:aF→List Nat→aF
 | ρ,[]=>ρ
 | ρ,k::ks=>gV (cH ρ k ((ρ k).1,fun _=>0)) ks
theorem mE:∀{ks:List Nat} {ρ:aF} {k:Nat},(gV ρ ks k).1=(ρ k).1
 | [],_,_=>rfl
 | j ::ks,ρ,k=>by
   simp only[gV,mE (ks:=ks)]
   by_cases h:k=j
   · subst h; rw[db]
   · rw[cL h]
theorem Dp:∀{ks:List Nat} {ρ:aF} {k:Nat},k∉ks→gV ρ ks k=ρ k
 | [],_,_,_=>rfl
 | j ::ks,ρ,k,h=>by
   simp only[List.mem_cons,not_or] at h;simp only[gV,Dp (ks:=ks) h.2,cL h.1]
theorem uc {k:Nat}:∀{ks:List Nat} {bs:List (Nat × ak)},av (eK bs ks) k↔av bs k
 | [],_=>Iff.rfl
 | j::ks,bs=>by simp only[eK,uc (ks:=ks),dR]
theorem Dq {bs:List (Nat × ak)} {k j:Nat} {B:ak} (h:aL bs k=none):aL (bK bs j B) k=none:=by
 cases hg:aL (bK bs j B) k with
 | none=>rfl
 | some A=>exact(ir h (dR.1 (eH hg))).elim
theorem zk {k:Nat}:∀{ks:List Nat} {bs:List (Nat × ak)},aL bs k=none→aL (eK bs ks) k=none
 | [],_,h=>h
 | _::ks,_,h=>zk (ks:=ks) (Dq h)
section
variable {Γ : Ctx} {H : Hp} {ρ : aF} {σ : SS} {a : Act} {w w' : World}
theorem aG.kill (r:aG Γ H ρ σ a w) {k:Nat} (hk:av σ.af k):aG Γ H (cH ρ k ((ρ k).1,fun _=>0)) {σ with af:=bK σ.af k .dead} a w:=by
 have e:av (bK σ.af k .dead)=av σ.af:=by funext j; exact propext dR
 have hf:∀j,(cH ρ k ((ρ k).1,fun _=>0) j).1=(ρ j).1:=fun j=>by
   by_cases h:j=k
   · subst h; rw[db]
   · rw[cL h]
 have g:iN H H ρ (cH ρ k ((ρ k).1,fun _=>0)) (av σ.af) (av (bK σ.af k .dead)):=⟨fun _ _ h=>h,fun j hj=>⟨dR.2 hj,hf j⟩⟩;refine⟨⟨fun j hj=>by rw[hf]; exact r.b.oc j (dR.1 hj),by rw[qz]; exact r.b.nd,r.b.h0,r.b.hh,fun j A hj=> ?_,fun x=> ?_,fun j A hj x hx=> ?_,fun j A hj x hx=> ?_⟩,r.e.grow g,r.d,r.n,fun p hp=> ?_,fun p hp=>⟨dR.2 (r.hm p hp).1,by rw[hf]; exact(r.hm p hp).2⟩⟩
 · rcases jd r.b.nd hj with⟨rfl,rfl⟩ | ⟨hne,hj⟩
   · rw[db]; rfl
   · rw[cL hne]; exact(r.b.af j A hj).mono g fun _ _=>rfl
 · have h1:=qA (ρ:=ρ) (ρ':=cH ρ k ((ρ k).1,fun _=>0)) r.b.nd (B:= .dead) hk (fun j hj=>cL hj) x;rw[db] at h1;have:=r.b.sum x;show aP _ (bK σ.af k .dead) x≤1;simp only[Nat.add_zero] at h1;omega
 · rcases jd r.b.nd hj with⟨rfl,rfl⟩ | ⟨hne,hj⟩
   · rw[db] at hx; simp at hx
   · rw[cL hne] at hx; exact r.b.fresh j A hj x hx
 · rcases jd r.b.nd hj with⟨rfl,rfl⟩ | ⟨hne,hj⟩
   · cases hx
   · rw[cL hne] at hx; exact r.b.gn j A hj x hx
 · obtain⟨h1,h2⟩:=r.hd p hp;refine⟨dR.2 h1,by rw[hf]; exact h2.1,fun x=> ?_⟩
   by_cases h:p.1=k
   · rw[h,db]; exact Nat.zero_le _
   · rw[cL h]; exact h2.2 x
theorem aG.eK:∀{ks:List Nat} {ρ:aF} {σ:SS},aG Γ H ρ σ a w→(∀k∈ks,av σ.af k)→aG Γ H (gV ρ ks) {σ with af:=eK σ.af ks} a w
 | [],_,_,r,_=>r
 | k::ks,_,_,r,hd=>aG.eK (ks:=ks) (r.kill (hd k List.mem_cons_self)) fun j hj=>dR.2 (hd j (List.mem_cons_of_mem _ hj))
theorem ud:∀{ks:List Nat} {ρ:aF} {bs:List (Nat × ak)} {x:Nat},(bs.map (·.1)).Nodup→dL ks=true→(∀k∈ks,av bs k)→aP (gV ρ ks) (Go.Proofs.YtpklefhdkkegiaaGreat.eK bs ks) x+bI ρ ks x=aP ρ bs x
 | [],_,_,_,_,_,_=>by simp[gV,Go.Proofs.YtpklefhdkkegiaaGreat.eK,bI]
 | k :: ks,ρ,bs,x,hn,hd,hk=>by
   obtain⟨h1,h2⟩:=tU hd;have ih:=ud (ks:=ks) (ρ:=cH ρ k ((ρ k).1,fun _=>0)) (bs:=bK bs k .dead) (x:=x) (by rw[qz]; exact hn) h2 fun j hj=>dR.2 (hk j (List.mem_cons_of_mem _ hj));have h3:=qA (ρ:=ρ) (ρ':=cH ρ k ((ρ k).1,fun _=>0)) hn (B:= .dead) (hk k List.mem_cons_self) (fun j hj=>cL hj) x;rw[db] at h3
   have h4:bI (cH ρ k ((ρ k).1,fun _=>0)) ks x=bI ρ ks x:=by
    have :∀{ks:List Nat},k∉ks→bI (cH ρ k ((ρ k).1,fun _=>0)) ks x=bI ρ ks x:=by
     intro ks
     induction ks with
     | nil=>intro _; rfl
     | cons j ks ih=>
       intro h;simp only[List.mem_cons,not_or] at h;simp only[bI,ih h.2,cL (Ne.symm h.1)]
    exact this h1
   simp only[gV,Go.Proofs.YtpklefhdkkegiaaGreat.eK,bI];simp only[Nat.add_zero] at h3;omega
theorem wE {ρ:aF} {x:Nat}:∀{ks:List Nat},0<bI ρ ks x→∃k∈ks,0<(ρ k).2 x
 | [],h=>by simp[bI] at h
 | k ::ks,h=>by
   rcases Nat.eq_zero_or_pos ((ρ k).2 x) with h0 | h0
   · have h:0<(ρ k).2 x+bI ρ ks x:=h;rw[h0,Nat.zero_add] at h;obtain⟨j,hj,h1⟩:=wE (ks:=ks) h;exact⟨j,List.mem_cons_of_mem _ hj,h1⟩
   · exact⟨k,List.mem_cons_self,h0⟩
theorem mF :∀{ks:List Nat} {bs:List (Nat × ak)},fm bs ks=true→∀k∈ks,∃E xs,aL bs k=some (.own E xs false)
 | [],_,_,k,hk=>by cases hk
 | j :: ks,bs,h,k,hk=>by
   simp only[fm,Bool.and_eq_true] at h;cases hk with
   | head =>
     cases hg:aL bs j with
     | none=>simp[hg] at h
     | some B=>
       cases B with
       | own E xs l=>cases l with
         | false=>exact⟨E,xs,rfl⟩
         | true=>simp[hg] at h
       | dead=>simp[hg] at h
       | box cs=>simp[hg] at h
       | view E xs=>simp[hg] at h
       | bP E xs i fs=>simp[hg] at h
       | mp m=>simp[hg] at h
   | tail _ hk=>exact mF h.2 k hk
theorem aG.mG (r:aG Γ H ρ σ a w) {ks:List Nat} (hn:dL ks=true) (hu:fm σ.af ks=true) {k:Nat} (hk:aL σ.af k=none) {E:an} {xs:Unit→List E.α} {p:Value × (Nat→Nat)}
   (hh:∀x,x<w.heap.size→bI ρ ks x=0→w'.heap[x]? = w.heap[x]?) (aY:Ext w w') (cn:bc w'.heap (.list E xs) p.1 p.2) (dG:p.1.oneCell'=true)
   (hp:∀x,x<w.heap.size→p.2 x≤bI ρ ks x) (dn:∀x,w.heap.size≤x→p.2 x≤1) :
   ∃ ρ',aG Γ H ρ' {σ with af:=cU (Go.Proofs.YtpklefhdkkegiaaGreat.eK σ.af ks) k (.own E xs false)} a w'∧(ρ' k).1=p.1∧∀j,j≠k→(ρ' j).1=(ρ j).1:=by
 have hd:∀j∈ks,av σ.af j:=fun j hj=>by obtain⟨E,xs,hg⟩:=mF hu j hj; exact eH hg
 have r1:=r.eK hd;have eS:=fun x=>ud (ρ:=ρ) (x:=x) r.b.nd hn hd
 have lO:∀x,0<bI ρ ks x→H x=none:=fun x hx=>by
   obtain⟨j,hj,h1⟩:=wE hx;obtain⟨E,xs,hg⟩:=mF hu j hj;exact r.b.gn j _ (cK hg) x h1
 refine⟨cH (gV ρ ks) k p,r1.qG (zk hk) (fun b o hb=> ?_) (fun b hb=> ?_) aY dG (fun x hx=> ?_) (fun x=> ?_) cn (by simp),by rw[db],fun j hj=>by rw[cL hj,mE]⟩
 · refine hh b (jh (r.b.hh b o hb)) ?_;rcases Nat.eq_zero_or_pos (bI ρ ks b) with h | h
   · exact h
   · rw[lO b h] at hb; cases hb
 · have h1:=eS b;have h2:=r.b.sum b;have eE:0<aP (gV ρ ks) (Go.Proofs.YtpklefhdkkegiaaGreat.eK σ.af ks) b:=hb;exact hh b (r.lt (by omega)) (by omega)
 · rcases Nat.lt_or_ge x w.heap.size with h | h
   · have h1:=hp x h;have h2:=eS x;have h3:=r.b.sum x;exact⟨lO x (by omega),by simp only; omega⟩
   · have h1:=r.rO h;have h2:=eS x;exact⟨h1.1,by simp only; omega⟩
 · rcases Nat.lt_or_ge x w.heap.size with h | h
   · have h1:=hp x h;have h2:=eS x;have h3:=r.b.sum x;omega
   · exact dn x h
end
def jB:an→Bool
 | .cw=>false
 | .ah=>false
 | .rep=>false
 | _=>true
def nM:(E E':an)→(Unit→List E'.α)→Option (Unit→List E.α)
 | .int, .int,t=>some t
 | .byte, .byte,t=>some t
 | .str, .str,t=>some t
 | .aI, .aI,t=>some t
 | .aH, .aH,t=>some t
 | .aB, .aB,t=>some t
 | .cw, .cw,t=>some t
 | .ah, .ah,t=>some t
 | .fC, .fC,t=>some t
 | .rep, .rep,t=>some t
 | _,_,_=>none
theorem qO {E E':an} {t:Unit→List E'.α} {u:Unit→List E.α} (h:nM E E' t=some u):Lf.list E' t=Lf.list E u:=by
 cases E <;> cases E' <;> simp only[nM,Option.some.injEq,reduceCtorEq] at h <;> subst h <;> rfl
def nN (bs:List (Nat × ak)) (E:an):V→Option ((Unit→List E.α) × List Nat)
 | .c .nil=>some (fun _=>[],[])
 | .c (.own k)=>match aL bs k with
   | some (.own E' xs false)=>(match nM E E' xs with | some ys=>some (ys,[k]) | none=>none)
   | _=>none
 | _=>none
def zl (bs:List (Nat × ak)) (E:an):V→Option ((Unit→List E.α) × List Nat)
 | .c (.lf (.list E' t))=>if jB E=true then(match nM E E' t with | some ys=>some (ys,[]) | none=>none) else none
 | .c (.own k)=>if jB E=true then(match aL bs k with
  | some (.own E' xs _)=>(match nM E E' xs with | some ys=>some (ys,[]) | none=>none)
  | _=>none) else nN bs E (.c (.own k))
 | v=>nN bs E v
def wF (tab:aX) (T:TypeId) (bs:List (Nat × ak)) (E:an) (v:V):Option ((Unit→List E.α) × List Nat):=
 match cz tab T with
 | some (.sl _ _ _)=>zl bs E v
 | some .ss=>(match E,v with
   | .byte, .c (.lf (.str t))=>some (t,[])
   | _,_=>none)
 | _=>none
theorem nO {E:an} (hf:jB E=true) {x:E.α} {j:Nat} {l:Lf} (h:(bH E fun _=>x)[j]? = some l):l.sc=true:=by
 have hm:=List.mem_of_getElem? h;cases E <;> simp only[jB,Bool.false_eq_true] at hf <;> simp only[bH,List.mem_cons,List.not_mem_nil,or_false] at hm
 case int=>subst hm; rfl
 case byte=>subst hm; rfl
 case str=>subst hm; rfl
 case aI=>rcases hm with rfl | rfl <;> rfl
 case aH=>rcases hm with rfl | rfl | rfl | rfl <;> rfl
 case aB=>rcases hm with rfl | rfl | rfl | rfl | rfl | rfl | rfl | rfl | rfl | rfl <;> rfl
 case fC=>rcases hm with rfl | rfl | rfl | rfl | rfl | rfl <;> rfl
theorem RL.Dr {h:Array Obj} {H:Hp} {l:Lf} {v:Value} (hr:RL H l v) (hs:l.sc=true):bc h l v fun _=>0:=by
 cases hr with
 | int hr=>exact .int hr
 | bool=>exact .bool
 | str hm=>exact .str hm
 | nil h0=>simp[Lf.sc] at hs
 | list hb hl hm ho hc=>simp[Lf.sc] at hs
structure hZ (w:World) (E:an) (xs:List E.α) (v:Value) (news:List Value) (S:Nat→Nat→Nat→Nat):Prop where
 len:news.length=xs.length*E.sz
 one:∀u∈news,u.oneCell'=true
 dU:bj w.heap E xs (fun q=>news.getD q Go.undef) S
 val:(∃a c,v = .slice a 0 c∧xs = [])∨∃b off c,v = .slice (some ⟨b,off,none⟩) xs.length c∧∀j u,news[j]? = some u→w.cell? ⟨b,off+j,none⟩=some u
theorem Ds {h:Array Obj} {E:an} {xs:List E.α} {cs:Nat→Value} {S:Nat→Nat→Nat→Nat} (hs:bj h E xs cs S) {q:Nat} (hq:q<xs.length*E.sz):(cs q).oneCell'=true:=by
 have hp:=tA E;have hi:q / E.sz<xs.length:=Nat.div_lt_of_lt_mul (by rw[Nat.mul_comm]; exact hq);have hj:q % E.sz<E.sz:=Nat.mod_lt _ hp;have h1:=hs (q / E.sz) _ (List.getElem?_eq_getElem hi) (q % E.sz) _ (List.getElem?_eq_getElem (by rw[gm]; exact hj));rw[Nat.mul_comm,Nat.div_add_mod] at h1;exact h1.one
theorem hZ.of {w:World} {E:an} {xs:List E.α} {b off c:Nat} {vs:Array Value} {e:TypeId} {fz:Nat × Nat} {S:Nat→Nat→Nat→Nat} (hb:w.heap[b]? = some (.cells vs e fz)) (ho:off+xs.length*E.sz≤vs.size)
   (hs:bj w.heap E xs (fun q=>vs.getD (off+q) Go.undef) S):∃news,hZ w E xs (.slice (some ⟨b,off,none⟩) xs.length c) news S:=by
 have hg:∀q,q<xs.length*E.sz→(vs.extract off (off+xs.length*E.sz)).toList[q]? = some (vs.getD (off+q) Go.undef):=fun q hq=>by
   rw[Array.getElem?_toList,Array.getElem?_extract,if_pos (by omega)];exact getD_some (by omega)
 have hl:(vs.extract off (off+xs.length*E.sz)).toList.length=xs.length*E.sz:=by simp; omega
 refine⟨(vs.extract off (off+xs.length*E.sz)).toList,hl,fun u hu=> ?_,hs.cells fun q hq=> ?_, .inr ⟨b,off,c,rfl,fun j u hj=> ?_⟩⟩
 · obtain⟨q,hq,rfl⟩:=List.getElem_of_mem hu;rw[hl] at hq;have h1:=hg q hq;rw[List.getElem?_eq_getElem (by rw[hl]; exact hq)] at h1;rw[Option.some.inj h1];exact Ds hs hq
 · rw[List.getD_eq_getElem?_getD,hg q hq]; rfl
 · have hq:j<xs.length*E.sz:=by rw[←hl]; exact bD hj
   rw[hg j hq] at hj;cases hj;exact cell_of hb (getD_some (by omega))
theorem RL.dU {H:Hp} {h:Array Obj} {E:an} {t:Unit→List E.α} {v:Value} (hr:RL H (.list E t) v) (hh:∀b o,H b=some o→h[b]? = some o) (hf:jB E=true) :
  (∃ a c,v = .slice a 0 c∧t () = [])∨∃b off c vs e fz,v = .slice (some ⟨b,off,none⟩) (t ()).length c∧h[b]? = some (.cells vs e fz)∧off+(t ()).length*E.sz≤vs.size∧
   (t ()).length≤cm∧bj h E (t ()) (fun q=>vs.getD (off+q) Go.undef) fun _ _ _=>0:=by
 cases hr with
 | nil h0=>exact .inl ⟨_,_,rfl,h0⟩
 | list hb hl hm ho hc=>exact .inr ⟨_,_,_,_,_,_,rfl,hh _ _ hb,ho,hm,fun i x hx j l hj=>by
   have:=(hc i x hx j l hj).Dr (h:=h) (nO hf hj)
   rwa [Nat.add_assoc] at this⟩
theorem bc.qP {h:Array Obj} {l:Lf} {v:Value} {S:Nat→Nat} (ho:bc h l v S) (hs:l.sc=true):bc h l v fun _=>0:=by
 cases ho with
 | int hr=>exact .int hr
 | bool=>exact .bool
 | str hm=>exact .str hm
 | nil h0=>simp[Lf.sc] at hs
 | list=>simp[Lf.sc] at hs
theorem bj.flat {h:Array Obj} {E:an} {xs:List E.α} {cs:Nat→Value} {S:Nat→Nat→Nat→Nat} (hs:bj h E xs cs S) (hf:jB E=true):bj h E xs cs fun _ _ _=>0:=fun i x hx j l hj=>
 (hs i x hx j l hj).qP (nO hf hj)
theorem hZ.nil {w:World} {E:an} (a:Option Addr) (c:Nat):hZ w E [] (.slice a 0 c) [] fun _ _ _=>0:=
 ⟨by simp,(fun _ h=>by cases h),bj.nil, .inl ⟨a,c,rfl,rfl⟩⟩
theorem hZ.src {P:Program} {w:World} {E:an} {xs:List E.α} {v:Value} {news:List Value} {S:Nat→Nat→Nat→Nat} (hn:hZ w E xs v news S) {tx e:TypeId} (hk:P.underlying tx=some (.slice e)) :
   Src P E.sz tx v xs.length news w:=by
 rcases hn.val with⟨a,c,rfl,rfl⟩ | ⟨b,off,c,rfl,h⟩
 · have:news = []:=by have:=hn.len; simpa using this
   subst this;cases a with
   | none=>exact Src.ofNil w hk c
   | some a=>exact Src.ofSlice w hk a 0 c [] (by simp) (fun j u hj=>by simp at hj) fun u hu=>by cases hu
 · exact Src.ofSlice w hk _ _ _ news hn.len (fun j u hj=>by rw[dS]; exact h j u hj) hn.one
structure rX (P:Program) (w:World) (E:an) (xs:List E.α) (tx:TypeId) (v:Value) (news:List Value) (S:Nat→Nat→Nat→Nat):Prop where
 len:news.length=xs.length*E.sz
 one:∀u∈news,u.oneCell'=true
 dU:bj w.heap E xs (fun q=>news.getD q Go.undef) S
 src:Src P E.sz tx v xs.length news w
theorem hZ.wH {P:Program} {w:World} {E:an} {xs:List E.α} {v:Value} {news:List Value} {S:Nat→Nat→Nat→Nat} (hn:hZ w E xs v news S) {tx e:TypeId} (hk:P.underlying tx=some (.slice e)):rX P w E xs tx v news S:=
 ⟨hn.len,hn.one,hn.dU,hn.src hk⟩
theorem rX.str {P:Program} {w:World} {tx:TypeId} (hk:P.underlying tx=some .string) (s:List UInt8):rX P w .byte s tx (.string ⟨s.toArray⟩) (byteCells ⟨s.toArray⟩) fun _ _ _=>0:=by
 have hs:=Src.ofString (P:=P) w hk ⟨s.toArray⟩;have hb:byteCells ⟨s.toArray⟩=s.map fun b=>Value.int .u8 b.toNat:=by simp[byteCells]
 have hz:(⟨s.toArray⟩:ByteArray).size=s.length:=by simp[ByteArray.size]
 rw[hz] at hs;refine⟨by rw[hb]; simp[an.sz],hs.one,fun i x hx j l hj=> ?_,hs⟩;simp only[bH] at hj;cases j with
 | succ j=>simp at hj
 | zero=>
   simp at hj;subst hj;rw[hb];simp only[an.sz,Nat.mul_one,Nat.add_zero]
   have:(s.map fun b=>Value.int .u8 b.toNat).getD i Go.undef = .int .u8 ((x.toNat:Nat):Int):=by
    rw[List.getD_eq_getElem?_getD,List.getElem?_map,hx]; rfl
   rw[this];refine bc.int (t:=fun _=>((x.toNat:Nat):Int)) ?_;have:=UInt8.toNat_lt x;simp[IntKind.has,IntKind.min,IntKind.max,IntKind.signed,IntKind.bits];omega
theorem gW:∀(us:List Value) (vs:Array Value) (o q:Nat),o+us.length≤vs.size→(cZ vs o us).getD q Go.undef=if o≤q∧q<o+us.length then us.getD (q - o) Go.undef else vs.getD q Go.undef
 | [],vs,o,q,_=>by
   have:¬(o≤q∧q<o+([]:List Value).length):=by simp only[List.length_nil]; omega
   rw[if_neg this]; rfl
 | u ::us,vs,o,q,h=>by
   simp only[List.length_cons] at h;simp only[cZ];rw[gW us _ (o+1) q (by simp; omega)]
   by_cases h1:o+1≤q∧q<o+1+us.length
   · rw[if_pos h1,if_pos (by simp only[List.length_cons]; omega),show q - o=(q - (o+1))+1 by omega];simp
   · rw[if_neg h1]
     by_cases h2:q=o
     · subst h2;rw[if_pos (by simp only[List.length_cons]; omega)];simp[Array.getD_eq_getD_getElem?,show q<vs.size by omega]
     · rw[if_neg (by simp only[List.length_cons]; omega)];simp[Array.getD_eq_getD_getElem?,Ne.symm h2]
theorem uf {P:Program} {w:World} {E:an} {xs ys:List E.α} {vx vy:Value} {px:Nat→Nat} {T T2 e ty:TypeId} {i:TypeInfo} {z:Value} {news:List Value} {S2:Nat→Nat→Nat→Nat} {py:Nat→Nat}
   (hx:bc w.heap (.list E fun _=>xs) vx px) (hy:rX P w E ys T2 vy news S2) (rY:∀x,bQ ys.length E.sz S2 x≤py x) (dG:∀x,px x+py x≤1) (jC:∀x,0<px x+py x→x<w.heap.size)
   (ht:P.underlying T=some (.slice e)) (hi:P.info? e=some i) (hz:i.zero=some z) (aY:i.size=E.sz) (nP:z.cells.size=E.sz) (pd:0<i.bytes)
   (JJ:(xs.length+ys.length)*i.bytes≤140737488355328) :
   ∃ v p w',(Builtin.append_ #[T,T2] ty #[vx,vy]).run P w = .ok v w'∧bc w'.heap (.list E fun _=>xs++ys) v p∧Ext w w'∧(∀x,x<w.heap.size→px x=0→w'.heap[x]? = w.heap[x]?)∧
     (∀x,x<w.heap.size→p x≤px x+py x)∧∀x,w.heap.size≤x→p x≤1:=by
 have hs:=hy.src
 have hlen:xs.length+ys.length≤cm:=by
   have:xs.length+ys.length≤(xs.length+ys.length)*i.bytes:=Nat.le_mul_of_pos_right _ pd;unfold cm; omega
 have JK:((xs.length+ys.length:Nat):Int)≤9223372036854775807:=by unfold cm at hlen; omega
 rw[←aY] at hs;have Dt:=hy.dU
 have grow:∀(base:Option Addr) (n cap:Nat) (fo:List Value) (S:Nat→Nat→Nat→Nat),n=xs.length→vx = .slice base n cap→cap<n+ys.length→fo.length=xs.length*E.sz→
     (Builtin.firstCells i.size n (.slice base n cap)).run P w.drew = .ok fo.toArray w.drew→bj w.heap E xs (fun q=>fo.getD q Go.undef) S→(∀x,bQ xs.length E.sz S x≤px x)→
     ∃ v p w',(Builtin.append_ #[T,T2] ty #[vx,vy]).run P w = .ok v w'∧bc w'.heap (.list E fun _=>xs++ys) v p∧Ext w w'∧(∀x,x<w.heap.size→px x=0→w'.heap[x]? = w.heap[x]?)∧
     (∀x,x<w.heap.size→p x≤px x+py x)∧∀x,w.heap.size≤x→p x≤1:=by
   intro base n cap fo S hn hv hg bP hold bZ zm;subst hn;have b_:=run_append_grow_src (P:=P) w T T2 ty e i z ht hi hz base xs.length cap fo hold vy ys.length news hs hg JK (growslice_fits hg JJ);have kN:=grownCap_ge w (xs.length+ys.length) cap e;generalize grownCap w (xs.length+ys.length) cap e=C at b_ kN;generalize lQ:(fo++news).toArray++Builtin.zeroCells z.cells (C - (xs.length+ys.length))=cells at b_
   have cV:cells.size=C*E.sz:=by
     rw[←lQ];simp only[Array.size_append,List.size_toArray,List.length_append,Builtin.zeroCells,Array.size_map,Array.size_range,nP,bP,hy.len];rw[←Nat.add_mul,←Nat.add_mul]
     congr 1; omega
   have eD:∀q,q<(xs++ys).length*E.sz→cells.getD (0+q) Go.undef=glue (xs.length*E.sz) (fun q=>fo.getD q Go.undef) (fun q=>news.getD q Go.undef) q:=by
     intro q hq;rw[List.length_append,Nat.add_mul] at hq;rw[Nat.zero_add,←lQ,Array.getD_eq_getD_getElem?,Array.getElem?_append_left (by simp[bP,hy.len]; omega),List.getElem?_toArray];simp only[glue]
     split
     · rename_i h;rw[List.getElem?_append_left (by omega),List.getD_eq_getElem?_getD]
     · rename_i h;rw[List.getElem?_append_right (by omega),List.getD_eq_getElem?_getD,bP]
   have nQ:bj (w.heap.push (.cells cells e)) E (xs++ys) (fun q=>cells.getD (0+q) Go.undef) (glue xs.length S S2):=by
     refine bj.cells ((bZ.glue Dt).mono fun x hx=> ?_) eD;rw[List.length_append,rW] at hx;have h1:=zm x;have h2:=rY x;have h3:=jC x (by omega);rw[Array.getElem?_push,if_neg (Nat.ne_of_lt h3)]
   refine⟨_,bB w.heap.size (xs++ys).length E.sz (glue xs.length S S2),w.drew.alloc (.cells cells e),by rw[hv]; exact b_, ?_,(Ext.of (w:=w) (w':=w.drew) (Nat.le_refl _) rfl rfl fun _=>rfl).trans (oV w.drew _ _),fun x hx _=> ?_,fun x hx=> ?_,fun x hx=> ?_⟩
   · have:=nQ.own (b:=w.heap.size) (off:=0) (c:=C) (vs:=cells) (e:=e) (fz:=(0,0)) (by simp) (kK _) (by rw[List.length_append]; exact kN) (by rw[List.length_append]; exact hlen) (by omega);rw[←List.length_append];exact this
   · show(w.heap.push _)[x]? = _;rw[Array.getElem?_push,if_neg (Nat.ne_of_lt hx)]
   · have h1:=zm x;have h2:=rY x
     have:bB w.heap.size (xs++ys).length E.sz (glue xs.length S S2) x=0+bQ (xs.length+ys.length) E.sz (glue xs.length S S2) x:=by
       rw[←List.length_append]; simp only[bB,bQ]; rw[if_neg (Nat.ne_of_lt hx)]
     rw[this,rW];omega
   · have h1:=zm x;have h2:=rY x
     have h3:px x+py x=0:=by
       rcases Nat.eq_zero_or_pos (px x+py x) with h | h
       · exact h
       · have:=jC x h; omega
     have:bB w.heap.size (xs++ys).length E.sz (glue xs.length S S2) x≤1+bQ (xs.length+ys.length) E.sz (glue xs.length S S2) x:=by
       rw[←List.length_append]; simp only[bB,bQ]; split <;> omega
     rw[rW] at this;omega
 rcases hx.dU with⟨hv,h0,hp⟩ | ⟨b,off,c,vs,e',fz,S,hv,hp,hb,hf,hl,hm,ho,bZ⟩
 · subst h0;rcases Nat.eq_zero_or_pos ys.length with Du | Du
   · have wj:ys = []:=List.length_eq_zero_iff.1 Du;subst wj;have JL:news = []:=by have:=hy.len; simpa using this
     subst JL;refine⟨.slice none 0 0,fun _=>0,w, ?_,bc.nil (t:=fun _=>([]:List E.α) ++ []) rfl,Ext.refl w,fun _ _ _=>rfl,fun _ _=>Nat.zero_le _,fun _ _=>Nat.zero_le _⟩;rw[hv];have hc:(Builtin.firstCells i.size 0 vy).run P w = .ok #[] w:=hs.cells;rcases hs.kind with⟨e',hk⟩ | hk <;> simp[Builtin.append_,run_underlying ht,run_underlying hk,sizeOf,typeInfo,hi,hs.len,hc]
   · exact grow none 0 0 [] (fun _ _ _=>0) rfl hv (by omega) (by simp) (run_firstCells_none w.drew i.size 0 0 0) bj.nil fun x=>by simp[bQ,bM]
 · rcases Nat.lt_or_ge c (xs.length+ys.length) with hg | eT
   · obtain⟨fo,hN⟩:=hZ.of (c:=c) hb (by have:=Nat.mul_le_mul_right E.sz hl; omega) bZ;refine grow (some ⟨b,off,none⟩) xs.length c fo S rfl hv hg hN.len ?_ hN.dU fun x=> ?_
     · rcases hN.val with⟨a,c',h1,h2⟩ | ⟨b',JE,c',h1,h2⟩
       · have:fo = []:=by have:=hN.len; rw[h2] at this; simpa using this
         subst this;rw[h2];exact run_firstCells_some w.drew i.size 0 _ _ _ [] (by simp) fun j v hj=>by simp at hj
       · simp only[Value.slice.injEq,Option.some.injEq,Addr.mk.injEq,and_true,true_and] at h1;obtain⟨⟨rfl,rfl⟩,rfl⟩:=h1;refine run_firstCells_some w.drew i.size _ _ _ _ fo (by rw[hN.len,aY]) fun j v hj=> ?_;rw[dS];exact h2 j v hj
     · rw[hp]; simp only[bB,bQ]; exact Nat.le_add_left _ _
   · -- in place
     have kN:=Nat.mul_le_mul_right E.sz eT;rw[Nat.add_mul] at kN;obtain⟨w',g1,g2,g3,g4⟩:=nJ (P:=P) news w b (off+xs.length*E.sz) 0 vs e' fz hb hf (by rw[hy.len]; omega) hy.one;rw[Nat.add_zero] at g2
     have ix:px b=1∧bQ xs.length E.sz S b=0∧py b=0:=by
       have h1:=dG b;have h2:px b=1+bQ xs.length E.sz S b:=by rw[hp]; simp[bB,bQ]
       omega
     have JM:bj w'.heap E xs (fun q=>vs.getD (off+q) Go.undef) S:=bZ.mono fun x hx=>g3 x fun he=>by subst he; omega
     have JN:bj w'.heap E ys (fun q=>news.getD q Go.undef) S2:=Dt.mono fun x hx=>g3 x fun he=>by subst he; have:=rY x; omega
     have nQ:bj w'.heap E (xs++ys) (fun q=>(cZ vs (off+xs.length*E.sz) news).getD (off+q) Go.undef) (glue xs.length S S2):=by
       refine bj.cells (JM.glue JN) fun q hq=> ?_;rw[List.length_append,Nat.add_mul] at hq;rw[gW _ _ _ _ (by rw[hy.len]; omega)];simp only[glue]
       by_cases h:q<xs.length*E.sz
       · rw[if_pos h,if_neg (by omega)]
       · rw[if_neg h,if_pos (by rw[hy.len]; omega)]
         congr 1; omega
     refine⟨.slice (some ⟨b,off,none⟩) (xs++ys).length c,bB b (xs++ys).length E.sz (glue xs.length S S2),w', ?_, ?_,g4,fun x _ hx=>g3 x fun he=>by subst he; omega,fun x _=> ?_,fun x hx=> ?_⟩
     · rw[hv,List.length_append];have JO:xs.length+ys.length≤c:=eT;rw[←aY] at g1;rcases hs.kind with⟨e',hk⟩ | hk <;> simp[Builtin.append_,run_underlying ht,run_underlying hk,sizeOf,typeInfo,hi,hs.len,JO,hs.cells,dS,g1]
     · refine nQ.own g2 ?_ (by rw[List.length_append]; exact eT) (by rw[List.length_append]; exact hlen) (by rw[dk]; exact ho);rcases hf with h | h
       · exact .inl h
       · exact .inr (by rw[dk]; exact h)
     · have h2:=rY x
       have h3:bB b (xs++ys).length E.sz (glue xs.length S S2) x=(if x=b then 1 else 0)+bQ (xs.length+ys.length) E.sz (glue xs.length S S2) x:=by
         rw[←List.length_append]; rfl
       have h4:px x=(if x=b then 1 else 0)+bQ xs.length E.sz S x:=by rw[hp]; rfl
       rw[h3,rW];omega
     · have h2:=rY x;have h5:=dG x
       have h3:bB b (xs++ys).length E.sz (glue xs.length S S2) x=(if x=b then 1 else 0)+bQ (xs.length+ys.length) E.sz (glue xs.length S S2) x:=by
         rw[←List.length_append]; rfl
       have h4:px x=(if x=b then 1 else 0)+bQ xs.length E.sz S x:=by rw[hp]; rfl
       rw[h3,rW];omega
def zn (bs:List (Nat × ak)) (z:Z):C→Option (Lf × List Nat)
 | .lf (.list _ _)=>none
 | .lf l=>some (l,[])
 | .bl b=>some (.bool fun _=>b,[])
 | .nil=>match z with | .nl E=>some (.list E fun _=>[],[]) | _=>none
 | .own k=>match aL bs k with | some (.own E xs false)=>some (.list E xs,[k]) | _=>none
 | _=>none
def nS (bs:List (Nat × ak)):List Z→List C→Option (List Lf × List Nat)
 | [],[]=>some ([],[])
 | z ::zs,c::cs=>match zn bs z c,nS bs zs cs with
   | some (l,k),some (ls,ks)=>some (l::ls,k++ks)
   | _,_=>none
 | _,_=>none
def ug:(E:an)→List Lf→Option (Unit→E.α)
 | .int,[.int .i64 t]=>some t
 | .byte,[.int .u8 t]=>some fun _=>UInt8.ofNat (t ()).toNat
 | .str,[.str t]=>some t
 | .aI,[.int .i64 a, .int .i64 b]=>some fun _=>⟨a (),b ()⟩
 | .aH,[.int .i64 a, .int .i64 b, .int .i64 c, .int .i64 d]=>some fun _=>⟨a (),b (),c (),d ()⟩
 | .aB,[.int .i64 a, .int .i64 b, .int .i64 c, .int .i64 d, .int .i64 e, .int .i64 f, .int .i64 g, .int .i64 h, .int .i64 i, .int .i64 j]=>
   some fun _=>⟨a (),b (),c (),d (),e (),f (),g (),h (),i (),j ()⟩
 | .cw,[.list .aI t]=>some t
 | .ah,[.int .i64 a, .int .i64 b, .int .i64 c, .int .i64 d, .int .i64 e, .list .aH r, .list .cw s]=>some fun _=>⟨⟨a (),b (),c (),d (),e ()⟩,r (),s ()⟩
 | .fC,[.int .i64 a, .int .i64 b, .int .i64 c, .int .i64 d, .int .i64 e, .int .i64 f]=>some fun _=>⟨a (),b (),c (),d (),e (),f ()⟩
 | .rep,[.int .i64 a, .list .int l]=>some fun _=>⟨a (),l ()⟩
 | _,_=>none
theorem Dv {t:Int} (h:IntKind.u8.has t):((UInt8.ofNat t.toNat).toNat:Int)=t:=by
 have:0≤t∧t≤255:=by simpa [IntKind.has,IntKind.min,IntKind.max,IntKind.signed,IntKind.bits] using h
 have h2:t.toNat<256:=by omega
 rw[UInt8.toNat_ofNat',Nat.mod_eq_of_lt (by simpa using h2)];omega
theorem zo {E:an} {ls:List Lf} {x:Unit→E.α} (h:ug E ls=some x) (hb:∀t,ls = [.int .u8 t]→IntKind.u8.has (t ())):bH E x=ls:=by
 unfold ug at h
 split at h
 · cases h; rfl
 · rename_i t;cases h;simp only[bH]
   congr 2
   funext u
   exact Dv (hb t rfl)
 all_goals first
   | (cases h; rfl)
   | cases h
def uh:List (Nat→Nat)→Nat→Nat
 | [],_=>0
 | f::fs,x=>f x+uh fs x
theorem ui {n:Nat} {f:Nat→Nat}:bM (n+1) f=f 0+bM n fun i=>f (i+1):=by
 induction n with
 | zero=>simp[bM]
 | succ n ih=>
   have h:bM (n+1+1) f=bM (n+1) f+f (n+1):=rfl;have h2:(bM (n+1) fun i=>f (i+1))=(bM n fun i=>f (i+1))+f (n+1):=rfl;rw[h,ih,h2]; omega
theorem zp:∀(fs:List (Nat→Nat)) (x:Nat),bM fs.length (fun j=>fs.getD j (fun _=>0) x)=uh fs x
 | [],_=>rfl
 | f ::fs,x=>by
   simp only[List.length_cons,uh];rw[ui,←zp fs x];rfl
theorem nU {ρ:aF} {x:Nat}:∀{ks js:List Nat},bI ρ (ks++js) x=bI ρ ks x+bI ρ js x
 | [],js=>by simp[bI]
 | k::ks,js=>by simp only[List.cons_append,bI,nU (ks:=ks)]; omega
theorem qQ {bs:List (Nat × ak)}:∀{ks js:List Nat},fm bs ks=true→fm bs js=true→fm bs (ks++js)=true
 | [],_,_,h=>h
 | k ::ks,js,h1,h2=>by
   simp only[fm,Bool.and_eq_true,List.cons_append] at h1 ⊢;exact⟨h1.1,qQ h1.2 h2⟩
section
variable {Γ : Ctx} {H : Hp} {ρ : aF} {σ : SS} {a : Act} {w : World} (r : aG Γ H ρ σ a w)
include r
theorem JP {z:Z} {c:C} {l:Lf} {ks:List Nat} {v:Value} (h:zn σ.af z c=some (l,ks)) (hv:RC H ρ (av σ.af) c v) :
   ∃ S:Nat→Nat,bc w.heap l v S∧fm σ.af ks=true∧∀x,S x=bI ρ ks x:=by
 unfold zn at h
 split at h
 · cases h
 · rename_i l' hl;cases h;refine⟨fun _=>0,RL.Dr hv ?_,rfl,fun _=>rfl⟩;cases l <;> first | rfl | exact(hl _ _ rfl).elim
 · rename_i b;cases h;simp only[RC] at hv;subst hv;exact⟨fun _=>0,bc.bool (t:=fun _=>b),rfl,fun _=>rfl⟩
 · split at h
   · cases h;simp only[RC] at hv;subst hv;exact⟨fun _=>0,bc.nil rfl,rfl,fun _=>rfl⟩
   · cases h
 · rename_i k
   split at h
   · rename_i E xs hg;cases h;obtain⟨_,rfl⟩:=hv;exact⟨(ρ k).2,oT r hg,by simp[fm,hg],fun x=>by simp[bI]⟩
   · cases h
 · cases h
theorem zq:∀{zs:List Z} {cs:List C} {ls:List Lf} {ks:List Nat} {f:Nat→Value},nS σ.af zs cs=some (ls,ks)→(∀(j:Nat) c,cs[j]? = some c→RC H ρ (av σ.af) c (f j))→
   ∃ S:List (Nat→Nat),S.length=ls.length∧ls.length=cs.length∧fm σ.af ks=true∧(∀x,uh S x=bI ρ ks x)∧∀(j:Nat) l,ls[j]? = some l→bc w.heap l (f j) (S.getD j fun _=>0)
 | [],[],ls,ks,f,h,_=>by
   simp only[nS,Option.some.injEq,Prod.mk.injEq] at h;obtain⟨rfl,rfl⟩:=h;exact⟨[],rfl,rfl,rfl,fun _=>rfl,fun j l hj=>by simp at hj⟩
 | [],_::_,_,_,_,h,_=>by simp[nS] at h
 | _::_,[],_,_,_,h,_=>by simp[nS] at h
 | z ::zs,c::cs,ls,ks,f,h,hc=>by
   unfold nS at h
   split at h
   · rename_i l k nV wI h1 h2;cases h;obtain⟨S0,g1,g2,g3⟩:=JP r h1 (hc 0 c rfl);obtain⟨S,g4,g5,g6,g7,g8⟩:=zq h2 (f:=fun j=>f (j+1)) fun j c hj=>hc (j+1) c (by simpa using hj);refine⟨S0::S,by simp[g4],by simp[g5],qQ g2 g6,fun x=>by simp only[uh,g3,g7,nU],fun j l hj=> ?_⟩;cases j with
     | zero=>simp at hj; subst hj; exact g1
     | succ j=>simp at hj; simpa using g8 j l hj
   · cases h
end
def zr (bs:List (Nat × ak)) (E:an) (v:V):Option ((Unit→E.α) × List Nat):=
 match my v with
 | some cs=>(match nS bs (mr E) cs with
   | some (ls,ks)=>(match ug E ls with | some x=>some (x,ks) | none=>none)
   | none=>none)
 | none=>none
def uj (bs:List (Nat × ak)) (E:an):List V→Option ((Unit→List E.α) × List Nat)
 | []=>some (fun _=>[],[])
 | v ::vs=>match zr bs E v,uj bs E vs with
   | some (x,k),some (xs,ks)=>some (fun _=>x ()::xs (),k++ks)
   | _,_=>none
def wJ:Nat→List (Nat × Operand)→Bool
 | _,[]=>true
 | i,p::ps=>decide (p.1=i) && wJ (i+1) ps
theorem Dw {f:Operand→Value}:∀{ps:List (Nat × Operand)} {i:Nat},wJ i ps=true→(ps.map fun p=>(p.1,f p.2))=((ps.map fun p=>f p.2).zipIdx i).map fun x=>(x.2,x.1)
 | [],_,_=>rfl
 | p ::ps,i,h=>by
   simp only[wJ,Bool.and_eq_true,decide_eq_true_eq] at h;simp only[List.map_cons,List.zipIdx_cons,Dw h.2,h.1]
section
variable {Γ : Ctx} {H : Hp} {ρ : aF} {σ : SS} {a : Act} {w : World} (r : aG Γ H ρ σ a w)
include r
theorem JQ {E:an} {v:V} {x:Unit→E.α} {ks:List Nat} {u:Value} (h:zr σ.af E v=some (x,ks)) (hv:RV H ρ (av σ.af) v u) :
   u.cells.size=E.sz∧fm σ.af ks=true∧∃S,bj w.heap E [x ()] (fun q=>u.cells.getD q Go.undef) S∧∀y,bQ 1 E.sz S y=bI ρ ks y:=by
 unfold zr at h
 split at h
 · rename_i cs cV
   split at h
   · rename_i ls wI hm
     split at h
     · rename_i x' hx;cases h
       have hc:=hv.cells cV fun k hk=>by
         rw[hk] at hv;exact tN r hv
       obtain⟨S,g1,g2,g3,g4,g5⟩:=zq r hm (f:=fun j=>u.cells.getD j Go.undef) hc.2
       have he:=zo hx fun t ht=>by
         have:=g5 0 _ (by rw[ht]; rfl);generalize u.cells.getD 0 Go.undef=y,S.getD 0 (fun _=>0)=T at this;cases this with
         | int hr=>exact hr
       have hlen:ls.length=E.sz:=by rw[←he,gm]
       refine⟨by rw[hc.1,←g2,hlen],g3,fun _ j=>S.getD j fun _=>0,fun i y hy j l hj=> ?_,fun y=> ?_⟩
       · cases i with
         | zero=>
           simp only[List.getElem?_cons_zero,Option.some.injEq] at hy;subst hy;have cF:(bH E x)[j]? = some l:=hj;rw[he] at cF;rw[Nat.zero_mul,Nat.zero_add];exact g5 j l cF
         | succ i=>simp at hy
       · rw[←g4 y,←zp,g1,hlen];show 0+bM E.sz _=_;rw[Nat.zero_add]
     · cases h
   · cases h
 · cases h
theorem Dx {E:an}:∀{vs:List V} {us:List Value} {xs:Unit→List E.α} {ks:List Nat},uj σ.af E vs=some (xs,ks)→vs.length=us.length→(∀(j:Nat) v u,vs[j]? = some v→us[j]? = some u→RV H ρ (av σ.af) v u)→
   (xs ()).length=us.length∧(∀u∈us,u.cells.size=E.sz)∧(us.flatMap fun u=>u.cells.toList).length=us.length*E.sz∧fm σ.af ks=true∧
     ∃ S,bj w.heap E (xs ()) (fun q=>(us.flatMap fun u=>u.cells.toList).getD q Go.undef) S∧∀y,bQ us.length E.sz S y=bI ρ ks y
 | [],us,xs,ks,h,hl,_=>by
   have:us = []:=List.length_eq_zero_iff.1 hl.symm;subst this;simp only[uj,Option.some.injEq,Prod.mk.injEq] at h;obtain⟨rfl,rfl⟩:=h;exact⟨rfl,fun u hu=>by(cases hu),by simp,rfl,fun _ _ _=>0,bj.nil,fun y=>rfl⟩
 | v::vs,[],_,_,_,hl,_=>by simp at hl
 | v :: vs,u::us,xs,ks,h,hl,hv=>by
   unfold uj at h
   split at h
   · rename_i x k lS wI h1 h2;cases h;obtain⟨g1,g2,S0,g3,g4⟩:=JQ r h1 (hv 0 v u rfl rfl);obtain⟨g5,g6,g7,g8,S,g9,JR⟩:=Dx h2 (by simpa using hl) fun j v u hj cF=>hv (j+1) v u (by simpa using hj) (by simpa using cF);refine⟨by simp[g5],fun y hy=> ?_,by simp only[List.flatMap_cons,List.length_append,List.length_cons,g7,Array.length_toList,g1,Nat.add_mul]; omega,qQ g2 g8,glue 1 S0 S, ?_,fun y=> ?_⟩
     · cases hy with
       | head=>exact g1
       | tail _ hy=>exact g6 y hy
     · have:=(g3.glue g9);refine bj.cells this fun q hq=> ?_;simp only[List.length_cons,List.length_nil,Nat.zero_add,Nat.one_mul,glue,List.flatMap_cons]
       by_cases h:q<E.sz
       · rw[if_pos h,List.getD_eq_getElem?_getD,List.getElem?_append_left (by simp[g1,h]),Array.getD_eq_getD_getElem?,Array.getElem?_toList]
       · rw[if_neg h,List.getD_eq_getElem?_getD,List.getElem?_append_right (by simp[g1]; omega),List.getD_eq_getElem?_getD];simp[g1]
     · rw[List.length_cons,Nat.add_comm,rW,g4,JR,nU]
   · cases h
end
def Dy:Z→Lf
 | .i k=> .int k fun _=>0
 | .bo=> .bool fun _=>false
 | .st=> .str fun _=>[]
 | .nl E=> .list E fun _=>[]
 | .un=> .bool fun _=>false
theorem JS (E:an):(bH E fun _=>E.j_)=(mr E).map Dy:=by cases E <;> rfl
theorem Z.own {h:Array Obj} {z:Z} {v:Value} (hz:z.ok v=true) (hu:z≠ .un):bc h (Dy z) v fun _=>0:=by
 cases z with
 | i k=>
   cases v <;> simp[Z.ok] at hz
   obtain⟨rfl,rfl⟩:=hz;exact bc.int (t:=fun _=>0) (IntKind.v7 _)
 | bo=>cases v <;> simp[Z.ok] at hz; subst hz; exact bc.bool (t:=fun _=>false)
 | st=>
   cases v <;> simp[Z.ok] at hz
   subst hz;exact bc.str (t:=fun _=>[]) (by simp[cm])
 | nl E=>
   cases v with
   | slice a n c=>
     cases a with
     | none=>cases n <;> cases c <;> first | exact bc.nil rfl | simp[Z.ok] at hz
     | some a=>simp[Z.ok] at hz
   | _=>simp[Z.ok] at hz
 | un=>exact(hu rfl).elim
theorem Z.zt:∀{zs:List Z} {vs:List Value} {j:Nat} {z:Z},Z.ga zs vs=true→zs[j]? = some z→∃v,vs[j]? = some v∧z.ok v=true
 | [],_,j,z,_,h=>by simp at h
 | z0::zs,[],j,z,h,_=>by simp[Z.ga] at h
 | z0::zs,v::vs,j,z,h,hz=>by
   simp only[Z.ga,Bool.and_eq_true] at h;cases j with
   | zero=>simp at hz; subst hz; exact⟨v,rfl,h.1⟩
   | succ j=>simp at hz; obtain⟨u,h1,h2⟩:=Z.zt h.2 hz; exact⟨u,by simpa using h1,h2⟩
theorem Z.wK:∀{zs:List Z} {vs:List Value},Z.ga zs vs=true→vs.length=zs.length
 | [],[],_=>rfl
 | [],_::_,h=>by simp[Z.ga] at h
 | _::_,[],h=>by simp[Z.ga] at h
 | _ ::_,_::_,h=>by
   simp only[Z.ga,Bool.and_eq_true] at h;simp[Z.wK h.2]
theorem Dz (E:an):(mr E).length=E.sz:=by cases E <;> rfl
theorem JT (E:an):∀z∈mr E,z≠ .un:=by cases E <;> decide
theorem DA {h:Array Obj} {E:an} {z:Value} (hz:Z.ga (mr E) z.cells.toList=true) (n:Nat) :
  bj h E (List.replicate n E.j_) (fun q=>(madeCells z.cells (n*E.sz)).getD (0+q) Go.undef) fun _ _ _=>0:=fun i x hx j l hj=>by
 have hlen:z.cells.size=E.sz:=by have:=Z.wK hz; rw[Dz] at this; simpa using this
 have hi:i<n:=by have:=bD hx; simpa using this
 have gF:=mD hj;rw[List.getElem?_replicate,if_pos hi] at hx;cases hx;have hd:(bH E fun _=>E.j_)[j]? = some l:=hj;rw[JS,List.getElem?_map,Option.map_eq_some_iff] at hd;obtain⟨zj,h1,rfl⟩:=hd;obtain⟨v,h2,h3⟩:=Z.zt hz h1;have hq:i*E.sz+j<n*E.sz:=pc hi gF;have JU:(i*E.sz+j) % z.cells.size=j:=by rw[hlen,Nat.mul_comm,Nat.mul_add_mod,Nat.mod_eq_of_lt gF]
 have:(madeCells z.cells (n*E.sz)).getD (0+(i*E.sz+j)) Go.undef=v:=by
  rw[Nat.zero_add,Array.getD_eq_getD_getElem?];unfold madeCells;rw[Array.getElem?_map,Array.getElem?_range,if_pos hq];simp only[Option.map_some,Option.getD_some,JU];rw[Array.getElem?_toList] at h2;rw[getElem!_def,h2]
 show bc h _ ((madeCells z.cells (n*E.sz)).getD (0+(i*E.sz+j)) Go.undef) _;rw[this];exact Z.own h3 (JT E zj (List.mem_of_getElem? h1))
section
variable {Γ : Ctx} {H : Hp} {ρ : aF} {σ : SS} {a : Act} {w w' : World}
theorem zu {bs:List (Nat × ak)} {k:Nat} {B:ak} (h:av bs k):aL (bK bs k B) k=some B:=by
 induction bs with
 | nil=>simp[av] at h
 | cons p r ih=>
   simp only[bK]
   split
   · simp[aL]
   · rename_i hp;simp only[aL,if_neg hp];refine ih ?_;simp only[av,List.map_cons,List.mem_cons] at h;exact h.resolve_left (Ne.symm hp)
theorem aG.zv (r:aG Γ H ρ σ a w) {k:Nat} (hne:∀p∈Γ.hd,p.1≠k) (hk:av σ.af k) (h0:∀x,(ρ k).2 x=0) {B:ak} {p:Nat→Nat}
   (hh:∀x,x<w.heap.size→0<aP ρ σ.af x∨H x≠none→w'.heap[x]? = w.heap[x]?) (aY:Ext w w')
   (hB:cD w'.heap H (cH ρ k ((ρ k).1,p)) (av (bK σ.af k B)) B ((ρ k).1,p)) (qM:∀x,fa B ((ρ k).1,p) x→0<p x)
   (hp:∀x,0<p x→H x=none∧aP ρ σ.af x=0) (hle:∀x,p x≤1) :
   aG Γ H (cH ρ k ((ρ k).1,p)) {σ with af:=bK σ.af k B} a w':=by
 have hf:∀j,(cH ρ k ((ρ k).1,p) j).1=(ρ j).1:=fun j=>by
   by_cases h:j=k
   · subst h; rw[db]
   · rw[cL h]
 have g:iN H H ρ (cH ρ k ((ρ k).1,p)) (av σ.af) (av (bK σ.af k B)):=⟨fun _ _ h=>h,fun j hj=>⟨dR.2 hj,hf j⟩⟩;refine⟨⟨fun j hj=>by rw[hf]; exact r.b.oc j (dR.1 hj),by rw[qz]; exact r.b.nd,r.b.h0,fun b o hb=> ?_,fun j A hj=> ?_,fun x=> ?_,fun j A hj x hx=> ?_,fun j A hj x hx=> ?_⟩,r.e.grow g,r.d,r.n.trans aY,(fun p hp=>by have:=r.hd p hp; rw[cL (hne p hp)]; exact⟨dR.2 this.1,this.2⟩),fun p hp=>⟨dR.2 (r.hm p hp).1,by rw[hf]; exact(r.hm p hp).2⟩⟩
 · have:=r.b.hh b o hb;rw[hh b (jh this) (.inr (by rw[hb]; simp))];exact this
 · rcases jd r.b.nd hj with⟨rfl,rfl⟩ | ⟨hne,hj⟩
   · rw[db]; exact hB
   · rw[cL hne];exact(r.b.af j A hj).mono g fun b hb=>hh b (r.lt (Nat.lt_of_lt_of_le hb (lG hj b))) (.inl (Nat.lt_of_lt_of_le hb (lG hj b)))
 · have h1:=qA (ρ:=ρ) (ρ':=cH ρ k ((ρ k).1,p)) r.b.nd (B:=B) hk (fun j hj=>cL hj) x;rw[db,h0 x] at h1;show aP _ (bK σ.af k B) x≤1;have h2:=r.b.sum x;have h3:=hle x;rcases Nat.eq_zero_or_pos (p x) with h4 | h4
   · simp only[h4] at h1; omega
   · have:=(hp x h4).2;simp only at h1;omega
 · rcases jd r.b.nd hj with⟨rfl,rfl⟩ | ⟨hne,hj⟩
   · rw[db] at hx;have:=(hp x hx).1;cases h0:Γ.H0 x with
     | none=>rfl
     | some o=>rw[r.b.h0 x o h0] at this; cases this
   · rw[cL hne] at hx; exact r.b.fresh j A hj x hx
 · rcases jd r.b.nd hj with⟨rfl,rfl⟩ | ⟨hne,hj⟩
   · rw[db] at hx; exact(hp x (qM x hx)).1
   · rw[cL hne] at hx; exact r.b.gn j A hj x hx
theorem DB:∀{ks:List Nat} {ρ:aF} {k x:Nat},(k∈ks∨(ρ k).2 x=0)→(gV ρ ks k).2 x=0
 | [],ρ,k,x,h=>h.resolve_left (by simp)
 | j :: ks,ρ,k,x,h=>by
   simp only[gV];refine DB ?_
   by_cases lN:k=j
   · right; subst lN; rw[db]
   · rcases h with h | h
     · rcases List.mem_cons.1 h with h | h
       · exact(lN h).elim
       · exact .inl h
     · right; rw[cL lN]; exact h
theorem DC {n sz i:Nat} (hi:i<n) {S:Nat→Nat→Nat→Nat} {T:Nat→Nat→Nat} {x:Nat} :
  bQ n sz (fun q=>if q=i then T else S q) x+bM sz (fun j=>S i j x)=bQ n sz S x+bM sz fun j=>T j x:=by
 unfold bQ;have:=yt (f:=fun q=>bM sz fun j=>(if q=i then T else S q) j x) (g:=fun q=>bM sz fun j=>S q j x) hi fun j hj=>by simp only[if_neg hj]
 simp only[if_pos] at this;omega
theorem bj.set {h:Array Obj} {E:an} {xs:List E.α} {cs ds:Nat→Value} {S T:Nat→Nat→Nat→Nat} {x:E.α} {i:Nat} (hs:bj h E xs cs S) (ht:bj h E [x] ds T) :
   bj h E (xs.set i x) (fun q=>if i*E.sz≤q∧q<i*E.sz+E.sz then ds (q - i*E.sz) else cs q) (fun q=>if q=i then T 0 else S q):=fun q y hy j l hj=>by
 have gF:=mD hj;rw[List.getElem?_set] at hy
 by_cases hq:i=q
 · subst hq;rw[if_pos rfl] at hy
   split at hy
   · cases hy;simp only[if_pos];rw[if_pos (by omega),Nat.add_sub_cancel_left];have:=ht 0 x rfl j l hj
     rwa [Nat.zero_mul,Nat.zero_add] at this
   · cases hy
 · rw [if_neg hq] at hy;simp only[if_neg (Ne.symm hq)];rw[if_neg]
   · exact hs q y hy j l hj
   · intro hc;rcases Nat.lt_or_gt_of_ne hq with h1 | h1
     · have:=Nat.mul_le_mul_right E.sz (show i+1≤q from h1);rw[Nat.add_mul] at this;omega
     · have:=Nat.mul_le_mul_right E.sz (show q+1≤i from h1);rw[Nat.add_mul] at this;omega
end
theorem zw {fs:List (Option Nat)} (h:fs.all Option.isNone=true) (i q j:Nat):filled fs i q j=none:=by
 unfold filled
 split
 · split
   · rename_i k hk;have:=List.all_eq_true.1 h _ (List.mem_of_getElem? hk);cases this
   · rfl
 · rfl
theorem JV {fs:List (Option Nat)} {i q j m:Nat} {o:Option Nat} (hj:j<fs.length):filled (fs.set j o) i q m=if q=i∧m=j then o else filled fs i q m:=by
 unfold filled
 by_cases hq:q=i
 · simp only[hq,if_true,true_and];rw[List.getElem?_set]
   by_cases hm:m=j
   · subst hm;simp only[if_true,hj];cases o <;> rfl
   · rw[if_neg (Ne.symm hm),if_neg hm]
 · simp only[hq,if_false,false_and]
section
variable {h : Array Obj} {ρ : aF} {D : Nat → Prop} {E : an} {xs : List E.α} {i : Nat} {fs : List (Option Nat)} {cs : Nat → Value} {S : Nat → Nat → Nat → Nat}
theorem vZ.dU (hs:vZ h ρ D E xs i fs cs S) (hf:fs.all Option.isNone=true):bj h E xs cs S:=fun q x hx j l hj=>by
 have:=hs q x hx j l hj;rw[zw hf] at this;exact this
theorem bj.bZ (hs:bj h E xs cs S) (hf:fs.all Option.isNone=true):vZ h ρ D E xs i fs cs S:=fun q x hx j l hj=>by
 rw[zw hf];exact hs q x hx j l hj
end
theorem JW {h:Array Obj} {H:Hp} {ρ:aF} {D:Nat→Prop} {E:an} {xs:Unit→List E.α} {l:Bool} {p:Value × (Nat→Nat)} (ho:cD h H ρ D (.own E xs l) p) {i:Unit→Nat} (hi:i ()<(xs ()).length)
  {fs:List (Option Nat)} (hf:fs.all Option.isNone=true):cD h H ρ D (.bP E xs i fs) p:=by
 have ho:bc h (.list E xs) p.1 p.2:=ho;rcases ho.dU with⟨_,h0,_⟩ | ⟨b,off,c,vs,e,fz,S,h1,h2,h3,h4,h5,h6,h7,h8⟩
 · rw[h0] at hi; simp at hi
 · exact⟨b,off,c,vs,e,fz,S,h1,h2,h3,h4,h5,h6,h7,hi,h8.bZ hf⟩
theorem JX {h:Array Obj} {H:Hp} {ρ:aF} {D:Nat→Prop} {E:an} {xs:Unit→List E.α} {p:Value × (Nat→Nat)} {i:Unit→Nat} {fs:List (Option Nat)} (ho:cD h H ρ D (.bP E xs i fs) p)
  (hf:fs.all Option.isNone=true) (l:Bool):cD h H ρ D (.own E xs l) p:=by
 obtain⟨b,o,c,cs,e,fz,S,h1,h2,h3,h4,h5,h6,h7,h8,h9⟩:=ho;have:=(h9.dU hf).own h3 h4 h5 h6 h7;show bc h (.list E xs) p.1 p.2;rw[h1,h2];exact this
theorem JY {n sz i j:Nat} (hi:i<n) (hj:j<sz) {S:Nat→Nat→Nat→Nat} {T:Nat→Nat} {x:Nat} :
  bQ n sz (fun q m=>if q=i∧m=j then T else S q m) x+S i j x=bQ n sz S x+T x:=by
 unfold bQ;have h1:=yt (f:=fun q=>bM sz fun m=>(if q=i∧m=j then T else S q m) x) (g:=fun q=>bM sz fun m=>S q m x) hi fun q hq=>by simp only[hq,false_and,if_false]
 have h2:=yt (f:=fun m=>(if m=j then T else S i m) x) (g:=fun m=>S i m x) hj fun m hm=>by simp only[if_neg hm]
 simp only[true_and,if_true] at h1 h2;show(bM n fun q=>bM sz fun m=>(if q=i∧m=j then T else S q m) x)+_=_+_;omega
def rZ (bs:List (Nat × ak)):List (Option Nat)→List Lf→Option (List Lf × List Nat)
 | _,[]=>some ([],[])
 | [],l::ls=>some (l::ls,[])
 | o ::fs,l::ls=>
   match rZ bs fs ls with
   | some (r,ks)=>
     match o with
     | none=>some (l::r,ks)
     | some k=>(match aL bs k with | some (.own E xs false)=>some (.list E xs::r,k::ks) | _=>none)
   | none=>none
theorem DD {bs :List (Nat × ak)} {ρ:aF}:∀{fs:List (Option Nat)} {ls nV:List Lf} {ks:List Nat},rZ bs fs ls=some (nV,ks)→
   nV.length=ls.length∧fm bs ks=true∧(∀(j:Nat) l',nV[j]? = some l'→(∃k E xs,fs[j]? = some (some k)∧aL bs k=some (.own E xs false)∧k∈ks∧l' = .list E xs)∨((∀k,fs[j]? ≠some (some k))∧ls[j]? = some l'))∧
   ∀ (T:Nat→Nat→Nat),(∀(j:Nat) k,fs[j]? = some (some k)→j<ls.length→T j=fun _=>0)→
     ∀ x,bM ls.length (fun j=>(match fs[j]? with | some (some k)=>(ρ k).2 | _=>T j) x)=bM ls.length (fun j=>T j x)+bI ρ ks x
 | fs,[],nV,ks,h=>by
   have:nV = []∧ks = []:=by cases fs <;> simp_all [rZ]
   obtain⟨rfl,rfl⟩:=this;exact⟨rfl,rfl,fun j l' hj=>by simp at hj,fun T _ x=>rfl⟩
 | [],l::ls,nV,ks,h=>by
   simp only[rZ,Option.some.injEq,Prod.mk.injEq] at h;obtain⟨rfl,rfl⟩:=h;exact⟨rfl,rfl,fun j l' hj=> .inr ⟨fun k=>by simp,hj⟩,fun T _ x=>by simp[bI]⟩
 | o :: fs, l ::ls,nV,ks,h=>by
   simp only[rZ] at h
   split at h
   · rename_i r wI hr;obtain⟨g1,g2,g3,g4⟩:=DD (ρ:=ρ) hr;cases o with
     | none=>
       simp only[Option.some.injEq,Prod.mk.injEq] at h;obtain⟨rfl,rfl⟩:=h;refine⟨by simp[g1],g2,fun j l' hj=> ?_,fun T hT x=> ?_⟩
       · cases j with
         | zero=>exact .inr ⟨fun k=>by simp,by simpa using hj⟩
         | succ j=>simpa using g3 j l' (by simpa using hj)
       · have:=g4 (fun j=>T (j+1)) (fun j k hj hl=>hT (j+1) k (by simpa using hj) (by simpa using hl)) x;simp only[List.length_cons];rw[ui,ui];simp only[List.getElem?_cons_succ,List.getElem?_cons_zero] at this ⊢;omega
     | some k =>
       simp only at h
       split at h
       · rename_i E xs hk;simp only[Option.some.injEq,Prod.mk.injEq] at h;obtain⟨rfl,rfl⟩:=h;refine⟨by simp[g1],by simp only[fm,hk,g2,Bool.and_self],fun j l' hj=> ?_,fun T hT x=> ?_⟩
         · cases j with
           | zero=>exact .inl ⟨k,E,xs,rfl,hk,List.mem_cons_self,by simpa using hj.symm⟩
           | succ j=>
             rcases g3 j l' (by simpa using hj) with⟨k',E',lS,q1,q2,q3,q4⟩ | q
             · exact .inl ⟨k',E',lS,by simpa using q1,q2,List.mem_cons_of_mem _ q3,q4⟩
             · exact .inr (by simpa using q)
         · have:=g4 (fun j=>T (j+1)) (fun j k hj hl=>hT (j+1) k (by simpa using hj) (by simpa using hl)) x;have h0:=hT 0 k rfl (by simp);simp only[List.length_cons,bI];rw[ui,ui,h0];simp only[List.getElem?_cons_succ,List.getElem?_cons_zero] at this ⊢;omega
       · cases h
   · cases h
def r7 (bs:List (Nat × ak)) (k:Nat):Option (List (Nat × ak)):=
 match aL bs k with
 | some (.bP E xs i fs)=>
   match rZ bs fs (bH E (cS E xs i)) with
   | some (ls,ks)=>
     match ug E ls with
     | some x=>if dL (k::ks)=true then some (bK (eK bs (k::ks)) k (.own E (fun _=>(xs ()).set (i ()) (x ())) false)) else none
     | none=>none
   | none=>none
 | some _=>some bs
 | none=>none
section
variable {Γ : Ctx} {H : Hp} {ρ : aF} {σ : SS} {a : Act} {w w' : World}
theorem cD.gn {h:Array Obj} {D:Nat→Prop} {E:an} {xs:Unit→List E.α} {i:Unit→Nat} {fs:List (Option Nat)} {p:Value × (Nat→Nat)} (_:cD h H ρ D (.bP E xs i fs) p) (x:Nat) (hx:fa (.bP E xs i fs) p x):0<p.2 x:=hx
theorem aG.DE (r:aG Γ H ρ σ a w) {k:Nat} (hne:∀p∈Γ.hd,p.1≠k) {ks:List Nat} (hn:dL (k::ks)=true) (hd:∀j∈k::ks,av σ.af j) (hH:∀j∈k::ks,∀x,0<(ρ j).2 x→H x=none) {B:ak} {p:Nat→Nat}
   (hh:∀x,x<w.heap.size→bI ρ (k::ks) x=0→w'.heap[x]? = w.heap[x]?) (aY:Ext w w')
   (hB:∀ρ':aF,(∀j,(ρ' j).1=(ρ j).1)→(∀j,j∉k::ks→ρ' j=ρ j)→cD w'.heap H ρ' (av σ.af) B ((ρ k).1,p)) (qM:∀x,fa B ((ρ k).1,p) x→0<p x)
   (hp:∀x,p x≤bI ρ (k::ks) x) :
   ∃ ρ',aG Γ H ρ' {σ with af:=bK (Go.Proofs.YtpklefhdkkegiaaGreat.eK σ.af (k::ks)) k B} a w'∧∀j,(ρ' j).1=(ρ j).1:=by
 have r1:=r.eK hd;have eS:=fun y=>ud (ρ:=ρ) (x:=y) r.b.nd hn hd
 have lO:∀y,0<bI ρ (k::ks) y→H y=none:=fun y hy=>by
   obtain⟨j,hj,h1⟩:=wE hy;exact hH j hj y h1
 have wL:∀j,(cH (gV ρ (k::ks)) k ((gV ρ (k::ks) k).1,p) j).1=(ρ j).1:=fun j=>by
   by_cases h:j=k
   · subst h; rw[db]; exact mE
   · rw[cL h,mE]
 have JZ:av (bK (Go.Proofs.YtpklefhdkkegiaaGreat.eK σ.af (k::ks)) k B)=av σ.af:=by
   funext j; rw[dR,uc]
 refine⟨_,r1.zv (w':=w') (k:=k) (B:=B) (p:=p) hne (uc.2 (hd k List.mem_cons_self)) (fun y=>DB (.inl List.mem_cons_self))
     (fun y aR hy=>hh y aR ?_) aY ?_ (by rw[mE]; exact qM) (fun y hy=> ?_) (fun y=> ?_),wL⟩
 · have h2:=eS y;have h3:=r.b.sum y;rcases Nat.eq_zero_or_pos (bI ρ (k::ks) y) with h | h
   · exact h
   · rcases hy with hy | hy
     · simp only at hy; omega
     · exact(hy (lO y h)).elim
 · rw[JZ,mE];refine hB _ (by rw[←mE (ks:=k::ks) (ρ:=ρ) (k:=k)]; exact wL) fun j hj=> ?_;rw[cL (by rintro rfl; exact hj List.mem_cons_self),Dp hj]
 · have h1:=hp y;have h2:=eS y;have h3:=r.b.sum y;exact⟨lO y (by omega),by simp only; omega⟩
 · have h1:=hp y;have h2:=eS y;have h3:=r.b.sum y;omega
theorem DF (r:aG Γ H ρ σ a w) {ks:List Nat} (hu:fm σ.af ks=true):(∀j∈ks,av σ.af j)∧∀j∈ks,∀x,0<(ρ j).2 x→H x=none:=
 ⟨fun j hj=>by obtain⟨E,xs,hg⟩:=mF hu j hj; exact eH hg,fun j hj x hx=>by obtain⟨E,xs,hg⟩:=mF hu j hj; exact r.b.gn j _ (cK hg) x hx⟩
theorem zx (ρ:aF) (k:Nat) (ks:List Nat) (x:Nat):bI ρ (k::ks) x=(ρ k).2 x+bI ρ ks x:=rfl
theorem aG.close (bC:Γ.hd = []) (r:aG Γ H ρ σ a w) {k:Nat} {bs:List (Nat × ak)} (h:r7 σ.af k=some bs):∃ρ',aG Γ H ρ' {σ with af:=bs} a w∧∀j,(ρ' j).1=(ρ j).1:=by
 unfold r7 at h
 split at h
 · rename_i E xs i fs hk
   split at h
   · rename_i ls ks iv
     split at h
     · rename_i x hx
       split at h
       · rename_i hn;cases h;obtain⟨g1,g2,g3,g4⟩:=DD (ρ:=ρ) iv;rw[gm] at g4;obtain⟨fD,pf⟩:=DF r g2;have nW:=r.b.af k _ (cK hk);obtain⟨b,o,c,cs,e,fz,S,h1,h2,h3,h4,h5,h6,h7,h8,h9⟩:=nW
         have mH:(xs ())[i ()]? = some (cS E xs i ()):=by
           simp only[cS,List.getD_eq_getElem?_getD,List.getElem?_eq_getElem h8,Option.getD_some]
         have mI :bH E x=ls:=zo hx fun t ht=>by
           have bn:ls[0]? = some (.int .u8 t):=by rw[ht]; rfl
           rcases g3 0 _ bn with⟨_,_,_,_,_,_,q⟩ | ⟨q1,q2⟩
           · cases q
           · have gT:=h9 (i ()) _ mH 0 _ q2
             have:filled fs (i ()) (i ()) 0=none:=by
               unfold filled; rw[if_pos rfl]; split
               · rename_i k' bw; exact(q1 k' bw).elim
               · rfl
             rw[this] at gT
             have hint:∀(v:Value) (T:Nat→Nat),bc w.heap (.int .u8 t) v T→IntKind.u8.has (t ()):=fun v T h=>by
               cases h with
               | int hr=>exact hr
             exact hint _ _ gT
         have DG:∀(j:Nat) k',fs[j]? = some (some k')→j<E.sz→cs.getD (o+(i ()*E.sz+j)) Go.undef=(ρ k').1∧S (i ()) j=fun _=>0:=fun j k' hj hl=>by
           obtain⟨l,iP⟩:∃l,(bH E fun _=>cS E xs i ())[j]? = some l:=⟨_,List.getElem?_eq_getElem (by rw[gm]; exact hl)⟩;have:=h9 (i ()) _ mH j l iP;have hf:filled fs (i ()) (i ()) j=some k':=by unfold filled; rw[if_pos rfl,hj]
           rw[hf] at this;exact this.2
         let S':Nat→Nat→Nat→Nat:=fun q j=>if q=i () then(match fs[j]? with | some (some k)=>(ρ k).2 | _=>S q j) else S q j
         have eS:∀y,bQ (xs ()).length E.sz S' y=bQ (xs ()).length E.sz S y+bI ρ ks y:=fun y=>by
           have q1:=DC (sz:=E.sz) (S:=S) (T:=fun j=>match fs[j]? with | some (some k)=>(ρ k).2 | _=>S (i ()) j) (x:=y) h8;have q2:=g4 (S (i ())) (fun j k' hj hl=>(DG j k' hj hl).2) y
           have q3:S'=fun q=>if q=i () then(fun j=>match fs[j]? with | some (some k)=>(ρ k).2 | _=>S (i ()) j) else S q:=by
             funext q j
             simp only[S']
             by_cases hq:q=i ()
             · subst hq; simp only[if_true]
             · simp only[if_neg hq]
           rw[q3];omega
         have bZ :bj w.heap E ((xs ()).set (i ()) (x ())) (fun q=>cs.getD (o+q) Go.undef) S':=fun q y hy j l hj=>by
           rw[List.getElem?_set] at hy
           by_cases hq:i ()=q
           · rw [if_pos hq,if_pos (by omega)] at hy;cases hy;have cF:(bH E x)[j]? = some l:=hj;rw[mI] at cF;subst hq;simp only[S',if_true];rcases g3 j l cF with⟨k',E',lS,q1,q2,q3,rfl⟩ | ⟨q1,q2⟩
             · have gF:j<E.sz:=mD hj;rw[q1,(DG j k' q1 gF).1];exact r.b.af k' _ (cK q2)
             · have gT:=h9 (i ()) _ mH j l q2
               have hf:filled fs (i ()) (i ()) j=none:=by
                unfold filled; rw[if_pos rfl]; split
                · rename_i k' bw; exact(q1 k' bw).elim
                · rfl
               rw[hf] at gT
               split
               · rename_i k' bw; exact(q1 k' bw).elim
               · exact gT
           · rw[if_neg hq] at hy;have gT:=h9 q y hy j l hj;have hf:filled fs (i ()) q j=none:=by unfold filled; rw[if_neg (Ne.symm hq)]
             rw[hf] at gT;simp only[S',if_neg (Ne.symm hq)];exact gT
         have cn:=bZ.own (b:=b) (off:=o) (c:=c) h3 h4 (by rw[List.length_set]; exact h5) (by rw[List.length_set]; exact h6) h7;rw[List.length_set] at cn;refine r.DE (fun p hp=>by rw[bC] at hp; cases hp) (p:=bB b (xs ()).length E.sz S') hn (fun j hj=> ?_) (fun j hj y hy=> ?_) (fun _ _ _=>rfl) (Ext.refl _) (fun ρ' iw _=> ?_) (fun y hy=>hy) fun y=> ?_
         · rcases List.mem_cons.1 hj with rfl | hj
           · exact eH hk
           · exact fD j hj
         · rcases List.mem_cons.1 hj with rfl | hj
           · exact r.b.gn _ _ (cK hk) y hy
           · exact pf j hj y hy
         · show bc w.heap _ (ρ k).1 _;rw[h1]; exact cn
         · have:=eS y;rw[zx,h2];simp only[bB];simp only[bQ] at this;omega
       · cases h
     · cases h
   · cases h
 · cases h;exact⟨ρ,r,fun _=>rfl⟩
 · cases h
theorem aG.J0 (bC:Γ.hd = []) (r:aG Γ H ρ σ a w) {k kk:Nat} {E E':an} {xs:Unit→List E.α} {ys:Unit→List E'.α} {i:Unit→Nat} {fs:List (Option Nat)} (hk:aL σ.af k=some (.bP E xs i fs)) (kg:aL σ.af kk=none) {j:Nat}
   (hj:(bH E (cS E xs i))[j]? = some (.list E' ys)) (hf:fs[j]? = some none) :
   ∃ ρ',aG Γ H ρ' {σ with af:=bK (cU (bK σ.af k .dead) kk (.own E' ys false)) k (.bP E xs i (fs.set j (some kk)))} a w∧(∀q,av σ.af q→(ρ' q).1=(ρ q).1)∧
    ∃ b o n c cs e fz,(ρ k).1 = .slice (some ⟨b,o,none⟩) n c∧w.heap[b]? = some (.cells cs e fz)∧(ρ' kk).1=cs.getD (o+(i ()*E.sz+j)) Go.undef:=by
 have gF:j<E.sz:=by have:=bD hj; rwa [gm] at this
 have J1:j<fs.length:=bD hf;have nW:=r.b.af k _ (cK hk);obtain⟨b,o,c,cs,e,fz,S,h1,h2,h3,h4,h5,h6,h7,h8,h9⟩:=nW
 have mH:(xs ())[i ()]? = some (cS E xs i ()):=by
   simp only[cS,List.getD_eq_getElem?_getD,List.getElem?_eq_getElem h8,Option.getD_some]
 have cn:=h9 (i ()) _ mH j _ hj;have zy:filled fs (i ()) (i ()) j=none:=by unfold filled; rw[if_pos rfl,hf]
 rw[zy] at cn;simp only at cn
 let S':Nat→Nat→Nat→Nat:=fun q m=>if q=i ()∧m=j then(fun _=>0) else S q m
 have hS:∀y,bB b (xs ()).length E.sz S y=bB b (xs ()).length E.sz S' y+S (i ()) j y:=fun y=>by
   have:=JY (S:=S) (T:=fun _=>0) (x:=y) h8 gF;simp only[bQ] at this;simp only[bB,S'];omega
 have fN:av σ.af k:=eH hk;have hne:kk≠k:=fun he=>ir kg (he▸fN);have gR:∀y,bI ρ [k] y=bB b (xs ()).length E.sz S y:=fun y=>by simp[bI,h2]
 have lO:∀y,0<bB b (xs ()).length E.sz S y→H y=none:=fun y hy=>r.b.gn k _ (cK hk) y (by show 0<(ρ k).2 y; rw[h2]; exact hy);have fE:=fun y=>ud (ρ:=ρ) (ks:=[k]) (x:=y) r.b.nd rfl (fun j hj=>by simp at hj; subst hj; exact fN);have r1:=r.kill fN
 let ρ1:aF:=cH ρ k ((ρ k).1,fun _=>0)
 have zz:∀y,aP ρ1 (bK σ.af k .dead) y+bB b (xs ()).length E.sz S y=aP ρ σ.af y:=fun y=>by have:=fE y; rw[gR y] at this; exact this
 have dG:(cs.getD (o+(i ()*E.sz+j)) Go.undef).oneCell'=true:=cn.one
 have r2:=r1.qG (w':=w) (k:=kk) (B:= .own E' ys false) (p:=(cs.getD (o+(i ()*E.sz+j)) Go.undef,S (i ()) j)) (Dq kg) (fun _ _ _=>rfl) (fun _ _=>rfl) (Ext.refl _) dG
   (fun y hy=>by
    have q1:=hS y;have q2:=zz y;have q3:=r.b.sum y;exact⟨lO y (by simp only at hy; omega),by show aP ρ1 (bK σ.af k .dead) y=0; simp only at hy; omega⟩)
   (fun y=>by
    have q1:=hS y;have q2:=zz y;have q3:=r.b.sum y;simp only; omega) cn (by simp)
 let ρ2:aF:=cH ρ1 kk (cs.getD (o+(i ()*E.sz+j)) Go.undef,S (i ()) j)
 have e2:∀q,q≠kk→ρ2 q=ρ1 q:=fun q hq=>cL hq
 have e1:∀q,(ρ1 q).1=(ρ q).1:=fun q=>by
   by_cases h:q=k
   · subst h; simp only[ρ1]; rw[db]
   · simp only[ρ1]; rw[cL h]
 have wM:(ρ2 k)=((ρ k).1,fun _=>0):=by rw[e2 k (Ne.symm hne)]; exact db _ _ _
 have DH:∀y,aP ρ2 (cU (bK σ.af k .dead) kk (.own E' ys false)) y+bB b (xs ()).length E.sz S' y=aP ρ σ.af y:=fun y=>by
   have q1:=hS y;have q2:=zz y;rw[v5,tF (ρ:=ρ1) (ρ':=ρ2) fun q hq=>e2 q fun he=>ir kg (by rw[←he]; exact dR.1 hq)];have:(ρ2 kk).2 y=S (i ()) j y:=by simp only[ρ2]; rw[db]
   omega
 have J2:av (cU (bK σ.af k .dead) kk (.own E' ys false)) k:=fb.2 (.inr (dR.2 fN))
 have e3:∀q,(cH ρ2 k ((ρ2 k).1,bB b (xs ()).length E.sz S') q).1=(ρ2 q).1:=fun q=>by
   by_cases h:q=k
   · subst h; rw[db]
   · rw[cL h]
 have r3 :=aG.zv (w':=w) r2 (k:=k) (hne:=fun p hp=>by rw[bC] at hp; cases hp) (B:= .bP E xs i (fs.set j (some kk))) (p:=bB b (xs ()).length E.sz S') J2 (fun y=>by
    show(ρ2 k).2 y=0;rw[wM]) (fun _ _ _=>rfl) (Ext.refl _)
   (by
    refine⟨b,o,c,cs,e,fz,S', ?_,rfl,h3,h4,h5,h6,h7,h8,fun q x hx m l hm=> ?_⟩
    · show(ρ2 k).1=_;rw[wM]; exact h1
    · rw [JV J1]
      by_cases hq:q=i ()∧m=j
      · rw[if_pos hq];obtain⟨rfl,rfl⟩:=hq;refine⟨dR.2 (fb.2 (.inl rfl)), ?_,by simp[S']⟩;show _=(cH ρ2 k ((ρ2 k).1,bB b (xs ()).length E.sz S') kk).1;rw[e3];simp only[ρ2]; rw[db]
      · rw[if_neg hq];have bn:=h9 q x hx m l hm;have J3:S' q m=S q m:=by simp only[S',if_neg hq]
        rw[J3]
        split at bn
        · obtain⟨g1,g2,g3⟩:=bn;have J4:∀k',k'=kk→¬av σ.af k':=fun k' he hd=>ir kg (he▸hd);refine⟨dR.2 (fb.2 (.inr (dR.2 g1))), ?_,g3⟩;show _=(cH ρ2 k ((ρ2 k).1,bB b (xs ()).length E.sz S') _).1;rw[e3,e2 _ fun he=>J4 _ he g1,e1]; exact g2
        · exact bn)
   (fun y hy=>hy)
   (fun y hy=>by
    have q1:=DH y;have q2:=r.b.sum y;have q3:=hS y;refine⟨lO y (by omega), ?_⟩;show aP ρ2 (cU (bK σ.af k .dead) kk (.own E' ys false)) y=0;omega)
   (fun y=>by
    have q1:=DH y;have q2:=r.b.sum y;omega)
 refine⟨_,r3,fun q hq=> ?_,b,o,_,c,cs,e,fz,h1,h3, ?_⟩
 · show(cH ρ2 k ((ρ2 k).1,bB b (xs ()).length E.sz S') q).1=_;rw[e3,e2 q fun he=>ir kg (he▸hq),e1]
 · show(cH ρ2 k ((ρ2 k).1,bB b (xs ()).length E.sz S') kk).1=_;rw[e3];simp only[ρ2]; rw[db]
end
def pg (ls:List Lf) (off:Nat) (new:List Lf):List Lf:=ls.take off++(new++ls.drop (off+new.length))
theorem DI {ls new:List Lf} {off j:Nat} (h:off+new.length≤ls.length):(pg ls off new)[j]? = if off≤j∧j<off+new.length then new[j - off]? else ls[j]? :=by
 unfold pg;rcases Nat.lt_or_ge j off with h1 | h1
 · rw[List.getElem?_append_left (by rw[List.length_take]; omega),List.getElem?_take,if_pos h1,if_neg (by omega)]
 · rw [List.getElem?_append_right (by rw[List.length_take]; omega),List.length_take,Nat.min_eq_left (by omega)];rcases Nat.lt_or_ge j (off+new.length) with h2 | h2
   · rw[List.getElem?_append_left (by omega),if_pos ⟨h1,h2⟩]
   · rw[List.getElem?_append_right (by omega),if_neg (by omega),List.getElem?_drop]
     congr 1; omega
def kO:List (Option Nat)→Nat→Nat→List (Option Nat)
 | [],_,_=>[]
 | o::fs,0,0=>o::fs
 | _::fs,0,n+1=>none::kO fs 0 n
 | o::fs,off+1,n=>o::kO fs off n
theorem zA:∀{fs:List (Option Nat)} {off n j:Nat},(kO fs off n)[j]? = if off≤j∧j<off+n then(fs[j]?).map fun _=>none else fs[j]?
 | [],off,n,j=>by simp[kO]
 | o ::fs,0,0,j=>by
   have:¬(0≤j∧j<0+0):=by omega
   simp only[kO,if_neg this]
 | o::fs,0,n+1,0=>by simp[kO]
 | o ::fs,0,n+1,j+1=>by
   simp only[kO,List.getElem?_cons_succ];rw[zA];have:(0≤j∧j<0+n)↔(0≤j+1∧j+1<0+(n+1)):=by omega
   simp only[this]
 | o ::fs,off+1,n,0=>by
   simp[kO]
 | o ::fs,off+1,n,j+1=>by
   simp only[kO,List.getElem?_cons_succ];rw[zA];have:(off≤j∧j<off+n)↔(off+1≤j+1∧j+1<off+1+n):=by omega
   simp only[this]
theorem J5 {fs:List (Option Nat)} {off n i q j:Nat}:filled (kO fs off n) i q j=if off≤j∧j<off+n then none else filled fs i q j:=by
 unfold filled;rw[zA]
 by_cases h:off≤j∧j<off+n
 · simp only[if_pos h]
   split
   · cases fs[j]? <;> rfl
   · rfl
 · simp only[if_neg h]
theorem J6 {n:Nat} {f g:Nat→Nat}:bM n (fun j=>f j+g j)=bM n f+bM n g:=by
 induction n with
 | zero=>rfl
 | succ n ih=>simp only[bM,ih]; omega
theorem J7 {off n sz:Nat} {f g:Nat→Nat} (h:off+n≤sz):bM sz (fun j=>if off≤j∧j<off+n then f (j - off) else g j)≤bM sz g+bM n f:=by
 have h1:bM sz (fun j=>if off≤j∧j<off+n then f (j - off) else g j)≤bM sz fun j=>g j+(if off≤j∧j<off+n then f (j - off) else 0):=
  IT fun j hj=>by split <;> omega
 have h2:bM sz (fun j=>if off≤j∧j<off+n then f (j - off) else 0)=bM n f:=by
  obtain⟨m,rfl⟩:∃m,sz=off+(n+m):=⟨sz - off - n,by omega⟩;rw[ub,gC (n:=off) (fun i hi=>by rw[if_neg (by omega)]),ub,gC (n:=m) (fun i hi=>by rw[if_neg (by omega)]),Nat.zero_add,Nat.add_zero];exact tB fun i hi=>by rw[if_pos (by omega),Nat.add_sub_cancel_left]
 rw[J6,h2] at h1;exact h1
def r8 (E:an) (xs:Unit→List E.α) (i:Unit→Nat) (fs:List (Option Nat)):ak:=if fs.all Option.isNone=true then .own E xs false else .bP E xs i fs
theorem J8 {h:Array Obj} {H:Hp} {ρ:aF} {D:Nat→Prop} {E:an} {xs:Unit→List E.α} {i:Unit→Nat} {fs:List (Option Nat)} {p:Value × (Nat→Nat)} (hr:cD h H ρ D (.bP E xs i fs) p):cD h H ρ D (r8 E xs i fs) p:=by
 unfold r8
 split
 · rename_i hf; exact JX hr hf false
 · exact hr
theorem J9 {E:an} {xs:Unit→List E.α} {i:Unit→Nat} {fs:List (Option Nat)} {p:Value × (Nat→Nat)} {x:Nat} (h:fa (r8 E xs i fs) p x):0<p.2 x:=by
 unfold r8 at h
 split at h <;> exact h
section
variable {Γ : Ctx} {H : Hp} {ρ : aF} {σ : SS} {a : Act} {w w' : World}
theorem aG.J_ {P:Program} (r:aG Γ H ρ σ a w) {k:Nat} (hne:∀p∈Γ.hd,p.1≠k) {ks:List Nat} (hn:dL (k::ks)=true) {E:an} {xs:Unit→List E.α} {i:Unit→Nat} {fs:List (Option Nat)} (fD:av σ.af k)
   (hB:cD w.heap H ρ (av σ.af) (.bP E xs i fs) (ρ k)) (pf:∀x,0<(ρ k).2 x→H x=none) (hu:fm σ.af ks=true) {b o n c:Nat} (hv:(ρ k).1 = .slice (some ⟨b,o,none⟩) n c) {off:Nat} {us:List Value} {new:List Lf}
   (y9:us.length=new.length) (dm:off+new.length≤E.sz) {T:Nat→Nat→Nat} (cn:∀(j:Nat) l,new[j]? = some l→bc w.heap l (us.getD j Go.undef) (T j)) (hT:∀y,bM new.length (fun j=>T j y)=bI ρ ks y)
   {x:Unit→E.α} (hx:bH E x=pg (bH E (cS E xs i)) off new) :
   ∃ w',(storeCells ⟨b,o+i ()*E.sz+off,none⟩ us).run P w = .ok () w'∧(∀y,(ρ k).2 y=0→w'.heap[y]? = w.heap[y]?)∧
     ∃ ρ',aG Γ H ρ' {σ with af:=bK (Go.Proofs.YtpklefhdkkegiaaGreat.eK σ.af (k::ks)) k (r8 E (fun _=>(xs ()).set (i ()) (x ())) i (kO fs off new.length))} a w':=by
 obtain⟨b',o',c',vs,e,fz,S,h1,h2,h3,h4,h5,h6,h7,h8,h9⟩:=hB;rw[hv] at h1;simp only[Value.slice.injEq,Option.some.injEq,Addr.mk.injEq,and_true] at h1;obtain⟨⟨rfl,rfl⟩,rfl,rfl⟩:=h1;obtain⟨Ka,Kb⟩:=DF r hu;have hd:∀j∈k::ks,av σ.af j:=fun j hj=>by rcases List.mem_cons.1 hj with rfl | hj; exact fD; exact Ka j hj
 have hle:∀y,(ρ k).2 y+bI ρ ks y≤1:=fun y=>by
   have h1:=kL (ρ:=ρ) (k::ks) hn hd y;have h2:=r.b.sum y;simp only[bI] at h1;omega
 have mH:(xs ())[i ()]? = some (cS E xs i ()):=by
   simp only[cS,List.getD_eq_getElem?_getD,List.getElem?_eq_getElem h8,Option.getD_some]
 have dF:i ()*E.sz+E.sz≤(xs ()).length*E.sz:=by
   have:=Nat.mul_le_mul_right E.sz (show i ()+1≤(xs ()).length from h8)
   rwa [Nat.add_mul,Nat.one_mul] at this
 have kN:=Nat.mul_le_mul_right E.sz h5
 have dG:∀u∈us,u.oneCell'=true:=fun u zB=>by
   obtain⟨q,hq,rfl⟩:=List.getElem_of_mem zB;obtain⟨l,hl⟩:∃l,new[q]? = some l:=⟨_,List.getElem?_eq_getElem (by omega)⟩;have:=(cn q l hl).one
   rwa [List.getD_eq_getElem?_getD,List.getElem?_eq_getElem hq] at this
 obtain⟨w',g1,g2,g3,g4⟩:=nJ (P:=P) us w b (o+i ()*E.sz+off) 0 vs e fz h3 h4 (by omega) dG;rw[Nat.add_zero] at g2
 let S':Nat→Nat→Nat→Nat:=fun q j=>if q=i () then(if off≤j∧j<off+new.length then T (j - off) else S q j) else S q j
 have DJ:∀y,bQ (xs ()).length E.sz S' y≤bQ (xs ()).length E.sz S y+bI ρ ks y:=fun y=>by
   have q1:=DC (sz:=E.sz) (S:=S) (T:=fun j=>if off≤j∧j<off+new.length then T (j - off) else S (i ()) j) (x:=y) h8;have q2:=J7 (f:=fun j=>T j y) (g:=fun j=>S (i ()) j y) dm
   have q3:S'=fun q=>if q=i () then(fun j=>if off≤j∧j<off+new.length then T (j - off) else S (i ()) j) else S q:=by
     funext q j
     simp only[S']
     by_cases hq:q=i ()
     · subst hq; simp only[if_true]
     · simp only[if_neg hq]
   have q4:(bM E.sz fun j=>(fun j=>if off≤j∧j<off+new.length then T (j - off) else S (i ()) j) j y)=bM E.sz fun j=>if off≤j∧j<off+new.length then T (j - off) y else S (i ()) j y:=
     tB fun j _=>by show(if _ then _ else _:Nat→Nat) y=_; split <;> rfl
   rw[←q3,q4] at q1;rw[hT y] at q2;omega
 have ix:∀y,(ρ k).2 y=(if y=b then 1 else 0)+bQ (xs ()).length E.sz S y:=fun y=>by rw[h2]; rfl
 have Q3:bQ (xs ()).length E.sz S b=0∧bI ρ ks b=0:=by
   have h1:=hle b;have h2:=ix b;rw[if_pos rfl] at h2;omega
 have zC:∀q y,(xs ())[q]? = some y∨q=i ()→∀j,j<E.sz→∀z,0<S' q j z→z≠b:=fun q y hy j hj z hz Kc=>by
   subst Kc;have hq:q<(xs ()).length:=by rcases hy with hy | rfl; exact bD hy; exact h8
   have:=Dn (S:=S') (x:=z) hq hj;have:=DJ z;omega
 have eD:∀q,o+q<vs.size→¬(i ()*E.sz+off≤q∧q<i ()*E.sz+off+new.length)→(cZ vs (o+i ()*E.sz+off) us).getD (o+q) Go.undef=vs.getD (o+q) Go.undef:=fun q hq hc=>by
   rw[gW _ _ _ _ (by omega),if_neg (by omega)]
 have Kd:∀j,j<new.length→(cZ vs (o+i ()*E.sz+off) us).getD (o+(i ()*E.sz+(off+j))) Go.undef=us.getD j Go.undef:=fun j hj=>by
   rw[gW _ _ _ _ (by omega),if_pos (by omega)]
   congr 1; omega
 refine⟨w',g1,(fun y hy=>g3 y fun he=>by have:=ix y; rw[if_pos he] at this; omega),Exists.imp (fun _ h=>And.left h) (r.DE hne (p:=bB b (xs ()).length E.sz S') hn hd (fun j hj y hy=>by rcases List.mem_cons.1 hj with rfl | hj; exact pf y hy; exact Kb j hj y hy) (fun y _ hy=>g3 y fun he=> ?_) g4 (fun ρ' iw Q4=>J8 ?_) (fun y hy=>J9 hy) fun y=> ?_)⟩
 · subst he;have:=ix y;rw[if_pos rfl] at this;rw[zx] at hy;omega
 · refine⟨b,o,c,cZ vs (o+i ()*E.sz+off) us,e,fz,S',by rw[List.length_set]; exact hv,by rw[List.length_set],g2,by rcases h4 with h | h; exact .inl h; exact .inr (by rw[dk]; exact h),by rw[List.length_set]; exact h5,
     by rw[List.length_set]; exact h6,by rw[dk]; exact h7,by rw[List.length_set]; exact h8,fun q y hy j l hj=> ?_⟩
   have gF:=mD hj;rw[List.getElem?_set] at hy
   by_cases hq:i ()=q
   · rw [if_pos hq,if_pos h8] at hy;cases hy;subst hq;have cF:(bH E x)[j]? = some l:=hj;rw[hx,DI (by rw[gm]; exact dm)] at cF;rw[J5];simp only[S',if_true]
     by_cases hr:off≤j∧j<off+new.length
     · rw[if_pos hr] at cF ⊢;rw[if_pos hr];have q1:=Kd (j - off) (by omega);rw[show off+(j - off)=j by omega] at q1;show bc w'.heap l ((cZ vs (o+i ()*E.sz+off) us).getD (o+(i ()*E.sz+j)) Go.undef) (T (j - off));rw[q1];refine(cn _ _ cF).mono fun z hz=>g3 z ?_;exact zC (i ()) (cS E xs i ()) (.inr rfl) j gF z (by simp only[S',if_true,if_pos hr]; exact hz)
     · rw[if_neg hr] at cF ⊢;rw[if_neg hr];have bn:=h9 (i ()) _ mH j l cF;have q1:=eD (i ()*E.sz+j) (by omega) (by omega);simp only[q1]
       split at bn
       · obtain⟨f1,f2,f3⟩:=bn;exact⟨f1,by rw[iw]; exact f2,f3⟩
       · refine bn.mono fun z hz=>g3 z (zC (i ()) (cS E xs i ()) (.inr rfl) j gF z (by simp only[S',if_true,if_neg hr]; exact hz))
   · rw [if_neg hq] at hy;have bn:=h9 q y hy j l hj;have hf:∀ph:List (Option Nat),filled ph (i ()) q j=none:=fun ph=>by unfold filled; rw[if_neg (Ne.symm hq)]
     rw[hf] at bn ⊢;simp only[S',if_neg (Ne.symm hq)];have Q5:q*E.sz+j<(xs ()).length*E.sz:=pc (bD hy) gF
     have q1:=eD (q*E.sz+j) (by omega) (fun hc=>by
       rcases Nat.lt_or_gt_of_ne hq with h1 | h1
       · have:=Nat.mul_le_mul_right E.sz (show i ()+1≤q from h1);rw[Nat.add_mul] at this;omega
       · have:=Nat.mul_le_mul_right E.sz (show q+1≤i () from h1);rw[Nat.add_mul] at this;omega)
     show bc w'.heap l ((cZ vs (o+i ()*E.sz+off) us).getD (o+(q*E.sz+j)) Go.undef) (S q j);rw[q1];exact bn.mono fun z hz=>g3 z (zC q y (.inl hy) j gF z (by simp only[S',if_neg (Ne.symm hq)]; exact hz))
 · have:=DJ y;have:=ix y;rw[zx];simp only[bB];simp only[bQ] at *;omega
end
def uk (E:an) (xs:Unit→List E.α) (i:Unit→Nat) (k:Nat):List (Nat × Nat)→List (Option Nat)→List (Nat × ak)→Option (List (Nat × ak))
 | [],_,bs=>some bs
 | (j,kk)::r,fs,bs=>
   match(bH E (cS E xs i))[j]?,fs[j]?,aL bs kk with
   | some (.list E' ys),some none,none=>uk E xs i k r (fs.set j (some kk)) (bK (cU (bK bs k .dead) kk (.own E' ys false)) k (.bP E xs i (fs.set j (some kk))))
   | _,_,_=>none
def r9:List Lf→Nat→Nat→List (Nat × Nat)
 | [],_,_=>[]
 | .list _ _::ls,j,kk=>(j,kk)::r9 ls (j+1) (kk+1)
 | _::ls,j,kk=>r9 ls (j+1) kk
def lU:List Lf→Nat→List C
 | [],_=>[]
 | .list _ _::ls,kk=> .own kk::lU ls (kk+1)
 | l::ls,kk=> .lf l::lU ls kk
theorem zD:∀{ls:List Lf} {kk:Nat},(lU ls kk).length=ls.length
 | [],_=>rfl
 | l::ls,kk=>by cases l <;> simp[lU,zD (ls:=ls)]
theorem DK:∀{ls:List Lf} {j kk m:Nat} {c:C},(lU ls kk)[m]? = some c→∃l,ls[m]? = some l∧((l.sc=true∧c = .lf l)∨∃q,c = .own q∧(j+m,q)∈r9 ls j kk)
 | [],j,kk,m,c,h=>by simp[lU] at h
 | l ::ls,j,kk,0,c,h=>by
   cases l <;> simp[lU] at h <;> subst h <;> refine⟨_,rfl, ?_⟩
   · exact .inl ⟨rfl,rfl⟩
   · exact .inl ⟨rfl,rfl⟩
   · exact .inl ⟨rfl,rfl⟩
   · exact .inr ⟨kk,rfl,by simp[r9]⟩
 | l :: ls,j,kk,m+1,c,h=>by
   cases l
   all_goals
    simp only[lU,List.getElem?_cons_succ] at h;obtain⟨l',h1,h2⟩:=DK (j:=j+1) h;refine⟨l',by simpa using h1, ?_⟩;rcases h2 with h2 | ⟨q,h2,h3⟩
    · exact .inl h2
    · refine .inr ⟨q,h2, ?_⟩;simp only[r9];rw[show j+(m+1)=j+1+m by omega]
      first | exact List.mem_cons_of_mem _ h3 | exact h3
def wN (bs:List (Nat × ak)) (k:Nat) (E:an):Option ((Unit→List E.α) × Option (Unit→Nat) × List (Option Nat)):=
 match aL bs k with
 | some (.own E' xs false)=>(match nM E E' xs with | some ys=>some (ys,none,List.replicate E.sz none) | none=>none)
 | some (.bP E' xs i fs)=>(match nM E E' xs with | some ys=>some (ys,some i,fs) | none=>none)
 | _=>none
def DL (tab:aX) (T:TypeId) (cs:List C):V:=
 match cz tab T with
 | some (.st _ _ _ _)=> .agg cs
 | some _=>(match cs with | [c]=> .c c | _=> .c .undef)
 | none=> .c .undef
def zE (tab:aX) (σ:SS) (K:SS→Prop) (T:TypeId) (d k:Nat) (E:an) (i:Unit→Nat) (off:Nat):Prop:=
 match r7 σ.af k with
 | some bs=>
   match wN bs k E,nK tab T with
   | some (xs,none,_),some n=>
     if off+n≤E.sz then
      match uk E xs i k (r9 (((bH E (cS E xs i)).drop off).take n) off (8*d)) (List.replicate E.sz none) (bK bs k (.bP E xs i (List.replicate E.sz none))) with
      | some bX=>K (({σ with af:=bX}:SS).put (some d) (DL tab T (lU (((bH E (cS E xs i)).drop off).take n) (8*d))))
      | none=>False
     else False
   | _,_=>False
 | none=>False
inductive Sv (E:an) (t:Unit→List E.α) (K:(Unit→List E.α)→Prop):Prop where
 | mk (u:Unit→List E.α) (h:t ()=u ()) (hk:K u)
theorem Sv.mJ {E:an} {t:Unit→List E.α} {K:(Unit→List E.α)→Prop} (hk:K t):Sv E t K:=⟨t,rfl,hk⟩
def wO (σ:SS) (K:SS→Prop) (k:Nat) (E:an) (xs:Unit→List E.α) (i:Unit→Nat) (fs:List (Option Nat)) (off n:Nat) (ls:List Lf) (ks:List Nat):Prop:=
 match ug E (pg (bH E (cS E xs i)) off ls) with
 | some x=>if ls.length=n∧off+n≤E.sz∧dL (k::ks)=true then Sv E (fun _=>(xs ()).set (i ()) (x ())) fun ys=>K {σ with af:=bK (eK σ.af (k::ks)) k (r8 E ys i (kO fs off ls.length))} else False
 | none=>False
def zF (tab:aX) (σ:SS) (K:SS→Prop) (T:TypeId) (k:Nat) (E:an) (i:Unit→Nat) (off:Nat) (v:V):Prop:=
 match wN σ.af k E,nK tab T,my v with
 | some (xs,oi,fs),some n,some cs=>
   match nS σ.af (((mr E).drop off).take n) cs with
   | some (ls,ks)=>
     match oi with
     | none=>wO σ K k E xs i fs off n ls ks
     | some i'=>Ob (fun _=>i ()=i' ()) fun _=>wO σ K k E xs i' fs off n ls ks
   | none=>False
 | _,_,_=>False
section
variable {P : Program} {tab : aX} (hT : eC P tab = true) {Γ : Ctx} {H : Hp}
theorem zG {E E':an} {t:Unit→List E'.α} {u:Unit→List E.α} (h:Lf.list E' t=Lf.list E u) {B:(E:an)→(Unit→List E.α)→Prop} (hB:B E' t):B E u:=by
 injection h with h1 h2
 subst h1;have:=eq_of_heq h2;subst this;exact hB
theorem DM {w:World} {bs:List (Nat × ak)} {ρ:aF} {D:Nat→Prop} {k:Nat} {E:an} {xs:Unit→List E.α} {oi:Option (Unit→Nat)} {fs:List (Option Nat)} (h:wN bs k E=some (xs,oi,fs))
   (hb:∀B,aL bs k=some B→cD w.heap H ρ D B (ρ k)) {i:Unit→Nat} {b o n c:Nat} (hv:(ρ k).1 = .slice (some ⟨b,o,none⟩) n c) (hi:i ()<n) :
   cD w.heap H ρ D (.bP E xs (oi.getD i) fs) (ρ k)∧n=(xs ()).length∧(∃B,aL bs k=some B∧∀x,0<(ρ k).2 x→fa B (ρ k) x)∧(oi=none→fs=List.replicate E.sz none∧aL bs k=some (.own E xs false)):=by
 unfold wN at h
 split at h
 · rename_i E' lS hg
   split at h
   · rename_i ys hc;simp only[Option.some.injEq,Prod.mk.injEq] at h;obtain⟨rfl,rfl,rfl⟩:=h;have h0:=hb _ hg;have DN:=qO hc
     have hn:n=(ys ()).length∧cD w.heap H ρ D (.own E ys false) (ρ k):=by
      have h1:cD w.heap H ρ D (.own E ys false) (ρ k):=zG DN (B:=fun E u=>cD w.heap H ρ D (.own E u false) (ρ k)) h0;have h2:bc w.heap (.list E ys) (ρ k).1 (ρ k).2:=h1;obtain⟨b',c',h3,_⟩:=bc.slice h2;rw[hv] at h3;simp only[Value.slice.injEq] at h3;exact⟨h3.2.1,h1⟩
     obtain⟨rfl,h1⟩:=hn
     have wP:aL bs k=some (.own E ys false):=by
      rw[hg];exact zG DN (B:=fun E u=>some (ak.own E' lS false)=some (ak.own E u false)) rfl
     exact⟨JW h1 hi (by simp),rfl,⟨_,hg,fun x hx=>hx⟩,fun _=>⟨rfl,wP⟩⟩
   · cases h
 · rename_i E' lS i' ph hg
   split at h
   · rename_i ys hc;simp only[Option.some.injEq,Prod.mk.injEq] at h;obtain⟨rfl,rfl,rfl⟩:=h;have h0:=hb _ hg;have h1:cD w.heap H ρ D (.bP E ys i' ph) (ρ k):=zG (qO hc) (B:=fun E u=>cD w.heap H ρ D (.bP E u i' ph) (ρ k)) h0
     have hn:n=(ys ()).length:=by
      obtain⟨b',o',c',_,_,_,_,h3,_⟩:=h1;rw[hv] at h3;simp only[Value.slice.injEq] at h3;exact h3.2.1
     exact⟨h1,hn,⟨_,hg,fun x hx=>hx⟩,fun h=>by cases h⟩
   · cases h
 · cases h
theorem DO (bC:Γ.hd = []) {E:an} {xs:Unit→List E.α} {i:Unit→Nat} {k:Nat} {env:List V} {a:Act} {w:World}:∀{l:List (Nat × Nat)} {fs:List (Option Nat)} {bs bX:List (Nat × ak)} {ρ:aF},
   uk E xs i k l fs bs=some bX→aG Γ H ρ {env:=env,af:=bs} a w→aL bs k=some (.bP E xs i fs)→
   ∃ ρ',aG Γ H ρ' {env:=env,af:=bX} a w∧(∀q,av bs q→av bX q∧(ρ' q).1=(ρ q).1)∧
     ∀ p∈l,av bX p.2∧∃b o n c cs e fz,(ρ k).1 = .slice (some ⟨b,o,none⟩) n c∧w.heap[b]? = some (.cells cs e fz)∧(ρ' p.2).1=cs.getD (o+(i ()*E.sz+p.1)) Go.undef
 | [],fs,bs,bX,ρ,h,r,hk=>by
   simp only[uk,Option.some.injEq] at h;subst h;exact⟨ρ,r,fun q hq=>⟨hq,rfl⟩,fun p hp=>by cases hp⟩
 | (j, kk)::l,fs,bs,bX,ρ,h,r,hk=>by
   simp only[uk] at h
   split at h
   · rename_i E' ys hj hf kg;obtain⟨ρ1,r1,g1,g2⟩:=aG.J0 bC r hk kg hj hf;have fN:av bs k:=eH hk;have pj:aL (bK (cU (bK bs k .dead) kk (.own E' ys false)) k (.bP E xs i (fs.set j (some kk)))) k=some (.bP E xs i (fs.set j (some kk))):=zu (fb.2 (.inr (dR.2 fN)));obtain⟨ρ2,r2,g3,g4⟩:=DO bC h r1 pj;have DP:∀q,av bs q→av (bK (cU (bK bs k .dead) kk (.own E' ys false)) k (.bP E xs i (fs.set j (some kk)))) q:=fun q hq=>dR.2 (fb.2 (.inr (dR.2 hq)));refine⟨ρ2,r2,fun q hq=>⟨(g3 q (DP q hq)).1,by rw[(g3 q (DP q hq)).2,g1 q hq]⟩,fun p hp=> ?_⟩;rcases List.mem_cons.1 hp with rfl | hp
     · have hq:=g3 kk (dR.2 (fb.2 (.inl rfl)));obtain⟨b,o,n,c,cs,e,fz,q1,q2,q3⟩:=g2;exact⟨hq.1,b,o,n,c,cs,e,fz,q1,q2,by rw[hq.2]; exact q3⟩
     · obtain⟨q0,b,o,n,c,cs,e,fz,q1,q2,q3⟩:=g4 p hp;exact⟨q0,b,o,n,c,cs,e,fz,by rw[←g1 k fN]; exact q1,q2,q3⟩
   · cases h
include hT in
theorem Ke {T:TypeId} {n:Nat} (aY:nK tab T=some n):∃i,P.info? T=some i∧i.size=n:=by
 unfold nK at aY
 split at aY
 · rename_i aU; cases aY;obtain⟨fields,_,_,i,cs,h1,h2,_⟩:=ny (ck hT aU);exact⟨i,h1,h2⟩
 · rename_i ti hne aU; cases aY
   have sc:∀{t:TypeId} {z:Z},dJ P t (.sc z)=true→∃i,P.info? t=some i∧i.size=1:=fun {t z} h=>by
    obtain⟨_,i,v,h1,h2,_⟩:=nz h; exact⟨i,h1,h2⟩
   have ht:=ck hT aU;cases ti with
   | st n fs z q=>exact(hne _ _ _ _ rfl).elim
   | sl E elem bytes=>exact sc (v_ ht)
   | sc z=>exact sc ht
   | it k=>exact sc (nB ht).2
   | bt=>exact sc (qB ht).2
   | ss=>exact sc (lI ht).2
   | mp kt et=>exact sc (oP ht).2.2.2
 · cases aY
section
variable {ρ : aF} {σ : SS} {a : Act} {w : World} (r : aG Γ H ρ σ a w)
include hT r
theorem Kf (bC :Γ.hd = []) {K:SS→Prop} {T:TypeId} {d k:Nat} {E:an} {i:Unit→Nat} {off:Nat} {p:Value} (h:zE tab σ K T d k E i off) (hp:RV H ρ (av σ.af) (.c (.en k E i off)) p) :
   ∃ aw y ρ',K aw∧aG Γ H ρ' aw (a.put (some d) y) w∧(Instr.loadAt T p).run P w = .ok y w:=by
 unfold zE at h
 split at h
 · rename_i bs eJ
   split at h
   · rename_i xs fs n r_ aY
     split at h
     · rename_i dm
       split at h
       · rename_i bX aQ;obtain⟨ρ1,r1,f1⟩:=aG.close bC r eJ;obtain⟨_,b,o,n',c,hv,hi,rfl⟩:=hp;have zH:(ρ1 k).1 = .slice (some ⟨b,o,none⟩) n' c:=by rw[f1]; exact hv
         obtain⟨hB,rfl,⟨B,wQ,DQ⟩,cn⟩:=DM (i:=i) r_ (fun B hB=>r1.b.af k B (cK hB)) zH hi;obtain⟨rfl,wP⟩:=cn rfl;have hB:cD w.heap H ρ1 (av bs) (.bP E xs i (List.replicate E.sz none)) (ρ1 k):=hB;have fN:av bs k:=eH wP
         have r2:aG Γ H ρ1 {env:=σ.env,af:=bK bs k (.bP E xs i (List.replicate E.sz none))} a w:=
           aG.rV (σ:={env:=σ.env,af:=bs}) r1 wP (fun _ _=>rfl) (Ext.refl _) hB (fun x hx=>hx) (fun x hx=>hx)
         obtain⟨zI,r3,g3,g4⟩:=DO bC aQ r2 (zu fN);obtain⟨b',o',c',cs,e,fz,S,h1,h2,h3,h4,h5,h6,h7,h8,h9⟩:=hB;rw[zH] at h1;simp only[Value.slice.injEq,Option.some.injEq,Addr.mk.injEq,and_true] at h1;obtain⟨⟨rfl,rfl⟩,_,rfl⟩:=h1
         have mH:(xs ())[i ()]? = some (cS E xs i ()):=by
           simp only[cS,List.getD_eq_getElem?_getD,List.getElem?_eq_getElem h8,Option.getD_some]
         have dF:i ()*E.sz+E.sz≤(xs ()).length*E.sz:=by
           have:=Nat.mul_le_mul_right E.sz (show i ()+1≤(xs ()).length from h8)
           rwa [Nat.add_mul,Nat.one_mul] at this
         have kN:=Nat.mul_le_mul_right E.sz h5
         have dq:∀(m:Nat) cv,(lU (((bH E (cS E xs i)).drop off).take n) (8*d))[m]? = some cv→RC H zI (av bX) cv (cs.getD (o+i ()*E.sz+off+m) Go.undef):=fun m cv hm=>by
           obtain⟨l,q1,q2⟩:=DK (j:=off) hm;rw[List.getElem?_take,List.getElem?_drop] at q1
           split at q1
           · rename_i wR;rcases q2 with⟨q2,rfl⟩ | ⟨q,rfl,q3⟩
             · have q4:=h9 (i ()) _ mH (off+m) l q1;rw[zw (by simp)] at q4;have q5:bc w.heap l (cs.getD (o+(i ()*E.sz+(off+m))) Go.undef) (S (i ()) (off+m)):=q4;rw[show o+i ()*E.sz+off+m=o+(i ()*E.sz+(off+m)) by omega];exact q5.yy q2
             · obtain⟨q4,b2,o2,n2,c2,DR,e2,Q6,q5,q6,q7⟩:=g4 _ q3;rw[zH] at q5;simp only[Value.slice.injEq,Option.some.injEq,Addr.mk.injEq,and_true] at q5;obtain⟨⟨rfl,rfl⟩,_,_⟩:=q5;rw[h3] at q6;cases q6;refine⟨q4, ?_⟩;rw[q7,show o+i ()*E.sz+off+m=o+(i ()*E.sz+(off+m)) by omega]
           · cases q1
         have hlen:(((bH E (cS E xs i)).drop off).take n).length=n:=by
           rw[List.length_take,List.length_drop,gm]; omega
         unfold nK at aY;unfold DL at h
         split at aY
         · rename_i m ph z q aU;have aY:m=n:=by simpa using aY
           subst aY;rw[aU] at h;obtain⟨dd,ii,bn,gT,yY,DS⟩:=mw (ck hT aU);refine⟨_, .agg ((List.range ii.size).map fun j=>cs.getD (o+i ()*E.sz+off+j) Go.undef).toArray,zI,h,aG.put (v:= .agg (lU (((bH E (cS E xs i)).drop off).take m) (8*d))) r3 (x:= .agg ((List.range ii.size).map fun j=>cs.getD (o+i ()*E.sz+off+j) Go.undef).toArray) ⟨_,rfl, ?_⟩ (some d),tJ bn gT yY h3 (by rw[DS]; omega)⟩;refine⟨by simp[zD,hlen,DS],fun m cv hm=> ?_⟩;have wR:m<ii.size:=by have:=bD hm; rw[zD,hlen] at this; omega
           rw[Array.getD_eq_getD_getElem?];simp only[List.getElem?_toArray,List.getElem?_map,List.getElem?_range wR,Option.map_some,Option.getD_some];exact dq m cv hm
         · rename_i ti hne aU;simp only[Option.some.injEq] at aY;subst aY;rw[aU] at h;obtain⟨dd,ii,bn,gT⟩:=mw (ck hT aU)
           have gT:iO dd=false:=by
             split at gT
             · exact(hne _ _ _ _ rfl).elim
             · exact gT
           have aR:o+i ()*E.sz+off<cs.size:=by omega
           refine⟨_,cs.getD (o+i ()*E.sz+off) Go.undef,zI,h,aG.put r3 ?_ (some d),tI bn gT h3 (getD_some aR)⟩
           split
           · rename_i heq;cases heq;exact(hne _ _ _ _ rfl).elim
           · split
             · rename_i cv ke;exact dq 0 cv (by rw[ke]; rfl)
             · trivial
           · rename_i hh; cases hh
         · cases aY
       · cases h
     · cases h
   · cases h
 · cases h
theorem DT {K :SS→Prop} {T:TypeId} {k:Nat} (hne:∀p∈Γ.hd,p.1≠k) {E:an} {i:Unit→Nat} {off:Nat} {v:V} {p u:Value} (h:zF tab σ K T k E i off v) (hp:RV H ρ (av σ.af) (.c (.en k E i off)) p) (hv:RV H ρ (av σ.af) v u) :
   ∃ aw w' ρ',K aw∧aG Γ H ρ' aw a w'∧(∀y,(ρ k).2 y=0→w'.heap[y]? = w.heap[y]?)∧(Instr.storeAt T p u).run P w = .ok () w':=by
 have key : ∀ {xs:Unit→List E.α} {i':Unit→Nat} {fs:List (Option Nat)} {n:Nat} {ls:List Lf} {ks:List Nat} {cs:List C} {b o n' c:Nat},(ρ k).1 = .slice (some ⟨b,o,none⟩) n' c→i ()=i' ()→p = .pointer (some ⟨b,o+i ()*E.sz+off,none⟩)→av σ.af k→
     cD w.heap H ρ (av σ.af) (.bP E xs i' fs) (ρ k)→(∀x,0<(ρ k).2 x→H x=none)→nK tab T=some n→my v=some cs→nS σ.af (((mr E).drop off).take n) cs=some (ls,ks)→wO σ K k E xs i' fs off n ls ks→
     ∃ aw w' ρ',K aw∧aG Γ H ρ' aw a w'∧(∀y,(ρ k).2 y=0→w'.heap[y]? = w.heap[y]?)∧(Instr.storeAt T p u).run P w = .ok () w':=by
   intro xs i' fs n ls ks cs b o n' c dM tK jg fN hB pf aY cV nX kP;unfold wO at kP
   split at kP
   · rename_i x hx
     split at kP
     · rename_i qE;obtain⟨Kg,dm,hn⟩:=qE
       have hc:=hv.cells cV fun k hk=>by
        rw[hk] at hv;exact tN r hv
       obtain⟨S,g1,g2,g3,g4,g5⟩:=zq r nX (f:=fun j=>u.cells.getD j Go.undef) hc.2;have hu:u.cells.toList.length=ls.length:=by rw[Array.length_toList,hc.1,g2]
       have mI :bH E x=pg (bH E (cS E xs i')) off ls:=zo hx fun t ht=>by
        have Kh:(pg (bH E (cS E xs i')) off ls).length=E.sz:=by
          simp only[pg,List.length_append,List.length_take,List.length_drop,gm]; omega
        have h1:E.sz=1:=by rw[←Kh,ht]; rfl
        have hint:∀(v:Value) (T:Nat→Nat),bc w.heap (.int .u8 t) v T→IntKind.u8.has (t ()):=fun v T h=>by
          cases h with
          | int hr=>exact hr
        have h0:(pg (bH E (cS E xs i')) off ls)[0]? = some (.int .u8 t):=by rw[ht]; rfl
        rw[DI (by rw[gm]; omega)] at h0
        split at h0
        · exact hint _ _ (g5 _ _ h0)
        · obtain⟨b',o',c',jD,e,fz,S',rK,h2,h3,h4,h5,h6,h7,h8,h9⟩:=hB
          have mH:(xs ())[i' ()]? = some (cS E xs i' ()):=by
           simp only[cS,List.getD_eq_getElem?_getD,List.getElem?_eq_getElem h8,Option.getD_some]
          have Ki:IntKind.u8.has (t ()):=by
           cases E <;> first | (exfalso; simp only[an.sz] at h1; omega) | skip
           · simp[bH] at h0
           · simp only[bH,List.getElem?_cons_zero,Option.some.injEq,Lf.int.injEq,true_and] at h0;subst h0;refine tH.2 ⟨?_, ?_⟩
             · show(0:Int)≤((cS .byte xs i' ()).toNat:Int);omega
             · show((cS .byte xs i' ()).toNat:Int)≤255;have:=(cS .byte xs i' ()).toNat_lt;omega
           · simp[bH] at h0
           · simp[bH] at h0
          exact Ki
       obtain⟨w',g6,g8,ρ',g7⟩:=r.J_ (P:=P) hne hn fN hB pf g3 dM hu (by omega) (T:=fun j=>S.getD j fun _=>0) (fun j l hj=>by
          have:=g5 j l hj;rw[List.getD_eq_getElem?_getD,Array.getElem?_toList,←Array.getD_eq_getD_getElem?];exact this) (fun y=>by rw[←g4 y,←zp,g1]) mI
       obtain⟨ii,Kj,zg⟩:=Ke hT aY;obtain⟨u',zB,kP⟩:=kP;have he:(fun _=>(xs ()).set (i' ()) (x ()))=u':=funext fun _=>zB;rw[he] at g7;refine⟨_,w',ρ',kP,g7,g8, ?_⟩;have Kk:¬(u.cells.size≠ii.size):=by rw[hc.1,←g2,Kg,zg]; simp
       rw[←tK] at g6;simp only[jg,Instr.storeAt,Instr.sureAddr,storeVar,Sem.run_bind,Sem.run_pure,Result.andThen_ok,kb w Kj];rw[if_neg Kk];exact g6
     · cases kP
   · cases kP
 unfold zF at h;obtain⟨_,b,o,n',c,dM,hi,jg⟩:=hp
 split at h
 · rename_i xs oi fs n cs r_ aY cV;obtain⟨hB,rfl,⟨B,wQ,DQ⟩,cn⟩:=DM (i:=i) r_ (fun B hB=>r.b.af k B (cK hB)) dM hi;have pf:∀x,0<(ρ k).2 x→H x=none:=fun x hx=>r.b.gn k B (cK wQ) x (DQ x hx)
   split at h
   · rename_i ls ks nX
     split at h
     · exact key dM rfl jg (eH wQ) hB pf aY cV nX h
     · rename_i i';obtain⟨tK,h⟩:=h;exact key dM tK jg (eH wQ) hB pf aY cV nX h
   · cases h
 · cases h
end
end
end Go.Proofs.YtpklefhdkkegiaaGreat

