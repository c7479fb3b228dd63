/- Parts of a proof. No conditions. -/

import Derived.Test.YtpklefhdkkegiaaGreatG01
import Derived.Deep.AppendSrc
import Derived.Great.BuildSlice
import Derived.Laws.MakeOwn
set_option linter.unusedSimpArgs false
set_option linter.unusedVariables false
namespace Go.Proofs.YtpklefhdkkegiaaGreat
open Go
theorem rk {bs:List (Nat × an)} {k:Nat} {B:an} (h:(k,B)∈bs):ay bs k:=List.mem_map.2 ⟨_,h,rfl⟩
theorem tw {ρ:aK} {bs:List (Nat × an)} {k j:Nat} (hk:ay bs k) (hj:ay bs j) (hne:j≠k) (x:Nat):(ρ k).2 x+(ρ j).2 x≤aT ρ bs x:=by
 rw[GG hk x];have h:=GH hj hne;obtain⟨⟨j',B⟩,h1,h2⟩:=List.mem_map.1 h;simp only at h2;subst h2;have:=nu (ρ:=ρ) h1 x;omega
theorem aM.wW {Γ:Ctx} {H:Hp} {ρ:aK} {σ:SS} {a:Act} {w w':World} (r:aM Γ H ρ σ a w) {k:Nat} {B B':an} (hk:aP σ.ah k=some B)
   (hold:∀x,¬gk B (ρ k) x→w'.heap[x]? = w.heap[x]?) (bq:Ext w w')
   (hB:cO w'.heap H ρ (ay σ.ah) B' (ρ k)) (tz:∀x,gk B' (ρ k) x→gk B (ρ k) x) (hS:∀x,gk B (ρ k) x→0<(ρ k).2 x) :
   aM Γ H ρ {σ with ah:=bZ σ.ah k B'} a w':=by
 have hm:=dk hk;have hd:=rk hm;have e:ay (bZ σ.ah k B')=ay σ.ah:=by funext j; exact propext fh
 refine⟨⟨?_,by rw[s9]; exact r.b.nd,r.b.h0, ?_, ?_, ?_, ?_, ?_⟩,by rw[e]; exact r.e,r.d,r.n.trans bq,by rw[e]; exact r.hd,by rw[e]; exact r.hm⟩
 · intro j hj; exact r.b.oc j (fh.1 hj)
 · intro b o hb;rw[hold b fun ht=>by have:=r.b.im k B hm b ht; rw[this] at hb; cases hb];exact r.b.hh b o hb
 · intro j A hj;rw[e];rcases kR r.b.nd hj with⟨rfl,rfl⟩ | ⟨hne,hj⟩
   · exact hB
   · refine(r.b.ah j A hj).mono (ki.refl _ _ _) fun b hb=>hold b fun ht=> ?_;have h1:=tw (ρ:=ρ) hd (rk hj) hne b;have h2:=r.b.sum b;have h3:=hS b ht;omega
 · intro x;have:=s_ (ρ:=ρ) (ρ':=ρ) r.b.nd (B:=B') hd (fun _ _=>rfl) x;have:=r.b.sum x;show aT ρ (bZ σ.ah k B') x≤1;omega
 · intro j A hj x hx;rcases kR r.b.nd hj with⟨rfl,rfl⟩ | ⟨hne,hj⟩
   · exact r.b.fresh _ B hm x hx
   · exact r.b.fresh j A hj x hx
 · intro j A hj x hx;rcases kR r.b.nd hj with⟨rfl,rfl⟩ | ⟨hne,hj⟩
   · exact r.b.im _ B hm x (tz x hx)
   · exact r.b.im j A hj x hx
theorem eJ:∀(us:List Value) (vs:Array Value) (o:Nat),(dL vs o us).size=vs.size
 | [],_,_=>rfl
 | u::us,vs,o=>by simp only[dL]; rw[eJ us]; simp
theorem NP {w:World} {b o:Nat} {vs:Array Value} {e:TypeId} {fz:Nat × Nat} (hb:w.heap[b]? = some (.cells vs e fz)) (hf:NF vs fz) (ho:o<vs.size):w.frozen? ⟨b,o,none⟩=false:=by
 obtain⟨lo,hi⟩:=fz;simp only[World.frozen?,hb];rcases hf with hf | hf
 · simp only at hf;have:¬(lo≤o∧o<hi):=by omega
   simpa using this
 · simp only at hf;have:¬(lo≤o∧o<hi):=by omega
   simpa using this
theorem NQ (w:World) (b o:Nat) (v:Value) {vs:Array Value} {e:TypeId} {fz:Nat × Nat} (hb:w.heap[b]? = some (.cells vs e fz)) :
   (w.setCell ⟨b,o,none⟩ v).heap[b]? = some (.cells (vs.setIfInBounds o v) e fz)∧(∀x,x≠b→(w.setCell ⟨b,o,none⟩ v).heap[x]? = w.heap[x]?)∧Ext w (w.setCell ⟨b,o,none⟩ v):=by
 obtain⟨lo,hi⟩:=fz;refine⟨?_,fun x hx=> ?_,Ext.of (by simp[World.setCell]) rfl rfl fun a=>World.frozen?_setCell _ _ _ _⟩
 · simp only[World.setCell,Array.getElem?_modify,hb];simp
 · simp only[World.setCell,Array.getElem?_modify];rw[if_neg (Ne.symm hx)]
theorem rn {P:Program}:∀(us:List Value) (w:World) (b o i:Nat) (vs:Array Value) (e:TypeId) (fz:Nat × Nat),w.heap[b]? = some (.cells vs e fz)→NF vs fz→o+i+us.length≤vs.size→
   (∀u∈us,u.oneCell'=true)→
   ∃ w',(storeCells ⟨b,o,none⟩ us i).run P w = .ok () w'∧w'.heap[b]? = some (.cells (dL vs (o+i) us) e fz)∧(∀x,x≠b→w'.heap[x]? = w.heap[x]?)∧Ext w w'
 | [],w,b,o,i,vs,e,fz,hb,_,_,_=>⟨w,rfl,hb,fun _ _=>rfl,Ext.refl w⟩
 | u ::us,w,b,o,i,vs,e,fz,hb,hf,hs,h1=>by
   simp only[List.length_cons] at hs;obtain⟨g1,g2,g3⟩:=NQ w b (o+i) u hb;have NR:NF (vs.setIfInBounds (o+i) u) fz:=by rcases hf with h | h; exact .inl h; exact .inr (by simpa using h)
   obtain⟨w',g4,g5,g6,g7⟩:=rn (P:=P) us (w.setCell ⟨b,o+i,none⟩ u) b o (i+1) _ e fz g1 NR (by simp; omega) (fun x hx=>h1 x (List.mem_cons_of_mem _ hx));refine⟨w', ?_,g5,fun x hx=>by rw[g6 x hx,g2 x hx],g3.trans g7⟩;simp only[storeCells,Sem.run_bind,fj];rw[run_store P w _ u .plain (h1 u List.mem_cons_self),cell_of hb (getD_some (show o+i<vs.size by omega)),NP hb hf (show o+i<vs.size by omega)];simpa using g4
def qb (tab:bh) (T:TypeId):Option Nat:=
 match cY tab T with
 | some (.st n _ _ _)=>some n
 | some _=>some 1
 | none=>none
def zT (tab:bh) (T:TypeId):Option (List Z):=
 match cY tab T with
 | some (.st _ _ z _)=>some z
 | some (.sc z)=>some [z]
 | some (.sl E _ _)=>some [.nl E]
 | some (.it k)=>some [.i k]
 | some .bt=>some [.bo]
 | some .ss=>some [.st]
 | some (.mp _ _)=>none
 | none=>none
def ir (w w':World):Prop:=∀(b:Nat) o,w.heap[b]? = some o→w'.heap[b]? = some o
theorem ir.refl (w:World):ir w w:=fun _ _ h=>h
theorem ir.alloc (w:World) (o:Obj):ir w (w.alloc o):=fun b _ h=>by rw[alloc_old w o b (kW h)]; exact h
def wX (tab:bh) (T:TypeId):Bool:=
 match cY tab T with
 | some (.sl _ _ _)=>true
 | some (.st n _ z _)=>decide (n≤7) && z.any fun z=>match z with | .nl _=>true | _=>false
 | _=>false
def gS (tab:bh) (o:Oper):Bool:=
 match o.op with
 | .store _ _ _=>true
 | .mapUpdate _ _ _ _=>true
 | .load T _=>wX tab T
 | .call c=>match c.callee with
   | .builtin _=>true
   | .value (.func f)=>(wB tab f).isSome
   | _=>true
 | _=>false
def rr (Γ:Ctx) (H:Hp) (wr:Bool) (w:World) (az:SS) (a':Act) (w':World):Prop:=(∃ρ,aM Γ H ρ az a' w')∧(wr=false→ir w w')
theorem rr.rel {Γ:Ctx} {H:Hp} {wr:Bool} {w:World} {az:SS} {a':Act} {w':World} (h:rr Γ H wr w az a' w'):Rel Γ az a' w':=⟨H,h.1⟩
def SS.set (σ:SS) (k:Nat) (B:an):SS:={σ with ah:=bZ σ.ah k B}
def SS.new (σ:SS) (k:Nat) (B:an):SS:={σ with ah:=dA σ.ah k B}
def ry (tab:bh) (o:Oper) (σ:SS) (K:SS→Prop):Prop:=
 match o.op,o.dst with
 | .box _ x,some d=>
   match oH (σ.ev x),aP σ.ah (8*d) with
   | some cs,none=>K ((σ.new (8*d) (.box cs)).put (some d) (.c (.ptr (8*d) 0)))
   | _,_=>False
 | .alloc T,some d=>
   match zT tab T,aP σ.ah (8*d) with
   | some z,none=>K ((σ.new (8*d) (.box (z.map Z.c))).put (some d) (.c (.ptr (8*d) 0)))
   | _,_=>False
 | .store T p v,none=>
   match σ.ev p,oH (σ.ev v),qb tab T with
   | .c (.ptr k off),some xs,some n=>
     match aP σ.ah k with
     | some (.box cs)=>if xs.length=n∧off+n≤cs.length∧xs.all C.za=true then K (σ.set k (.box (zk cs off xs))) else False
     | _=>False
   | _,_,_=>False
 | .makeMap T none,some d=>
   match cY tab T,aP σ.ah (8*d) with
   | some (.mp _ _),none=>K ((σ.new (8*d) (.mp fun _=>[])).put (some d) (.c (.own (8*d))))
   | _,_=>False
 | .lookup T x i false,some d=>
   match cY tab T,σ.ev x,σ.ev i with
   | some (.mp _ _), .c (.own k), .c (.lf (.int .i64 t))=>
     match aP σ.ah k with
     | some (.mp m)=>K (σ.put (some d) (iV .i64 fun _=>fa (m ()) (t ())))
     | _=>False
   | _,_,_=>False
 | .mapUpdate T x i v,none=>
   match cY tab T,σ.ev x,σ.ev i,σ.ev v with
   | some (.mp _ _), .c (.own k), .c (.lf (.int .i64 t)), .c (.lf (.int .i64 u))=>
     match aP σ.ah k with
     | some (.mp m)=>Ob (fun _=>(m ()).length<9223372036854775807) fun _=>K (σ.set k (.mp fun _=>jN (m ()) (t ()) (u ())))
     | _=>False
   | _,_,_,_=>False
 | .call c,some d=>
   match c.callee,c.args.toList,c.argTypes.toList with
   | .builtin .len,[x],[T]=>
     match cY tab T,σ.ev x with
     | some (.mp _ _), .c (.own k)=>
       match aP σ.ah k with
       | some (.mp m)=>K (σ.put (some d) (iV .i64 fun _=>((m ()).length:Int)))
       | _=>False
     | _,_=>False
   | _,_,_=>False
 | _,_=>False
section
variable {P : Program} {tab : bh} (hT : fy P tab = true) {Γ : Ctx} {H : Hp} {ρ : aK} {σ : SS} {a : Act} {w : World} (r : aM Γ H ρ σ a w)
include hT r
omit hT r in
theorem kZ {o:Oper} {a:Act} {w w':World} {v:Value} {next:Act→World→Prop} {Q:Exit→Act→World→Prop} (h:(execOp a.eval o).run P w = .ok (.value v) w') (hn:next (a.put o.dst v) w'):o.wp P a w next Q:=by
 unfold Oper.wp; rw[h]; exact hn
omit hT r in
theorem wY {o:Oper} {a:Act} {w w':World} {next:Act→World→Prop} {Q:Exit→Act→World→Prop} (h:(execOp a.eval o).run P w = .ok .skip w') (hd:o.dst=none) (hn:next a w'):o.wp P a w next Q:=by
 unfold Oper.wp; rw[h];simp only[Oper.upon,hd,Act.put];exact hn
omit r in
theorem NS {T:TypeId} {z:List Z} (h:zT tab T=some z):∃i v,P.info? T=some i∧i.zero=some v∧Z.hM z v.cells.toList=true:=by
 have sc:∀{t:TypeId} {z:Z},eK P t (.sc z)=true→∃i v,P.info? t=some i∧i.zero=some v∧Z.hM [z] v.cells.toList=true:=fun {t z} h=>by
   obtain⟨_,i,v,h1,h2,h3,h4,h5⟩:=pX h;refine⟨i,v,h1,h3, ?_⟩;have:v.cells = #[v]:=by cases v <;> simp[Value.oneCell'] at h4 <;> rfl
   rw[this];simp[Z.hM,h5]
 unfold zT at h
 split at h
 · rename_i bc; cases h;obtain⟨fields,_,_,i,cs,h1,h2,h3,h4⟩:=pW (cI hT bc);exact⟨i,_,h1,h3,h4⟩
 · rename_i bc; cases h; exact sc (cI hT bc)
 · rename_i bc; cases h; exact sc (y9 (cI hT bc))
 · rename_i bc; cases h; exact sc (pY (cI hT bc)).2
 · rename_i bc; cases h; exact sc (ta (cI hT bc)).2
 · rename_i bc; cases h; exact sc (nx (cI hT bc)).2
 · cases h
 · cases h
theorem NT {o :Oper} {K:SS→Prop} {Q:Exit→Act→World→Prop} {T:TypeId} {p v:Operand} {k off:Nat} (aY:o.op = .store T p v) (hd:o.dst=none) (hp:σ.ev p = .c (.ptr k off)) (h:ry tab o σ K) :
   o.wp P a w (fun a' w'=>∃az,K az∧aM Γ H ρ az a' w'∧∀x,(ρ k).2 x=0→w'.heap[x]? = w.heap[x]?) Q:=by
 have ev:=km r.e;unfold ry at h;simp only[aY,hd,hp] at h
 split at h
 · rename_i k' NU xs n iu wI bq;cases iu
   split at h
   · rename_i cs hg
     split at h
     · rename_i hc;obtain⟨iM,lq,zu⟩:=hc;have ep:=ev p;rw[hp] at ep;obtain⟨gR,b,hh,kV⟩:=ep
       have hv:=(ev v).cells wI fun k hk=>by
         have:=ev v;rw[hk] at this;exact wJ r this
       obtain⟨b',vs,e,fz,h1,h2,h3,h4,h5⟩:=r.b.ah k _ (dk hg);rw[hh] at h1;simp only[Value.pointer.injEq,Option.some.injEq,Addr.mk.injEq,and_true] at h1;subst h1
       have eI:∀u∈(a.eval v).cells.toList,u.oneCell'=true:=by
         intro u hu;obtain⟨j,hj,Cu⟩:=List.getElem_of_mem hu;have cQ:j<xs.length:=by rw[←hv.1]; simpa using hj
         have h6:=hv.2 j _ (List.getElem?_eq_getElem cQ);rw[Array.getD_eq_getD_getElem?,Array.getElem?_eq_getElem (by simpa using hj)] at h6;simp only[Option.getD_some] at h6;have h7:=List.all_eq_true.1 zu _ (List.getElem_mem cQ);rw[←Cu];simp only[Array.getElem_toList];exact(RC.cells h6 h7 fun k hk=>by rw[hk] at h6; obtain⟨h8,h9⟩:=h6; rw[h9]; exact r.b.oc k h8).2
       obtain⟨w',h6,h7,h8,h9⟩:=rn (P:=P) (a.eval v).cells.toList w b off 0 vs e fz h3 h4 (by rw[h5.1]; have:=hv.1; simp only[Array.length_toList]; omega) eI
       have Cv :∃i,P.info? T=some i∧i.size=n:=by
         unfold qb at bq
         split at bq
         · rename_i bc; cases bq;obtain⟨fields,_,_,i,cs,h1,h2,_⟩:=pW (cI hT bc);exact⟨i,h1,h2⟩
         · rename_i ti hne bc; cases bq
           have sc:∀{t:TypeId} {z:Z},eK P t (.sc z)=true→∃i,P.info? t=some i∧i.size=1:=fun {t z} h=>by
             obtain⟨_,i,v,h1,h2,_⟩:=pX h; exact⟨i,h1,h2⟩
           have ht:=cI hT bc;cases ti with
           | st n fs z q=>exact(hne _ _ _ _ rfl).elim
           | sl E elem bytes=>exact sc (y9 ht)
           | sc z=>exact sc ht
           | it k=>exact sc (pY ht).2
           | bt=>exact sc (ta ht).2
           | ss=>exact sc (nx ht).2
           | mp kt et=>exact sc (qW ht).2.2.2
         · cases bq
       obtain⟨i,hi,Cw⟩:=Cv;refine wY (w':=w') ?_ hd ⟨_,h, ?_,fun x hx=>h8 x fun he=>by rw[he,h2] at hx; simp[one] at hx⟩
       · have dB:¬((a.eval v).cells.size≠i.size):=by have:=hv.1; omega
         simp only[execOp,aY,Instr.storeAt,kV,Instr.sureAddr,storeVar,Sem.run_bind,Sem.run_pure,Result.andThen_ok,mG w hi];rw[if_neg dB];simp only[Result.andThen_ok,h6]
       · refine r.wW hg (fun x hx=>h8 x fun he=>hx ?_) h9 ?_ (fun x hx=>hx) (fun x hx=>hx)
         · rw[he]; show 0<(ρ k).2 b; rw[h2]; simp[one]
         · refine⟨b,_,e,fz,hh,h2,h7, ?_, ?_⟩
           · rcases h4 with h | h
             · exact .inl h
             · exact .inr (by rw[eJ]; exact h)
           · rw[Nat.add_zero];exact db.zl xs _ h5 (by simpa using hv)
     · cases h
   · cases h
 · cases h
theorem Cx {o : Oper} {K:SS→Prop} {Q:Exit→Act→World→Prop} (h:ry tab o σ K) :
   o.wp P a w (fun a' w'=>∃az,K az∧rr Γ H (gS tab o) w az a' w') Q:=by
 have ev:=km r.e;unfold ry at h
 split at h
 · rename_i T x d aY hd
   split at h
   · rename_i cs dB hg
     have hc:=(ev x).cells dB fun k hk=>by
       have:=ev x;rw[hk] at this;exact wJ r this
     obtain⟨ρ',r1,h1,h2⟩:=r.GF hg T hc;refine kZ (v:= .pointer (some ⟨w.heap.size,0,none⟩)) (w':=w.alloc (.cells (a.eval x).cells T)) ?_ ⟨_,h,⟨ρ', ?_⟩,fun _=>ir.alloc w _⟩
     · simp[execOp,aY,Instr.box,newVar,newRow]
     · rw[hd];refine aM.put r1 (v:= .c (.ptr (8*d) 0)) ⟨gx.2 (.inl rfl),_,h1,rfl⟩ (some d)
   · cases h
 · rename_i T d aY hd
   split at h
   · rename_i z hz hg;obtain⟨i,v,hi,hv,qZ⟩:=NS hT hz;have hc:=Z.Gf (H:=H) (ρ:=ρ) (D:=ay σ.ah) qZ;obtain⟨ρ',r1,h1,h2⟩:=r.GF hg T hc;refine kZ (v:= .pointer (some ⟨w.heap.size,0,none⟩)) (w':=w.alloc (.cells v.cells T)) ?_ ⟨_,h,⟨ρ', ?_⟩,fun _=>ir.alloc w _⟩
     · simp[execOp,aY,Instr.alloc,newVar,newRow,Gj w hi hv]
     · rw[hd];simp only[Array.toArray_toList] at r1;refine aM.put r1 (v:= .c (.ptr (8*d) 0)) ⟨gx.2 (.inl rfl),_,h1,rfl⟩ (some d)
   · cases h
 · rename_i T p v aY hd
   split at h
   · rename_i k off xs n hp wI bq
     split at h
     · rename_i cs hg
       split at h
       · rename_i hc;obtain⟨iM,lq,zu⟩:=hc;have ep:=ev p;rw[hp] at ep;obtain⟨gR,b,hh,kV⟩:=ep
         have hv:=(ev v).cells wI fun k hk=>by
           have:=ev v;rw[hk] at this;exact wJ r this
         obtain⟨b',vs,e,fz,h1,h2,h3,h4,h5⟩:=r.b.ah k _ (dk hg);rw[hh] at h1;simp only[Value.pointer.injEq,Option.some.injEq,Addr.mk.injEq,and_true] at h1;subst h1
         have eI:∀u∈(a.eval v).cells.toList,u.oneCell'=true:=by
           intro u hu;obtain⟨j,hj,Cu⟩:=List.getElem_of_mem hu;have cQ:j<xs.length:=by rw[←hv.1]; simpa using hj
           have h6:=hv.2 j _ (List.getElem?_eq_getElem cQ);rw[Array.getD_eq_getD_getElem?,Array.getElem?_eq_getElem (by simpa using hj)] at h6;simp only[Option.getD_some] at h6;have h7:=List.all_eq_true.1 zu _ (List.getElem_mem cQ);rw[←Cu];simp only[Array.getElem_toList];exact(RC.cells h6 h7 fun k hk=>by rw[hk] at h6; obtain⟨h8,h9⟩:=h6; rw[h9]; exact r.b.oc k h8).2
         obtain⟨w',h6,h7,h8,h9⟩:=rn (P:=P) (a.eval v).cells.toList w b off 0 vs e fz h3 h4 (by rw[h5.1]; have:=hv.1; simp only[Array.length_toList]; omega) eI
         have Cv :∃i,P.info? T=some i∧i.size=n:=by
           unfold qb at bq
           split at bq
           · rename_i bc; cases bq;obtain⟨fields,_,_,i,cs,h1,h2,_⟩:=pW (cI hT bc);exact⟨i,h1,h2⟩
           · rename_i ti hne bc; cases bq
             have sc:∀{t:TypeId} {z:Z},eK P t (.sc z)=true→∃i,P.info? t=some i∧i.size=1:=fun {t z} h=>by
               obtain⟨_,i,v,h1,h2,_⟩:=pX h; exact⟨i,h1,h2⟩
             have ht:=cI hT bc;cases ti with
             | st n fs z q=>exact(hne _ _ _ _ rfl).elim
             | sl E elem bytes=>exact sc (y9 ht)
             | sc z=>exact sc ht
             | it k=>exact sc (pY ht).2
             | bt=>exact sc (ta ht).2
             | ss=>exact sc (nx ht).2
             | mp kt et=>exact sc (qW ht).2.2.2
           · cases bq
         obtain⟨i,hi,Cw⟩:=Cv;refine wY (w':=w') ?_ hd ⟨_,h,⟨ρ, ?_⟩,fun hw=>by simp[gS,aY] at hw⟩
         · have dB:¬((a.eval v).cells.size≠i.size):=by have:=hv.1; omega
           simp only[execOp,aY,Instr.storeAt,kV,Instr.sureAddr,storeVar,Sem.run_bind,Sem.run_pure,Result.andThen_ok,mG w hi];rw[if_neg dB];simp only[Result.andThen_ok,h6]
         · refine r.wW hg (fun x hx=>h8 x fun he=>hx ?_) h9 ?_ (fun x hx=>hx) (fun x hx=>hx)
           · rw[he]; show 0<(ρ k).2 b; rw[h2]; simp[one]
           · refine⟨b,_,e,fz,hh,h2,h7, ?_, ?_⟩
             · rcases h4 with h | h
               · exact .inl h
               · exact .inr (by rw[eJ]; exact h)
             · rw[Nat.add_zero];exact db.zl xs _ h5 (by simpa using hv)
       · cases h
     · cases h
   · cases h
 · rename_i T d aY hd
   split at h
   · rename_i kt et bc hg;obtain⟨ρ',r1,h1⟩:=r.NK hg;refine kZ (v:= .map (some w.heap.size)) (w':=w.alloc (.map #[] 0)) ?_ ⟨_,h,⟨ρ', ?_⟩,fun _=>ir.alloc w _⟩
     · simp[execOp,aY,Instr.makeMap]
     · rw[hd];exact aM.put r1 (v:= .c (.own (8*d))) ⟨gx.2 (.inl rfl),h1.symm⟩ (some d)
   · cases h
 · rename_i T x i d aY hd
   split at h
   · rename_i kt et k t bc hx hi
     split at h
     · rename_i m hg;have ex:=ev x;rw[hx] at ex;obtain⟨gR,qc⟩:=ex;have ei:=ev i;rw[hi] at ei;obtain⟨Cy,NV⟩:=RL.of_int ei;obtain⟨b,es,c,h1,h2,h3,h4⟩:=r.b.ah k _ (dk hg);obtain⟨t1,t2,⟨Wc,t3,t4⟩,_⟩:=qW (cI hT bc);have cR:=M7 (P:=P) t1 t2 t3 t4 h3 h4 (t ());refine kZ (v:= .int .i64 (fa (m ()) (t ()))) (w':=w) ?_ ⟨_,h,⟨ρ, ?_⟩,fun _=>ir.refl w⟩
       · simp only[execOp,aY,qc,h1,Cy,cR,Sem.run_bind,Result.andThen_ok,Sem.run_pure]
       · rw[hd];exact r.put (v:=iV .i64 fun _=>fa (m ()) (t ())) (RL.int (t:=fun _=>fa (m ()) (t ())) (h4.get _)) (some d)
     · cases h
   · cases h
 · rename_i T x i v aY hd
   split at h
   · rename_i kt et k t u bc hx hi hv
     split at h
     · rename_i m hg;obtain⟨hlen,h⟩:=h;have ex:=ev x;rw[hx] at ex;obtain⟨gR,qc⟩:=ex;have ei:=ev i;rw[hi] at ei;obtain⟨Cy,NV⟩:=RL.of_int ei;have eu:=ev v;rw[hv] at eu;obtain⟨NW,NX⟩:=RL.of_int eu;obtain⟨b,es,c,h1,h2,h3,h4⟩:=r.b.ah k _ (dk hg);obtain⟨t1,t2,_,_⟩:=qW (cI hT bc);obtain⟨pU,c',cR,h5⟩:=M8 (P:=P) t1 t2 h3 h4 (t ()) (u ()) NX hlen;have hb:b<w.heap.size:=kW h3;have dP:(w.heap.setIfInBounds b (.map pU c'))[b]? = some (.map pU c'):=by rw[Array.getElem?_setIfInBounds,if_pos rfl,if_pos hb]
       have G4:∀y,y≠b→(w.heap.setIfInBounds b (.map pU c'))[y]? = w.heap[y]? :=fun y hy=>by rw[Array.getElem?_setIfInBounds,if_neg (Ne.symm hy)]
       refine wY (w':={w with heap:=w.heap.setIfInBounds b (.map pU c')}) ?_ hd ⟨_,h,⟨ρ, ?_⟩,fun hw=>by simp[gS,aY] at hw⟩
       · simp only[execOp,aY,qc,h1,Cy,NW,cR,Sem.run_bind,Result.andThen_ok,Sem.run_pure]
       · refine r.wW hg (fun y hy=>G4 y fun he=>hy ?_) (Ext.of (by simp) rfl rfl (GC fun y=> ?_)) ?_ (fun x hx=>hx) (fun x hx=>hx)
         · rw[he]; show 0<(ρ k).2 b; rw[h2]; simp[one]
         · by_cases hy:y=b
           · subst hy; exact .inr ⟨pU,c',dP, .inr ⟨es,c,h3⟩⟩
           · exact .inl (G4 y hy)
         · exact⟨b,pU,c',h1,h2,dP,h5⟩
     · cases h
   · cases h
 · rename_i c d aY hd
   split at h
   · rename_i x T fl hx B0
     split at h
     · rename_i kt et k bc qc
       split at h
       · rename_i m hg;have ex:=ev x;rw[qc] at ex;obtain⟨gR,NY⟩:=ex;obtain⟨b,es,cc,h1,h2,h3,h4⟩:=r.b.ah k _ (dk hg);obtain⟨t1,_,_,_⟩:=qW (cI hT bc);have e1:c.args = #[x]:=by rw[←Array.toList_inj]; simpa using hx
         have e2:c.argTypes = #[T]:=by rw[←Array.toList_inj]; simpa using B0
         have uP:(getObj b).run P w = .ok (.map es cc) w:=by simp[getObj,Sem.run,h3]
         have hle:=h4.le;refine kZ (v:= .int .i64 ((m ()).length:Int)) (w':=w) ?_ ⟨_,h,⟨ρ, ?_⟩,fun _=>ir.refl w⟩
         · simp[execOp,aY,resolve,fl,e1,e2,invoke,builtin,Builtin.len_,jf w t1,NY,h1,uP,h4.size,goInt]
         · rw[hd];exact r.put (v:=iV .i64 fun _=>((m ()).length:Int)) (RL.int (t:=fun _=>(((m ()).length:Nat):Int)) (tc.2 (by omega))) (some d)
       · cases h
     · cases h
   · cases h
 · cases h
end
def cp (n sz:Nat) (S:Nat→Nat→Nat→Nat) (x:Nat):Nat:=cd n fun i=>cd sz fun j=>S i j x
def bO (h:Array Obj) (E:av) (xs:List E.α) (cs:Nat→Value) (S:Nat→Nat→Nat→Nat):Prop:=
 ∀ i x,xs[i]? = some x→∀j l,(bY E fun _=>x)[j]? = some l→bx h l (cs (i*E.sz+j)) (S i j)
def glue {α:Type} (n:Nat) (f g:Nat→α):Nat→α:=fun i=>if i<n then f i else g (i - n)
theorem wZ {n m:Nat} {f:Nat→Nat}:cd (n+m) f=cd n f+cd m fun i=>f (n+i):=by
 induction m with
 | zero=>simp[cd]
 | succ m ih=>rw[←Nat.add_assoc]; simp only[cd,ih]; omega
theorem uQ {n m sz:Nat} {S T:Nat→Nat→Nat→Nat} {x:Nat}:cp (n+m) sz (glue n S T) x=cp n sz S x+cp m sz T x:=by
 unfold cp;rw[wZ]
 congr 1
 · exact wv fun i hi=>by simp[glue,hi]
 · exact wv fun i _=>by simp only[glue,if_neg (Nat.not_lt.2 (Nat.le_add_right n i)),Nat.add_sub_cancel_left]
theorem G5 {n sz:Nat} {S:Nat→Nat→Nat→Nat} {i j x:Nat} (hi:i<n) (hj:j<sz):S i j x≤cp n sz S x:=
 Nat.le_trans (y4 (f:=fun j=>S i j x) hj) (y4 (f:=fun i=>cd sz fun j=>S i j x) hi)
theorem oK {E:av} {x:E.α} {j:Nat} {l:Lf} (h:(bY E fun _=>x)[j]? = some l):j<E.sz:=by
 have:=bC h; rwa [iL] at this
theorem rz {i j n sz:Nat} (hi:i<n) (hj:j<sz):i*sz+j<n*sz:=by
 have:(i+1)*sz≤n*sz:=Nat.mul_le_mul_right _ hi;rw[Nat.add_mul] at this;omega
section
variable {h h' : Array Obj} {E : av} {xs ys : List E.α} {cs ds : Nat → Value} {S T : Nat → Nat → Nat → Nat}
theorem bO.mono (hs:bO h E xs cs S) (hk:∀x,0<cp xs.length E.sz S x→h'[x]? = h[x]?):bO h' E xs cs S:=fun i x hx j l hj=>
 (hs i x hx j l hj).mono fun b hb=>hk b (Nat.lt_of_lt_of_le hb (G5 (bC hx) (oK hj)))
theorem bO.cells (hs:bO h E xs cs S) (hc:∀q,q<xs.length*E.sz→ds q=cs q):bO h E xs ds S:=fun i x hx j l hj=>by
 rw[hc _ (rz (bC hx) (oK hj))];exact hs i x hx j l hj
theorem bO.glue (hs:bO h E xs cs S) (ht:bO h E ys ds T):bO h E (xs++ys) (glue (xs.length*E.sz) cs ds) (glue xs.length S T):=fun i x hx j l hj=>by
 rcases Nat.lt_or_ge i xs.length with hi | hi
 · rw[List.getElem?_append_left hi] at hx;simp only[Go.Proofs.YtpklefhdkkegiaaGreat.glue,hi,if_true,rz hi (oK hj)];exact hs i x hx j l hj
 · rw[List.getElem?_append_right hi] at hx;have h1:¬i*E.sz+j<xs.length*E.sz:=by have:=Nat.mul_le_mul_right E.sz hi; omega
   simp only[Go.Proofs.YtpklefhdkkegiaaGreat.glue,if_neg (Nat.not_lt.2 hi),if_neg h1];have h2:i*E.sz+j - xs.length*E.sz=(i - xs.length)*E.sz+j:=by rw[Nat.sub_mul]; have:=Nat.mul_le_mul_right E.sz hi; omega
   rw[h2];exact ht _ x hx j l hj
theorem bO.nil:bO h E [] cs S:=fun i x hx=>by simp at hx
theorem bO.own {b off c:Nat} {vs:Array Value} {e:TypeId} {fz:Nat × Nat} (hs:bO h E xs (fun q=>vs.getD (off+q) Go.undef) S) (hb:h[b]? = some (.cells vs e fz)) (hf:NF vs fz)
  (hl:xs.length≤c) (hm:xs.length≤cM) (ho:off+c*E.sz≤vs.size):bx h (.list E fun _=>xs) (.slice (some ⟨b,off,none⟩) xs.length c) (b0 b xs.length E.sz S):=
 .list (t:=fun _=>xs) S hb hf hl hm ho fun i x hx j l hj=>by have:=hs i x hx j l hj; rwa [Nat.add_assoc]
theorem bx.fY {xs:Unit→List E.α} {v:Value} {p:Nat→Nat} (ho:bx h (.list E xs) v p) :
   (v = .slice none 0 0∧xs () = []∧p=fun _=>0)∨
   ∃ b off c vs e fz S,v = .slice (some ⟨b,off,none⟩) (xs ()).length c∧p=b0 b (xs ()).length E.sz S∧h[b]? = some (.cells vs e fz)∧NF vs fz∧(xs ()).length≤c∧(xs ()).length≤cM∧
    off+c*E.sz≤vs.size∧bO h E (xs ()) (fun q=>vs.getD (off+q) Go.undef) S:=by
 cases ho with
 | nil h0=>exact .inl ⟨rfl,h0,rfl⟩
 | list S hb hf hl hm eM hc=>
   exact .inr ⟨_,_,_,_,_,_,S,rfl,rfl,hb,hf,hl,hm,eM,fun i x hx j l hj=>by have:=hc i x hx j l hj; rwa [Nat.add_assoc] at this⟩
end
def fR:List (Nat × an)→List Nat→List (Nat × an)
 | bs,[]=>bs
 | bs,k::ks=>fR (bZ bs k .dead) ks
def jk:aK→List Nat→aK
 | ρ,[]=>ρ
 | ρ,k::ks=>jk (de ρ k ((ρ k).1,fun _=>0)) ks
theorem oL:∀{ks:List Nat} {ρ:aK} {k:Nat},(jk ρ ks k).1=(ρ k).1
 | [],_,_=>rfl
 | j ::ks,ρ,k=>by
   simp only[jk,oL (ks:=ks)]
   by_cases h:k=j
   · subst h; rw[dM]
   · rw[dm h]
theorem G6:∀{ks:List Nat} {ρ:aK} {k:Nat},k∉ks→jk ρ ks k=ρ k
 | [],_,_,_=>rfl
 | j ::ks,ρ,k,h=>by
   simp only[List.mem_cons,not_or] at h;simp only[jk,G6 (ks:=ks) h.2,dm h.1]
theorem w3 {k:Nat}:∀{ks:List Nat} {bs:List (Nat × an)},ay (fR bs ks) k↔ay bs k
 | [],_=>Iff.rfl
 | j::ks,bs=>by simp only[fR,w3 (ks:=ks),fh]
theorem G7 {bs:List (Nat × an)} {k j:Nat} {B:an} (h:aP bs k=none):aP (bZ bs j B) k=none:=by
 cases hg:aP (bZ bs j B) k with
 | none=>rfl
 | some A=>exact(jO h (fh.1 (fP hg))).elim
theorem Cz {k:Nat}:∀{ks:List Nat} {bs:List (Nat × an)},aP bs k=none→aP (fR bs ks) k=none
 | [],_,h=>h
 | _::ks,_,h=>Cz (ks:=ks) (G7 h)
section
variable {Γ : Ctx} {H : Hp} {ρ : aK} {σ : SS} {a : Act} {w w' : World}
theorem aM.kill (r:aM Γ H ρ σ a w) {k:Nat} (hk:ay σ.ah k):aM Γ H (de ρ k ((ρ k).1,fun _=>0)) {σ with ah:=bZ σ.ah k .dead} a w:=by
 have e:ay (bZ σ.ah k .dead)=ay σ.ah:=by funext j; exact propext fh
 have hf:∀j,(de ρ k ((ρ k).1,fun _=>0) j).1=(ρ j).1:=fun j=>by
   by_cases h:j=k
   · subst h; rw[dM]
   · rw[dm h]
 have g:ki H H ρ (de ρ k ((ρ k).1,fun _=>0)) (ay σ.ah) (ay (bZ σ.ah k .dead)):=⟨fun _ _ h=>h,fun j hj=>⟨fh.2 hj,hf j⟩⟩;refine⟨⟨fun j hj=>by rw[hf]; exact r.b.oc j (fh.1 hj),by rw[s9]; exact r.b.nd,r.b.h0,r.b.hh,fun j A hj=> ?_,fun x=> ?_,fun j A hj x hx=> ?_,fun j A hj x hx=> ?_⟩,r.e.grow g,r.d,r.n,fun p hp=> ?_,fun p hp=>⟨fh.2 (r.hm p hp).1,by rw[hf]; exact(r.hm p hp).2⟩⟩
 · rcases kR r.b.nd hj with⟨rfl,rfl⟩ | ⟨hne,hj⟩
   · rw[dM]; rfl
   · rw[dm hne]; exact(r.b.ah j A hj).mono g fun _ _=>rfl
 · have h1:=s_ (ρ:=ρ) (ρ':=de ρ k ((ρ k).1,fun _=>0)) r.b.nd (B:= .dead) hk (fun j hj=>dm hj) x;rw[dM] at h1;have:=r.b.sum x;show aT _ (bZ σ.ah k .dead) x≤1;simp only[Nat.add_zero] at h1;omega
 · rcases kR r.b.nd hj with⟨rfl,rfl⟩ | ⟨hne,hj⟩
   · rw[dM] at hx; simp at hx
   · rw[dm hne] at hx; exact r.b.fresh j A hj x hx
 · rcases kR r.b.nd hj with⟨rfl,rfl⟩ | ⟨hne,hj⟩
   · cases hx
   · rw[dm hne] at hx; exact r.b.im j A hj x hx
 · obtain⟨h1,h2⟩:=r.hd p hp;refine⟨fh.2 h1,by rw[hf]; exact h2.1,fun x=> ?_⟩
   by_cases h:p.1=k
   · rw[h,dM]; exact Nat.zero_le _
   · rw[dm h]; exact h2.2 x
theorem aM.fR:∀{ks:List Nat} {ρ:aK} {σ:SS},aM Γ H ρ σ a w→(∀k∈ks,ay σ.ah k)→aM Γ H (jk ρ ks) {σ with ah:=fR σ.ah ks} a w
 | [],_,_,r,_=>r
 | k::ks,_,_,r,hd=>aM.fR (ks:=ks) (r.kill (hd k List.mem_cons_self)) fun j hj=>fh.2 (hd j (List.mem_cons_of_mem _ hj))
theorem w4:∀{ks:List Nat} {ρ:aK} {bs:List (Nat × an)} {x:Nat},(bs.map (·.1)).Nodup→eX ks=true→(∀k∈ks,ay bs k)→aT (jk ρ ks) (Go.Proofs.YtpklefhdkkegiaaGreat.fR bs ks) x+bW ρ ks x=aT ρ bs x
 | [],_,_,_,_,_,_=>by simp[jk,Go.Proofs.YtpklefhdkkegiaaGreat.fR,bW]
 | k :: ks,ρ,bs,x,hn,hd,hk=>by
   obtain⟨h1,h2⟩:=wQ hd;have ih:=w4 (ks:=ks) (ρ:=de ρ k ((ρ k).1,fun _=>0)) (bs:=bZ bs k .dead) (x:=x) (by rw[s9]; exact hn) h2 fun j hj=>fh.2 (hk j (List.mem_cons_of_mem _ hj));have h3:=s_ (ρ:=ρ) (ρ':=de ρ k ((ρ k).1,fun _=>0)) hn (B:= .dead) (hk k List.mem_cons_self) (fun j hj=>dm hj) x;rw[dM] at h3
   have h4:bW (de ρ k ((ρ k).1,fun _=>0)) ks x=bW ρ ks x:=by
    have :∀{ks:List Nat},k∉ks→bW (de ρ k ((ρ k).1,fun _=>0)) ks x=bW ρ ks x:=by
     intro ks
     induction ks with
     | nil=>intro _; rfl
     | cons j ks ih=>
       intro h;simp only[List.mem_cons,not_or] at h;simp only[bW,ih h.2,dm (Ne.symm h.1)]
    exact this h1
   simp only[jk,Go.Proofs.YtpklefhdkkegiaaGreat.fR,bW];simp only[Nat.add_zero] at h3;omega
theorem zv {ρ:aK} {x:Nat}:∀{ks:List Nat},0<bW ρ ks x→∃k∈ks,0<(ρ k).2 x
 | [],h=>by simp[bW] at h
 | k ::ks,h=>by
   rcases Nat.eq_zero_or_pos ((ρ k).2 x) with h0 | h0
   · have h:0<(ρ k).2 x+bW ρ ks x:=h;rw[h0,Nat.zero_add] at h;obtain⟨j,hj,h1⟩:=zv (ks:=ks) h;exact⟨j,List.mem_cons_of_mem _ hj,h1⟩
   · exact⟨k,List.mem_cons_self,h0⟩
theorem oM :∀{ks:List Nat} {bs:List (Nat × an)},gy bs ks=true→∀k∈ks,∃E xs,aP bs k=some (.own E xs false)
 | [],_,_,k,hk=>by cases hk
 | j :: ks,bs,h,k,hk=>by
   simp only[gy,Bool.and_eq_true] at h;cases hk with
   | head =>
     cases hg:aP bs j with
     | none=>simp[hg] at h
     | some B=>
       cases B with
       | own E xs l=>cases l with
         | false=>exact⟨E,xs,rfl⟩
         | true=>simp[hg] at h
       | dead=>simp[hg] at h
       | box cs=>simp[hg] at h
       | view E xs=>simp[hg] at h
       | ck E xs i fs=>simp[hg] at h
       | mp m=>simp[hg] at h
   | tail _ hk=>exact oM h.2 k hk
theorem aM.rB (r:aM Γ H ρ σ a w) {ks:List Nat} (hn:eX ks=true) (hu:gy σ.ah ks=true) {k:Nat} (hk:aP σ.ah k=none) {E:av} {xs:Unit→List E.α} {p:Value × (Nat→Nat)}
   (hh:∀x,x<w.heap.size→bW ρ ks x=0→w'.heap[x]? = w.heap[x]?) (bq:Ext w w') (cZ:bx w'.heap (.list E xs) p.1 p.2) (eI:p.1.oneCell'=true)
   (hp:∀x,x<w.heap.size→p.2 x≤bW ρ ks x) (cS:∀x,w.heap.size≤x→p.2 x≤1) :
   ∃ ρ',aM Γ H ρ' {σ with ah:=dA (Go.Proofs.YtpklefhdkkegiaaGreat.fR σ.ah ks) k (.own E xs false)} a w'∧(ρ' k).1=p.1∧∀j,j≠k→(ρ' j).1=(ρ j).1:=by
 have hd:∀j∈ks,ay σ.ah j:=fun j hj=>by obtain⟨E,xs,hg⟩:=oM hu j hj; exact fP hg
 have r1:=r.fR hd;have fZ:=fun x=>w4 (ρ:=ρ) (x:=x) r.b.nd hn hd
 have nB:∀x,0<bW ρ ks x→H x=none:=fun x hx=>by
   obtain⟨j,hj,h1⟩:=zv hx;obtain⟨E,xs,hg⟩:=oM hu j hj;exact r.b.im j _ (dk hg) x h1
 refine⟨de (jk ρ ks) k p,r1.th (Cz hk) (fun b o hb=> ?_) (fun b hb=> ?_) bq eI (fun x hx=> ?_) (fun x=> ?_) cZ (by simp),by rw[dM],fun j hj=>by rw[dm hj,oL]⟩
 · refine hh b (kW (r.b.hh b o hb)) ?_;rcases Nat.eq_zero_or_pos (bW ρ ks b) with h | h
   · exact h
   · rw[nB b h] at hb; cases hb
 · have h1:=fZ b;have h2:=r.b.sum b;have fF:0<aT (jk ρ ks) (Go.Proofs.YtpklefhdkkegiaaGreat.fR σ.ah ks) b:=hb;exact hh b (r.lt (by omega)) (by omega)
 · rcases Nat.lt_or_ge x w.heap.size with h | h
   · have h1:=hp x h;have h2:=fZ x;have h3:=r.b.sum x;exact⟨nB x (by omega),by simp only; omega⟩
   · have h1:=r.uH h;have h2:=fZ x;exact⟨h1.1,by simp only; omega⟩
 · rcases Nat.lt_or_ge x w.heap.size with h | h
   · have h1:=hp x h;have h2:=fZ x;have h3:=r.b.sum x;omega
   · exact cS x h
end
def mJ:av→Bool
 | .cE=>false
 | .ag=>false
 | .rep=>false
 | _=>true
def rC:(E E':av)→(Unit→List E'.α)→Option (Unit→List E.α)
 | .int, .int,t=>some t
 | .byte, .byte,t=>some t
 | .str, .str,t=>some t
 | .aI, .aI,t=>some t
 | .aJ, .aJ,t=>some t
 | .aE, .aE,t=>some t
 | .cE, .cE,t=>some t
 | .ag, .ag,t=>some t
 | .da, .da,t=>some t
 | .rep, .rep,t=>some t
 | _,_,_=>none
theorem uR {E E':av} {t:Unit→List E'.α} {u:Unit→List E.α} (h:rC E E' t=some u):Lf.list E' t=Lf.list E u:=by
 cases E <;> cases E' <;> simp only[rC,Option.some.injEq,reduceCtorEq] at h <;> subst h <;> rfl
def qd (bs:List (Nat × an)) (E:av):V→Option ((Unit→List E.α) × List Nat)
 | .c .nil=>some (fun _=>[],[])
 | .c (.own k)=>match aP bs k with
   | some (.own E' xs false)=>(match rC E E' xs with | some ys=>some (ys,[k]) | none=>none)
   | _=>none
 | _=>none
def CA (bs:List (Nat × an)) (E:av):V→Option ((Unit→List E.α) × List Nat)
 | .c (.lf (.list E' t))=>if mJ E=true then(match rC E E' t with | some ys=>some (ys,[]) | none=>none) else none
 | .c (.own k)=>if mJ E=true then(match aP bs k with
  | some (.own E' xs _)=>(match rC E E' xs with | some ys=>some (ys,[]) | none=>none)
  | _=>none) else qd bs E (.c (.own k))
 | v=>qd bs E v
def CB (tab:bh) (T:TypeId) (bs:List (Nat × an)) (E:av) (v:V):Option ((Unit→List E.α) × List Nat):=
 match cY tab T with
 | some (.sl _ _ _)=>CA bs E v
 | some .ss=>(match E,v with
   | .byte, .c (.lf (.str t))=>some (t,[])
   | _,_=>none)
 | _=>none
theorem rD {E:av} (hf:mJ E=true) {x:E.α} {j:Nat} {l:Lf} (h:(bY E fun _=>x)[j]? = some l):l.sc=true:=by
 have hm:=List.mem_of_getElem? h;cases E <;> simp only[mJ,Bool.false_eq_true] at hf <;> simp only[bY,List.mem_cons,List.not_mem_nil,or_false] at hm
 case int=>subst hm; rfl
 case byte=>subst hm; rfl
 case str=>subst hm; rfl
 case aI=>rcases hm with rfl | rfl <;> rfl
 case aJ=>rcases hm with rfl | rfl | rfl | rfl <;> rfl
 case aE=>rcases hm with rfl | rfl | rfl | rfl | rfl | rfl | rfl | rfl | rfl | rfl <;> rfl
 case da=>rcases hm with rfl | rfl | rfl | rfl | rfl | rfl <;> rfl
theorem RL.G8 {h:Array Obj} {H:Hp} {l:Lf} {v:Value} (hr:RL H l v) (hs:l.sc=true):bx h l v fun _=>0:=by
 cases hr with
 | int hr=>exact .int hr
 | bool=>exact .bool
 | str hm=>exact .str hm
 | nil h0=>simp[Lf.sc] at hs
 | list hb hl hm ho hc=>simp[Lf.sc] at hs
structure jz (w:World) (E:av) (xs:List E.α) (v:Value) (news:List Value) (S:Nat→Nat→Nat→Nat):Prop where
 len:news.length=xs.length*E.sz
 one:∀u∈news,u.oneCell'=true
 fY:bO w.heap E xs (fun q=>news.getD q Go.undef) S
 val:(∃a c,v = .slice a 0 c∧xs = [])∨∃b off c,v = .slice (some ⟨b,off,none⟩) xs.length c∧∀j u,news[j]? = some u→w.cell? ⟨b,off+j,none⟩=some u
theorem G9 {h:Array Obj} {E:av} {xs:List E.α} {cs:Nat→Value} {S:Nat→Nat→Nat→Nat} (hs:bO h E xs cs S) {q:Nat} (hq:q<xs.length*E.sz):(cs q).oneCell'=true:=by
 have hp:=wu E;have hi:q / E.sz<xs.length:=Nat.div_lt_of_lt_mul (by rw[Nat.mul_comm]; exact hq);have hj:q % E.sz<E.sz:=Nat.mod_lt _ hp;have h1:=hs (q / E.sz) _ (List.getElem?_eq_getElem hi) (q % E.sz) _ (List.getElem?_eq_getElem (by rw[iL]; exact hj));rw[Nat.mul_comm,Nat.div_add_mod] at h1;exact h1.one
theorem jz.of {w:World} {E:av} {xs:List E.α} {b off c:Nat} {vs:Array Value} {e:TypeId} {fz:Nat × Nat} {S:Nat→Nat→Nat→Nat} (hb:w.heap[b]? = some (.cells vs e fz)) (ho:off+xs.length*E.sz≤vs.size)
   (hs:bO w.heap E xs (fun q=>vs.getD (off+q) Go.undef) S):∃news,jz w E xs (.slice (some ⟨b,off,none⟩) xs.length c) news S:=by
 have hg:∀q,q<xs.length*E.sz→(vs.extract off (off+xs.length*E.sz)).toList[q]? = some (vs.getD (off+q) Go.undef):=fun q hq=>by
   rw[Array.getElem?_toList,Array.getElem?_extract,if_pos (by omega)];exact getD_some (by omega)
 have hl:(vs.extract off (off+xs.length*E.sz)).toList.length=xs.length*E.sz:=by simp; omega
 refine⟨(vs.extract off (off+xs.length*E.sz)).toList,hl,fun u hu=> ?_,hs.cells fun q hq=> ?_, .inr ⟨b,off,c,rfl,fun j u hj=> ?_⟩⟩
 · obtain⟨q,hq,rfl⟩:=List.getElem_of_mem hu;rw[hl] at hq;have h1:=hg q hq;rw[List.getElem?_eq_getElem (by rw[hl]; exact hq)] at h1;rw[Option.some.inj h1];exact G9 hs hq
 · rw[List.getD_eq_getElem?_getD,hg q hq]; rfl
 · have hq:j<xs.length*E.sz:=by rw[←hl]; exact bC hj
   rw[hg j hq] at hj;cases hj;exact cell_of hb (getD_some (by omega))
theorem RL.fY {H:Hp} {h:Array Obj} {E:av} {t:Unit→List E.α} {v:Value} (hr:RL H (.list E t) v) (hh:∀b o,H b=some o→h[b]? = some o) (hf:mJ E=true) :
  (∃ a c,v = .slice a 0 c∧t () = [])∨∃b off c vs e fz,v = .slice (some ⟨b,off,none⟩) (t ()).length c∧h[b]? = some (.cells vs e fz)∧off+(t ()).length*E.sz≤vs.size∧
   (t ()).length≤cM∧bO h E (t ()) (fun q=>vs.getD (off+q) Go.undef) fun _ _ _=>0:=by
 cases hr with
 | nil h0=>exact .inl ⟨_,_,rfl,h0⟩
 | list hb hl hm ho hc=>exact .inr ⟨_,_,_,_,_,_,rfl,hh _ _ hb,ho,hm,fun i x hx j l hj=>by
   have:=(hc i x hx j l hj).G8 (h:=h) (rD hf hj)
   rwa [Nat.add_assoc] at this⟩
theorem bx.tA {h:Array Obj} {l:Lf} {v:Value} {S:Nat→Nat} (ho:bx h l v S) (hs:l.sc=true):bx h l v fun _=>0:=by
 cases ho with
 | int hr=>exact .int hr
 | bool=>exact .bool
 | str hm=>exact .str hm
 | nil h0=>simp[Lf.sc] at hs
 | list=>simp[Lf.sc] at hs
theorem bO.flat {h:Array Obj} {E:av} {xs:List E.α} {cs:Nat→Value} {S:Nat→Nat→Nat→Nat} (hs:bO h E xs cs S) (hf:mJ E=true):bO h E xs cs fun _ _ _=>0:=fun i x hx j l hj=>
 (hs i x hx j l hj).tA (rD hf hj)
theorem jz.nil {w:World} {E:av} (a:Option Addr) (c:Nat):jz w E [] (.slice a 0 c) [] fun _ _ _=>0:=
 ⟨by simp,(fun _ h=>by cases h),bO.nil, .inl ⟨a,c,rfl,rfl⟩⟩
theorem jz.src {P:Program} {w:World} {E:av} {xs:List E.α} {v:Value} {news:List Value} {S:Nat→Nat→Nat→Nat} (hn:jz w E xs v news S) {tx e:TypeId} (hk:P.underlying tx=some (.slice e)) :
   Src P E.sz tx v xs.length news w:=by
 rcases hn.val with⟨a,c,rfl,rfl⟩ | ⟨b,off,c,rfl,h⟩
 · have:news = []:=by have:=hn.len; simpa using this
   subst this;cases a with
   | none=>exact Src.ofNil w hk c
   | some a=>exact Src.ofSlice w hk a 0 c [] (by simp) (fun j u hj=>by simp at hj) fun u hu=>by cases hu
 · exact Src.ofSlice w hk _ _ _ news hn.len (fun j u hj=>by rw[fj]; exact h j u hj) hn.one
structure uS (P:Program) (w:World) (E:av) (xs:List E.α) (tx:TypeId) (v:Value) (news:List Value) (S:Nat→Nat→Nat→Nat):Prop where
 len:news.length=xs.length*E.sz
 one:∀u∈news,u.oneCell'=true
 fY:bO w.heap E xs (fun q=>news.getD q Go.undef) S
 src:Src P E.sz tx v xs.length news w
theorem jz.zw {P:Program} {w:World} {E:av} {xs:List E.α} {v:Value} {news:List Value} {S:Nat→Nat→Nat→Nat} (hn:jz w E xs v news S) {tx e:TypeId} (hk:P.underlying tx=some (.slice e)):uS P w E xs tx v news S:=
 ⟨hn.len,hn.one,hn.fY,hn.src hk⟩
theorem uS.str {P:Program} {w:World} {tx:TypeId} (hk:P.underlying tx=some .string) (s:List UInt8):uS P w .byte s tx (.string ⟨s.toArray⟩) (byteCells ⟨s.toArray⟩) fun _ _ _=>0:=by
 have hs:=Src.ofString (P:=P) w hk ⟨s.toArray⟩;have hb:byteCells ⟨s.toArray⟩=s.map fun b=>Value.int .u8 b.toNat:=by simp[byteCells]
 have hz:(⟨s.toArray⟩:ByteArray).size=s.length:=by simp[ByteArray.size]
 rw[hz] at hs;refine⟨by rw[hb]; simp[av.sz],hs.one,fun i x hx j l hj=> ?_,hs⟩;simp only[bY] at hj;cases j with
 | succ j=>simp at hj
 | zero=>
   simp at hj;subst hj;rw[hb];simp only[av.sz,Nat.mul_one,Nat.add_zero]
   have:(s.map fun b=>Value.int .u8 b.toNat).getD i Go.undef = .int .u8 ((x.toNat:Nat):Int):=by
    rw[List.getD_eq_getElem?_getD,List.getElem?_map,hx]; rfl
   rw[this];refine bx.int (t:=fun _=>((x.toNat:Nat):Int)) ?_;have:=UInt8.toNat_lt x;simp[IntKind.has,IntKind.min,IntKind.max,IntKind.signed,IntKind.bits];omega
theorem jA:∀(us:List Value) (vs:Array Value) (o q:Nat),o+us.length≤vs.size→(dL vs o us).getD q Go.undef=if o≤q∧q<o+us.length then us.getD (q - o) Go.undef else vs.getD q Go.undef
 | [],vs,o,q,_=>by
   have:¬(o≤q∧q<o+([]:List Value).length):=by simp only[List.length_nil]; omega
   rw[if_neg this]; rfl
 | u ::us,vs,o,q,h=>by
   simp only[List.length_cons] at h;simp only[dL];rw[jA us _ (o+1) q (by simp; omega)]
   by_cases h1:o+1≤q∧q<o+1+us.length
   · rw[if_pos h1,if_pos (by simp only[List.length_cons]; omega),show q - o=(q - (o+1))+1 by omega];simp
   · rw[if_neg h1]
     by_cases h2:q=o
     · subst h2;rw[if_pos (by simp only[List.length_cons]; omega)];simp[Array.getD_eq_getD_getElem?,show q<vs.size by omega]
     · rw[if_neg (by simp only[List.length_cons]; omega)];simp[Array.getD_eq_getD_getElem?,Ne.symm h2]
theorem w5 {P:Program} {w:World} {E:av} {xs ys:List E.α} {vx vy:Value} {px:Nat→Nat} {T T2 e ty:TypeId} {i:TypeInfo} {z:Value} {news:List Value} {S2:Nat→Nat→Nat→Nat} {py:Nat→Nat}
   (hx:bx w.heap (.list E fun _=>xs) vx px) (hy:uS P w E ys T2 vy news S2) (uT:∀x,cp ys.length E.sz S2 x≤py x) (eI:∀x,px x+py x≤1) (lv:∀x,0<px x+py x→x<w.heap.size)
   (ht:P.underlying T=some (.slice e)) (hi:P.info? e=some i) (hz:i.zero=some z) (bq:i.size=E.sz) (tB:z.cells.size=E.sz) (rE:0<i.bytes)
   (tC:(xs.length+ys.length)*i.bytes≤140737488355328) :
   ∃ v p w',(Builtin.append_ #[T,T2] ty #[vx,vy]).run P w = .ok v w'∧bx w'.heap (.list E fun _=>xs++ys) v p∧Ext w w'∧(∀x,x<w.heap.size→px x=0→w'.heap[x]? = w.heap[x]?)∧
     (∀x,x<w.heap.size→p x≤px x+py x)∧∀x,w.heap.size≤x→p x≤1:=by
 have hs:=hy.src
 have hlen:xs.length+ys.length≤cM:=by
   have:xs.length+ys.length≤(xs.length+ys.length)*i.bytes:=Nat.le_mul_of_pos_right _ rE;unfold cM; omega
 have NZ:((xs.length+ys.length:Nat):Int)≤9223372036854775807:=by unfold cM at hlen; omega
 rw[←bq] at hs;have G_:=hy.fY
 have grow:∀(base:Option Addr) (n cap:Nat) (gz:List Value) (S:Nat→Nat→Nat→Nat),n=xs.length→vx = .slice base n cap→cap<n+ys.length→gz.length=xs.length*E.sz→
     (Builtin.firstCells i.size n (.slice base n cap)).run P w.drew = .ok gz.toArray w.drew→bO w.heap E xs (fun q=>gz.getD q Go.undef) S→(∀x,cp xs.length E.sz S x≤px x)→
     ∃ v p w',(Builtin.append_ #[T,T2] ty #[vx,vy]).run P w = .ok v w'∧bx w'.heap (.list E fun _=>xs++ys) v p∧Ext w w'∧(∀x,x<w.heap.size→px x=0→w'.heap[x]? = w.heap[x]?)∧
     (∀x,x<w.heap.size→p x≤px x+py x)∧∀x,w.heap.size≤x→p x≤1:=by
   intro base n cap gz S hn hv hg ck hold cB CC;subst hn;have cR:=run_append_grow_src (P:=P) w T T2 ty e i z ht hi hz base xs.length cap gz hold vy ys.length news hs hg NZ (growslice_fits hg tC);have oO:=grownCap_ge w (xs.length+ys.length) cap e;generalize grownCap w (xs.length+ys.length) cap e=C at cR oO;generalize nC:(gz++news).toArray++Builtin.zeroCells z.cells (C - (xs.length+ys.length))=cells at cR
   have dB:cells.size=C*E.sz:=by
     rw[←nC];simp only[Array.size_append,List.size_toArray,List.length_append,Builtin.zeroCells,Array.size_map,Array.size_range,tB,ck,hy.len];rw[←Nat.add_mul,←Nat.add_mul]
     congr 1; omega
   have dY:∀q,q<(xs++ys).length*E.sz→cells.getD (0+q) Go.undef=glue (xs.length*E.sz) (fun q=>gz.getD q Go.undef) (fun q=>news.getD q Go.undef) q:=by
     intro q hq;rw[List.length_append,Nat.add_mul] at hq;rw[Nat.zero_add,←nC,Array.getD_eq_getD_getElem?,Array.getElem?_append_left (by simp[ck,hy.len]; omega),List.getElem?_toArray];simp only[glue]
     split
     · rename_i h;rw[List.getElem?_append_left (by omega),List.getD_eq_getElem?_getD]
     · rename_i h;rw[List.getElem?_append_right (by omega),List.getD_eq_getElem?_getD,ck]
   have qe:bO (w.heap.push (.cells cells e)) E (xs++ys) (fun q=>cells.getD (0+q) Go.undef) (glue xs.length S S2):=by
     refine bO.cells ((cB.glue G_).mono fun x hx=> ?_) dY;rw[List.length_append,uQ] at hx;have h1:=CC x;have h2:=uT x;have h3:=lv x (by omega);rw[Array.getElem?_push,if_neg (Nat.ne_of_lt h3)]
   refine⟨_,b0 w.heap.size (xs++ys).length E.sz (glue xs.length S S2),w.drew.alloc (.cells cells e),by rw[hv]; exact cR, ?_,(Ext.of (w:=w) (w':=w.drew) (Nat.le_refl _) rfl rfl fun _=>rfl).trans (tj w.drew _ _),fun x hx _=> ?_,fun x hx=> ?_,fun x hx=> ?_⟩
   · have:=qe.own (b:=w.heap.size) (off:=0) (c:=C) (vs:=cells) (e:=e) (fz:=(0,0)) (by simp) (nz _) (by rw[List.length_append]; exact oO) (by rw[List.length_append]; exact hlen) (by omega);rw[←List.length_append];exact this
   · show(w.heap.push _)[x]? = _;rw[Array.getElem?_push,if_neg (Nat.ne_of_lt hx)]
   · have h1:=CC x;have h2:=uT x
     have:b0 w.heap.size (xs++ys).length E.sz (glue xs.length S S2) x=0+cp (xs.length+ys.length) E.sz (glue xs.length S S2) x:=by
       rw[←List.length_append]; simp only[b0,cp]; rw[if_neg (Nat.ne_of_lt hx)]
     rw[this,uQ];omega
   · have h1:=CC x;have h2:=uT x
     have h3:px x+py x=0:=by
       rcases Nat.eq_zero_or_pos (px x+py x) with h | h
       · exact h
       · have:=lv x h; omega
     have:b0 w.heap.size (xs++ys).length E.sz (glue xs.length S S2) x≤1+cp (xs.length+ys.length) E.sz (glue xs.length S S2) x:=by
       rw[←List.length_append]; simp only[b0,cp]; split <;> omega
     rw[uQ] at this;omega
 rcases hx.fY with⟨hv,h0,hp⟩ | ⟨b,off,c,vs,e',fz,S,hv,hp,hb,hf,hl,hm,ho,cB⟩
 · subst h0;rcases Nat.eq_zero_or_pos ys.length with Ha | Ha
   · have zg:ys = []:=List.length_eq_zero_iff.1 Ha;subst zg;have N0:news = []:=by have:=hy.len; simpa using this
     subst N0;refine⟨.slice none 0 0,fun _=>0,w, ?_,bx.nil (t:=fun _=>([]:List E.α) ++ []) rfl,Ext.refl w,fun _ _ _=>rfl,fun _ _=>Nat.zero_le _,fun _ _=>Nat.zero_le _⟩;rw[hv];have hc:(Builtin.firstCells i.size 0 vy).run P w = .ok #[] w:=hs.cells;rcases hs.kind with⟨e',hk⟩ | hk <;> simp[Builtin.append_,run_underlying ht,run_underlying hk,sizeOf,typeInfo,hi,hs.len,hc]
   · exact grow none 0 0 [] (fun _ _ _=>0) rfl hv (by omega) (by simp) (run_firstCells_none w.drew i.size 0 0 0) bO.nil fun x=>by simp[cp,cd]
 · rcases Nat.lt_or_ge c (xs.length+ys.length) with hg | gC
   · obtain⟨gz,hN⟩:=jz.of (c:=c) hb (by have:=Nat.mul_le_mul_right E.sz hl; omega) cB;refine grow (some ⟨b,off,none⟩) xs.length c gz S rfl hv hg hN.len ?_ hN.fY fun x=> ?_
     · rcases hN.val with⟨a,c',h1,h2⟩ | ⟨b',NU,c',h1,h2⟩
       · have:gz = []:=by have:=hN.len; rw[h2] at this; simpa using this
         subst this;rw[h2];exact run_firstCells_some w.drew i.size 0 _ _ _ [] (by simp) fun j v hj=>by simp at hj
       · simp only[Value.slice.injEq,Option.some.injEq,Addr.mk.injEq,and_true,true_and] at h1;obtain⟨⟨rfl,rfl⟩,rfl⟩:=h1;refine run_firstCells_some w.drew i.size _ _ _ _ gz (by rw[hN.len,bq]) fun j v hj=> ?_;rw[fj];exact h2 j v hj
     · rw[hp]; simp only[b0,cp]; exact Nat.le_add_left _ _
   · -- in place
     have oO:=Nat.mul_le_mul_right E.sz gC;rw[Nat.add_mul] at oO;obtain⟨w',g1,g2,g3,g4⟩:=rn (P:=P) news w b (off+xs.length*E.sz) 0 vs e' fz hb hf (by rw[hy.len]; omega) hy.one;rw[Nat.add_zero] at g2
     have jl:px b=1∧cp xs.length E.sz S b=0∧py b=0:=by
       have h1:=eI b;have h2:px b=1+cp xs.length E.sz S b:=by rw[hp]; simp[b0,cp]
       omega
     have N1:bO w'.heap E xs (fun q=>vs.getD (off+q) Go.undef) S:=cB.mono fun x hx=>g3 x fun he=>by subst he; omega
     have N2:bO w'.heap E ys (fun q=>news.getD q Go.undef) S2:=G_.mono fun x hx=>g3 x fun he=>by subst he; have:=uT x; omega
     have qe:bO w'.heap E (xs++ys) (fun q=>(dL vs (off+xs.length*E.sz) news).getD (off+q) Go.undef) (glue xs.length S S2):=by
       refine bO.cells (N1.glue N2) fun q hq=> ?_;rw[List.length_append,Nat.add_mul] at hq;rw[jA _ _ _ _ (by rw[hy.len]; omega)];simp only[glue]
       by_cases h:q<xs.length*E.sz
       · rw[if_pos h,if_neg (by omega)]
       · rw[if_neg h,if_pos (by rw[hy.len]; omega)]
         congr 1; omega
     refine⟨.slice (some ⟨b,off,none⟩) (xs++ys).length c,b0 b (xs++ys).length E.sz (glue xs.length S S2),w', ?_, ?_,g4,fun x _ hx=>g3 x fun he=>by subst he; omega,fun x _=> ?_,fun x hx=> ?_⟩
     · rw[hv,List.length_append];have N3:xs.length+ys.length≤c:=gC;rw[←bq] at g1;rcases hs.kind with⟨e',hk⟩ | hk <;> simp[Builtin.append_,run_underlying ht,run_underlying hk,sizeOf,typeInfo,hi,hs.len,N3,hs.cells,fj,g1]
     · refine qe.own g2 ?_ (by rw[List.length_append]; exact gC) (by rw[List.length_append]; exact hlen) (by rw[eJ]; exact ho);rcases hf with h | h
       · exact .inl h
       · exact .inr (by rw[eJ]; exact h)
     · have h2:=uT x
       have h3:b0 b (xs++ys).length E.sz (glue xs.length S S2) x=(if x=b then 1 else 0)+cp (xs.length+ys.length) E.sz (glue xs.length S S2) x:=by
         rw[←List.length_append]; rfl
       have h4:px x=(if x=b then 1 else 0)+cp xs.length E.sz S x:=by rw[hp]; rfl
       rw[h3,uQ];omega
     · have h2:=uT x;have h5:=eI x
       have h3:b0 b (xs++ys).length E.sz (glue xs.length S S2) x=(if x=b then 1 else 0)+cp (xs.length+ys.length) E.sz (glue xs.length S S2) x:=by
         rw[←List.length_append]; rfl
       have h4:px x=(if x=b then 1 else 0)+cp xs.length E.sz S x:=by rw[hp]; rfl
       rw[h3,uQ];omega
def CD (bs:List (Nat × an)) (z:Z):C→Option (Lf × List Nat)
 | .lf (.list _ _)=>none
 | .lf l=>some (l,[])
 | .bl b=>some (.bool fun _=>b,[])
 | .nil=>match z with | .nl E=>some (.list E fun _=>[],[]) | _=>none
 | .own k=>match aP bs k with | some (.own E xs false)=>some (.list E xs,[k]) | _=>none
 | _=>none
def qf (bs:List (Nat × an)):List Z→List C→Option (List Lf × List Nat)
 | [],[]=>some ([],[])
 | z ::zs,c::cs=>match CD bs z c,qf bs zs cs with
   | some (l,k),some (ls,ks)=>some (l::ls,k++ks)
   | _,_=>none
 | _,_=>none
def w6:(E:av)→List Lf→Option (Unit→E.α)
 | .int,[.int .i64 t]=>some t
 | .byte,[.int .u8 t]=>some fun _=>UInt8.ofNat (t ()).toNat
 | .str,[.str t]=>some t
 | .aI,[.int .i64 a, .int .i64 b]=>some fun _=>⟨a (),b ()⟩
 | .aJ,[.int .i64 a, .int .i64 b, .int .i64 c, .int .i64 d]=>some fun _=>⟨a (),b (),c (),d ()⟩
 | .aE,[.int .i64 a, .int .i64 b, .int .i64 c, .int .i64 d, .int .i64 e, .int .i64 f, .int .i64 g, .int .i64 h, .int .i64 i, .int .i64 j]=>
   some fun _=>⟨a (),b (),c (),d (),e (),f (),g (),h (),i (),j ()⟩
 | .cE,[.list .aI t]=>some t
 | .ag,[.int .i64 a, .int .i64 b, .int .i64 c, .int .i64 d, .int .i64 e, .list .aJ r, .list .cE s]=>some fun _=>⟨⟨a (),b (),c (),d (),e ()⟩,r (),s ()⟩
 | .da,[.int .i64 a, .int .i64 b, .int .i64 c, .int .i64 d, .int .i64 e, .int .i64 f]=>some fun _=>⟨a (),b (),c (),d (),e (),f ()⟩
 | .rep,[.int .i64 a, .list .int l]=>some fun _=>⟨a (),l ()⟩
 | _,_=>none
theorem Hb {t:Int} (h:IntKind.u8.has t):((UInt8.ofNat t.toNat).toNat:Int)=t:=by
 have:0≤t∧t≤255:=by simpa [IntKind.has,IntKind.min,IntKind.max,IntKind.signed,IntKind.bits] using h
 have h2:t.toNat<256:=by omega
 rw[UInt8.toNat_ofNat',Nat.mod_eq_of_lt (by simpa using h2)];omega
theorem CE {E:av} {ls:List Lf} {x:Unit→E.α} (h:w6 E ls=some x) (hb:∀t,ls = [.int .u8 t]→IntKind.u8.has (t ())):bY E x=ls:=by
 unfold w6 at h
 split at h
 · cases h; rfl
 · rename_i t;cases h;simp only[bY]
   congr 2
   funext u
   exact Hb (hb t rfl)
 all_goals first
   | (cases h; rfl)
   | cases h
def w7:List (Nat→Nat)→Nat→Nat
 | [],_=>0
 | f::fs,x=>f x+w7 fs x
theorem w9 {n:Nat} {f:Nat→Nat}:cd (n+1) f=f 0+cd n fun i=>f (i+1):=by
 induction n with
 | zero=>simp[cd]
 | succ n ih=>
   have h:cd (n+1+1) f=cd (n+1) f+f (n+1):=rfl;have h2:(cd (n+1) fun i=>f (i+1))=(cd n fun i=>f (i+1))+f (n+1):=rfl;rw[h,ih,h2]; omega
theorem CF:∀(fs:List (Nat→Nat)) (x:Nat),cd fs.length (fun j=>fs.getD j (fun _=>0) x)=w7 fs x
 | [],_=>rfl
 | f ::fs,x=>by
   simp only[List.length_cons,w7];rw[w9,←CF fs x];rfl
theorem qg {ρ:aK} {x:Nat}:∀{ks js:List Nat},bW ρ (ks++js) x=bW ρ ks x+bW ρ js x
 | [],js=>by simp[bW]
 | k::ks,js=>by simp only[List.cons_append,bW,qg (ks:=ks)]; omega
theorem tD {bs:List (Nat × an)}:∀{ks js:List Nat},gy bs ks=true→gy bs js=true→gy bs (ks++js)=true
 | [],_,_,h=>h
 | k ::ks,js,h1,h2=>by
   simp only[gy,Bool.and_eq_true,List.cons_append] at h1 ⊢;exact⟨h1.1,tD h1.2 h2⟩
section
variable {Γ : Ctx} {H : Hp} {ρ : aK} {σ : SS} {a : Act} {w : World} (r : aM Γ H ρ σ a w)
include r
theorem N4 {z:Z} {c:C} {l:Lf} {ks:List Nat} {v:Value} (h:CD σ.ah z c=some (l,ks)) (hv:RC H ρ (ay σ.ah) c v) :
   ∃ S:Nat→Nat,bx w.heap l v S∧gy σ.ah ks=true∧∀x,S x=bW ρ ks x:=by
 unfold CD at h
 split at h
 · cases h
 · rename_i l' hl;cases h;refine⟨fun _=>0,RL.G8 hv ?_,rfl,fun _=>rfl⟩;cases l <;> first | rfl | exact(hl _ _ rfl).elim
 · rename_i b;cases h;simp only[RC] at hv;subst hv;exact⟨fun _=>0,bx.bool (t:=fun _=>b),rfl,fun _=>rfl⟩
 · split at h
   · cases h;simp only[RC] at hv;subst hv;exact⟨fun _=>0,bx.nil rfl,rfl,fun _=>rfl⟩
   · cases h
 · rename_i k
   split at h
   · rename_i E xs hg;cases h;obtain⟨_,rfl⟩:=hv;exact⟨(ρ k).2,uE r hg,by simp[gy,hg],fun x=>by simp[bW]⟩
   · cases h
 · cases h
theorem CG:∀{zs:List Z} {cs:List C} {ls:List Lf} {ks:List Nat} {f:Nat→Value},qf σ.ah zs cs=some (ls,ks)→(∀(j:Nat) c,cs[j]? = some c→RC H ρ (ay σ.ah) c (f j))→
   ∃ S:List (Nat→Nat),S.length=ls.length∧ls.length=cs.length∧gy σ.ah ks=true∧(∀x,w7 S x=bW ρ ks x)∧∀(j:Nat) l,ls[j]? = some l→bx w.heap l (f j) (S.getD j fun _=>0)
 | [],[],ls,ks,f,h,_=>by
   simp only[qf,Option.some.injEq,Prod.mk.injEq] at h;obtain⟨rfl,rfl⟩:=h;exact⟨[],rfl,rfl,rfl,fun _=>rfl,fun j l hj=>by simp at hj⟩
 | [],_::_,_,_,_,h,_=>by simp[qf] at h
 | _::_,[],_,_,_,h,_=>by simp[qf] at h
 | z ::zs,c::cs,ls,ks,f,h,hc=>by
   unfold qf at h
   split at h
   · rename_i l k qh zx h1 h2;cases h;obtain⟨S0,g1,g2,g3⟩:=N4 r h1 (hc 0 c rfl);obtain⟨S,g4,g5,g6,g7,g8⟩:=CG h2 (f:=fun j=>f (j+1)) fun j c hj=>hc (j+1) c (by simpa using hj);refine⟨S0::S,by simp[g4],by simp[g5],tD g2 g6,fun x=>by simp only[w7,g3,g7,qg],fun j l hj=> ?_⟩;cases j with
     | zero=>simp at hj; subst hj; exact g1
     | succ j=>simp at hj; simpa using g8 j l hj
   · cases h
end
def CH (bs:List (Nat × an)) (E:av) (v:V):Option ((Unit→E.α) × List Nat):=
 match oH v with
 | some cs=>(match qf bs (oD E) cs with
   | some (ls,ks)=>(match w6 E ls with | some x=>some (x,ks) | none=>none)
   | none=>none)
 | none=>none
def w_ (bs:List (Nat × an)) (E:av):List V→Option ((Unit→List E.α) × List Nat)
 | []=>some (fun _=>[],[])
 | v ::vs=>match CH bs E v,w_ bs E vs with
   | some (x,k),some (xs,ks)=>some (fun _=>x ()::xs (),k++ks)
   | _,_=>none
def zy:Nat→List (Nat × Operand)→Bool
 | _,[]=>true
 | i,p::ps=>decide (p.1=i) && zy (i+1) ps
theorem Hc {f:Operand→Value}:∀{ps:List (Nat × Operand)} {i:Nat},zy i ps=true→(ps.map fun p=>(p.1,f p.2))=((ps.map fun p=>f p.2).zipIdx i).map fun x=>(x.2,x.1)
 | [],_,_=>rfl
 | p ::ps,i,h=>by
   simp only[zy,Bool.and_eq_true,decide_eq_true_eq] at h;simp only[List.map_cons,List.zipIdx_cons,Hc h.2,h.1]
section
variable {Γ : Ctx} {H : Hp} {ρ : aK} {σ : SS} {a : Act} {w : World} (r : aM Γ H ρ σ a w)
include r
theorem N5 {E:av} {v:V} {x:Unit→E.α} {ks:List Nat} {u:Value} (h:CH σ.ah E v=some (x,ks)) (hv:RV H ρ (ay σ.ah) v u) :
   u.cells.size=E.sz∧gy σ.ah ks=true∧∃S,bO w.heap E [x ()] (fun q=>u.cells.getD q Go.undef) S∧∀y,cp 1 E.sz S y=bW ρ ks y:=by
 unfold CH at h
 split at h
 · rename_i cs dB
   split at h
   · rename_i ls zx hm
     split at h
     · rename_i x' hx;cases h
       have hc:=hv.cells dB fun k hk=>by
         rw[hk] at hv;exact wJ r hv
       obtain⟨S,g1,g2,g3,g4,g5⟩:=CG r hm (f:=fun j=>u.cells.getD j Go.undef) hc.2
       have he:=CE hx fun t ht=>by
         have:=g5 0 _ (by rw[ht]; rfl);generalize u.cells.getD 0 Go.undef=y,S.getD 0 (fun _=>0)=T at this;cases this with
         | int hr=>exact hr
       have hlen:ls.length=E.sz:=by rw[←he,iL]
       refine⟨by rw[hc.1,←g2,hlen],g3,fun _ j=>S.getD j fun _=>0,fun i y hy j l hj=> ?_,fun y=> ?_⟩
       · cases i with
         | zero=>
           simp only[List.getElem?_cons_zero,Option.some.injEq] at hy;subst hy;have cQ:(bY E x)[j]? = some l:=hj;rw[he] at cQ;rw[Nat.zero_mul,Nat.zero_add];exact g5 j l cQ
         | succ i=>simp at hy
       · rw[←g4 y,←CF,g1,hlen];show 0+cd E.sz _=_;rw[Nat.zero_add]
     · cases h
   · cases h
 · cases h
theorem Hd {E:av}:∀{vs:List V} {us:List Value} {xs:Unit→List E.α} {ks:List Nat},w_ σ.ah E vs=some (xs,ks)→vs.length=us.length→(∀(j:Nat) v u,vs[j]? = some v→us[j]? = some u→RV H ρ (ay σ.ah) v u)→
   (xs ()).length=us.length∧(∀u∈us,u.cells.size=E.sz)∧(us.flatMap fun u=>u.cells.toList).length=us.length*E.sz∧gy σ.ah ks=true∧
     ∃ S,bO w.heap E (xs ()) (fun q=>(us.flatMap fun u=>u.cells.toList).getD q Go.undef) S∧∀y,cp us.length E.sz S y=bW ρ ks y
 | [],us,xs,ks,h,hl,_=>by
   have:us = []:=List.length_eq_zero_iff.1 hl.symm;subst this;simp only[w_,Option.some.injEq,Prod.mk.injEq] at h;obtain⟨rfl,rfl⟩:=h;exact⟨rfl,fun u hu=>by(cases hu),by simp,rfl,fun _ _ _=>0,bO.nil,fun y=>rfl⟩
 | v::vs,[],_,_,_,hl,_=>by simp at hl
 | v :: vs,u::us,xs,ks,h,hl,hv=>by
   unfold w_ at h
   split at h
   · rename_i x k rF zx h1 h2;cases h;obtain⟨g1,g2,S0,g3,g4⟩:=N5 r h1 (hv 0 v u rfl rfl);obtain⟨g5,g6,g7,g8,S,g9,N6⟩:=Hd h2 (by simpa using hl) fun j v u hj cQ=>hv (j+1) v u (by simpa using hj) (by simpa using cQ);refine⟨by simp[g5],fun y hy=> ?_,by simp only[List.flatMap_cons,List.length_append,List.length_cons,g7,Array.length_toList,g1,Nat.add_mul]; omega,tD g2 g8,glue 1 S0 S, ?_,fun y=> ?_⟩
     · cases hy with
       | head=>exact g1
       | tail _ hy=>exact g6 y hy
     · have:=(g3.glue g9);refine bO.cells this fun q hq=> ?_;simp only[List.length_cons,List.length_nil,Nat.zero_add,Nat.one_mul,glue,List.flatMap_cons]
       by_cases h:q<E.sz
       · rw[if_pos h,List.getD_eq_getElem?_getD,List.getElem?_append_left (by simp[g1,h]),Array.getD_eq_getD_getElem?,Array.getElem?_toList]
       · rw[if_neg h,List.getD_eq_getElem?_getD,List.getElem?_append_right (by simp[g1]; omega),List.getD_eq_getElem?_getD];simp[g1]
     · rw[List.length_cons,Nat.add_comm,uQ,g4,N6,qg]
   · cases h
end
def He:Z→Lf
 | .i k=> .int k fun _=>0
 | .bo=> .bool fun _=>false
 | .st=> .str fun _=>[]
 | .nl E=> .list E fun _=>[]
 | .un=> .bool fun _=>false
theorem N7 (E:av):(bY E fun _=>E.mE)=(oD E).map He:=by cases E <;> rfl
theorem Z.own {h:Array Obj} {z:Z} {v:Value} (hz:z.ok v=true) (hu:z≠ .un):bx h (He z) v fun _=>0:=by
 cases z with
 | i k=>
   cases v <;> simp[Z.ok] at hz
   obtain⟨rfl,rfl⟩:=hz;exact bx.int (t:=fun _=>0) (IntKind.y7 _)
 | bo=>cases v <;> simp[Z.ok] at hz; subst hz; exact bx.bool (t:=fun _=>false)
 | st=>
   cases v <;> simp[Z.ok] at hz
   subst hz;exact bx.str (t:=fun _=>[]) (by simp[cM])
 | nl E=>
   cases v with
   | slice a n c=>
     cases a with
     | none=>cases n <;> cases c <;> first | exact bx.nil rfl | simp[Z.ok] at hz
     | some a=>simp[Z.ok] at hz
   | _=>simp[Z.ok] at hz
 | un=>exact(hu rfl).elim
theorem Z.CI:∀{zs:List Z} {vs:List Value} {j:Nat} {z:Z},Z.hM zs vs=true→zs[j]? = some z→∃v,vs[j]? = some v∧z.ok v=true
 | [],_,j,z,_,h=>by simp at h
 | z0::zs,[],j,z,h,_=>by simp[Z.hM] at h
 | z0::zs,v::vs,j,z,h,hz=>by
   simp only[Z.hM,Bool.and_eq_true] at h;cases j with
   | zero=>simp at hz; subst hz; exact⟨v,rfl,h.1⟩
   | succ j=>simp at hz; obtain⟨u,h1,h2⟩:=Z.CI h.2 hz; exact⟨u,by simpa using h1,h2⟩
theorem Z.zz:∀{zs:List Z} {vs:List Value},Z.hM zs vs=true→vs.length=zs.length
 | [],[],_=>rfl
 | [],_::_,h=>by simp[Z.hM] at h
 | _::_,[],h=>by simp[Z.hM] at h
 | _ ::_,_::_,h=>by
   simp only[Z.hM,Bool.and_eq_true] at h;simp[Z.zz h.2]
theorem Hf (E:av):(oD E).length=E.sz:=by cases E <;> rfl
theorem N8 (E:av):∀z∈oD E,z≠ .un:=by cases E <;> decide
theorem N9 {h:Array Obj} {E:av} {z:Value} (hz:Z.hM (oD E) z.cells.toList=true) (n:Nat) :
  bO h E (List.replicate n E.mE) (fun q=>(madeCells z.cells (n*E.sz)).getD (0+q) Go.undef) fun _ _ _=>0:=fun i x hx j l hj=>by
 have hlen:z.cells.size=E.sz:=by have:=Z.zz hz; rw[Hf] at this; simpa using this
 have hi:i<n:=by have:=bC hx; simpa using this
 have gJ:=oK hj;rw[List.getElem?_replicate,if_pos hi] at hx;cases hx;have hd:(bY E fun _=>E.mE)[j]? = some l:=hj;rw[N7,List.getElem?_map,Option.map_eq_some_iff] at hd;obtain⟨zj,h1,rfl⟩:=hd;obtain⟨v,h2,h3⟩:=Z.CI hz h1;have hq:i*E.sz+j<n*E.sz:=rz hi gJ;have N_:(i*E.sz+j) % z.cells.size=j:=by rw[hlen,Nat.mul_comm,Nat.mul_add_mod,Nat.mod_eq_of_lt gJ]
 have:(madeCells z.cells (n*E.sz)).getD (0+(i*E.sz+j)) Go.undef=v:=by
  rw[Nat.zero_add,Array.getD_eq_getD_getElem?];unfold madeCells;rw[Array.getElem?_map,Array.getElem?_range,if_pos hq];simp only[Option.map_some,Option.getD_some,N_];rw[Array.getElem?_toList] at h2;rw[getElem!_def,h2]
 show bx h _ ((madeCells z.cells (n*E.sz)).getD (0+(i*E.sz+j)) Go.undef) _;rw[this];exact Z.own h3 (N8 E zj (List.mem_of_getElem? h1))
section
variable {Γ : Ctx} {H : Hp} {ρ : aK} {σ : SS} {a : Act} {w w' : World}
theorem CJ {bs:List (Nat × an)} {k:Nat} {B:an} (h:ay bs k):aP (bZ bs k B) k=some B:=by
 induction bs with
 | nil=>simp[ay] at h
 | cons p r ih=>
   simp only[bZ]
   split
   · simp[aP]
   · rename_i hp;simp only[aP,if_neg hp];refine ih ?_;simp only[ay,List.map_cons,List.mem_cons] at h;exact h.resolve_left (Ne.symm hp)
theorem aM.CK (r:aM Γ H ρ σ a w) {k:Nat} (hne:∀p∈Γ.hd,p.1≠k) (hk:ay σ.ah k) (h0:∀x,(ρ k).2 x=0) {B:an} {p:Nat→Nat}
   (hh:∀x,x<w.heap.size→0<aT ρ σ.ah x∨H x≠none→w'.heap[x]? = w.heap[x]?) (bq:Ext w w')
   (hB:cO w'.heap H (de ρ k ((ρ k).1,p)) (ay (bZ σ.ah k B)) B ((ρ k).1,p)) (tz:∀x,gk B ((ρ k).1,p) x→0<p x)
   (hp:∀x,0<p x→H x=none∧aT ρ σ.ah x=0) (hle:∀x,p x≤1) :
   aM Γ H (de ρ k ((ρ k).1,p)) {σ with ah:=bZ σ.ah k B} a w':=by
 have hf:∀j,(de ρ k ((ρ k).1,p) j).1=(ρ j).1:=fun j=>by
   by_cases h:j=k
   · subst h; rw[dM]
   · rw[dm h]
 have g:ki H H ρ (de ρ k ((ρ k).1,p)) (ay σ.ah) (ay (bZ σ.ah k B)):=⟨fun _ _ h=>h,fun j hj=>⟨fh.2 hj,hf j⟩⟩;refine⟨⟨fun j hj=>by rw[hf]; exact r.b.oc j (fh.1 hj),by rw[s9]; exact r.b.nd,r.b.h0,fun b o hb=> ?_,fun j A hj=> ?_,fun x=> ?_,fun j A hj x hx=> ?_,fun j A hj x hx=> ?_⟩,r.e.grow g,r.d,r.n.trans bq,(fun p hp=>by have:=r.hd p hp; rw[dm (hne p hp)]; exact⟨fh.2 this.1,this.2⟩),fun p hp=>⟨fh.2 (r.hm p hp).1,by rw[hf]; exact(r.hm p hp).2⟩⟩
 · have:=r.b.hh b o hb;rw[hh b (kW this) (.inr (by rw[hb]; simp))];exact this
 · rcases kR r.b.nd hj with⟨rfl,rfl⟩ | ⟨hne,hj⟩
   · rw[dM]; exact hB
   · rw[dm hne];exact(r.b.ah j A hj).mono g fun b hb=>hh b (r.lt (Nat.lt_of_lt_of_le hb (nu hj b))) (.inl (Nat.lt_of_lt_of_le hb (nu hj b)))
 · have h1:=s_ (ρ:=ρ) (ρ':=de ρ k ((ρ k).1,p)) r.b.nd (B:=B) hk (fun j hj=>dm hj) x;rw[dM,h0 x] at h1;show aT _ (bZ σ.ah k B) x≤1;have h2:=r.b.sum x;have h3:=hle x;rcases Nat.eq_zero_or_pos (p x) with h4 | h4
   · simp only[h4] at h1; omega
   · have:=(hp x h4).2;simp only at h1;omega
 · rcases kR r.b.nd hj with⟨rfl,rfl⟩ | ⟨hne,hj⟩
   · rw[dM] at hx;have:=(hp x hx).1;cases h0:Γ.H0 x with
     | none=>rfl
     | some o=>rw[r.b.h0 x o h0] at this; cases this
   · rw[dm hne] at hx; exact r.b.fresh j A hj x hx
 · rcases kR r.b.nd hj with⟨rfl,rfl⟩ | ⟨hne,hj⟩
   · rw[dM] at hx; exact(hp x (tz x hx)).1
   · rw[dm hne] at hx; exact r.b.im j A hj x hx
theorem Hg:∀{ks:List Nat} {ρ:aK} {k x:Nat},(k∈ks∨(ρ k).2 x=0)→(jk ρ ks k).2 x=0
 | [],ρ,k,x,h=>h.resolve_left (by simp)
 | j :: ks,ρ,k,x,h=>by
   simp only[jk];refine Hg ?_
   by_cases hO:k=j
   · right; subst hO; rw[dM]
   · rcases h with h | h
     · rcases List.mem_cons.1 h with h | h
       · exact(hO h).elim
       · exact .inl h
     · right; rw[dm hO]; exact h
theorem Hh {n sz i:Nat} (hi:i<n) {S:Nat→Nat→Nat→Nat} {T:Nat→Nat→Nat} {x:Nat} :
  cp n sz (fun q=>if q=i then T else S q) x+cd sz (fun j=>S i j x)=cp n sz S x+cd sz fun j=>T j x:=by
 unfold cp;have:=BI (f:=fun q=>cd sz fun j=>(if q=i then T else S q) j x) (g:=fun q=>cd sz fun j=>S q j x) hi fun j hj=>by simp only[if_neg hj]
 simp only[if_pos] at this;omega
theorem bO.set {h:Array Obj} {E:av} {xs:List E.α} {cs ds:Nat→Value} {S T:Nat→Nat→Nat→Nat} {x:E.α} {i:Nat} (hs:bO h E xs cs S) (ht:bO h E [x] ds T) :
   bO h E (xs.set i x) (fun q=>if i*E.sz≤q∧q<i*E.sz+E.sz then ds (q - i*E.sz) else cs q) (fun q=>if q=i then T 0 else S q):=fun q y hy j l hj=>by
 have gJ:=oK hj;rw[List.getElem?_set] at hy
 by_cases hq:i=q
 · subst hq;rw[if_pos rfl] at hy
   split at hy
   · cases hy;simp only[if_pos];rw[if_pos (by omega),Nat.add_sub_cancel_left];have:=ht 0 x rfl j l hj
     rwa [Nat.zero_mul,Nat.zero_add] at this
   · cases hy
 · rw [if_neg hq] at hy;simp only[if_neg (Ne.symm hq)];rw[if_neg]
   · exact hs q y hy j l hj
   · intro hc;rcases Nat.lt_or_gt_of_ne hq with h1 | h1
     · have:=Nat.mul_le_mul_right E.sz (show i+1≤q from h1);rw[Nat.add_mul] at this;omega
     · have:=Nat.mul_le_mul_right E.sz (show q+1≤i from h1);rw[Nat.add_mul] at this;omega
end
theorem CL {fs:List (Option Nat)} (h:fs.all Option.isNone=true) (i q j:Nat):filled fs i q j=none:=by
 unfold filled
 split
 · split
   · rename_i k hk;have:=List.all_eq_true.1 h _ (List.mem_of_getElem? hk);cases this
   · rfl
 · rfl
theorem Oa {fs:List (Option Nat)} {i q j m:Nat} {o:Option Nat} (hj:j<fs.length):filled (fs.set j o) i q m=if q=i∧m=j then o else filled fs i q m:=by
 unfold filled
 by_cases hq:q=i
 · simp only[hq,if_true,true_and];rw[List.getElem?_set]
   by_cases hm:m=j
   · subst hm;simp only[if_true,hj];cases o <;> rfl
   · rw[if_neg (Ne.symm hm),if_neg hm]
 · simp only[hq,if_false,false_and]
section
variable {h : Array Obj} {ρ : aK} {D : Nat → Prop} {E : av} {xs : List E.α} {i : Nat} {fs : List (Option Nat)} {cs : Nat → Value} {S : Nat → Nat → Nat → Nat}
theorem y5.fY (hs:y5 h ρ D E xs i fs cs S) (hf:fs.all Option.isNone=true):bO h E xs cs S:=fun q x hx j l hj=>by
 have:=hs q x hx j l hj;rw[CL hf] at this;exact this
theorem bO.cB (hs:bO h E xs cs S) (hf:fs.all Option.isNone=true):y5 h ρ D E xs i fs cs S:=fun q x hx j l hj=>by
 rw[CL hf];exact hs q x hx j l hj
end
theorem Oc {h:Array Obj} {H:Hp} {ρ:aK} {D:Nat→Prop} {E:av} {xs:Unit→List E.α} {l:Bool} {p:Value × (Nat→Nat)} (ho:cO h H ρ D (.own E xs l) p) {i:Unit→Nat} (hi:i ()<(xs ()).length)
  {fs:List (Option Nat)} (hf:fs.all Option.isNone=true):cO h H ρ D (.ck E xs i fs) p:=by
 have ho:bx h (.list E xs) p.1 p.2:=ho;rcases ho.fY with⟨_,h0,_⟩ | ⟨b,off,c,vs,e,fz,S,h1,h2,h3,h4,h5,h6,h7,h8⟩
 · rw[h0] at hi; simp at hi
 · exact⟨b,off,c,vs,e,fz,S,h1,h2,h3,h4,h5,h6,h7,hi,h8.cB hf⟩
theorem Od {h:Array Obj} {H:Hp} {ρ:aK} {D:Nat→Prop} {E:av} {xs:Unit→List E.α} {p:Value × (Nat→Nat)} {i:Unit→Nat} {fs:List (Option Nat)} (ho:cO h H ρ D (.ck E xs i fs) p)
  (hf:fs.all Option.isNone=true) (l:Bool):cO h H ρ D (.own E xs l) p:=by
 obtain⟨b,o,c,cs,e,fz,S,h1,h2,h3,h4,h5,h6,h7,h8,h9⟩:=ho;have:=(h9.fY hf).own h3 h4 h5 h6 h7;show bx h (.list E xs) p.1 p.2;rw[h1,h2];exact this
theorem Oe {n sz i j:Nat} (hi:i<n) (hj:j<sz) {S:Nat→Nat→Nat→Nat} {T:Nat→Nat} {x:Nat} :
  cp n sz (fun q m=>if q=i∧m=j then T else S q m) x+S i j x=cp n sz S x+T x:=by
 unfold cp;have h1:=BI (f:=fun q=>cd sz fun m=>(if q=i∧m=j then T else S q m) x) (g:=fun q=>cd sz fun m=>S q m x) hi fun q hq=>by simp only[hq,false_and,if_false]
 have h2:=BI (f:=fun m=>(if m=j then T else S i m) x) (g:=fun m=>S i m x) hj fun m hm=>by simp only[if_neg hm]
 simp only[true_and,if_true] at h1 h2;show(cd n fun q=>cd sz fun m=>(if q=i∧m=j then T else S q m) x)+_=_+_;omega
def uU (bs:List (Nat × an)):List (Option Nat)→List Lf→Option (List Lf × List Nat)
 | _,[]=>some ([],[])
 | [],l::ls=>some (l::ls,[])
 | o ::fs,l::ls=>
   match uU bs fs ls with
   | some (r,ks)=>
     match o with
     | none=>some (l::r,ks)
     | some k=>(match aP bs k with | some (.own E xs false)=>some (.list E xs::r,k::ks) | _=>none)
   | none=>none
theorem Hi {bs :List (Nat × an)} {ρ:aK}:∀{fs:List (Option Nat)} {ls qh:List Lf} {ks:List Nat},uU bs fs ls=some (qh,ks)→
   qh.length=ls.length∧gy bs ks=true∧(∀(j:Nat) l',qh[j]? = some l'→(∃k E xs,fs[j]? = some (some k)∧aP bs k=some (.own E xs false)∧k∈ks∧l' = .list E xs)∨((∀k,fs[j]? ≠some (some k))∧ls[j]? = some l'))∧
   ∀ (T:Nat→Nat→Nat),(∀(j:Nat) k,fs[j]? = some (some k)→j<ls.length→T j=fun _=>0)→
     ∀ x,cd ls.length (fun j=>(match fs[j]? with | some (some k)=>(ρ k).2 | _=>T j) x)=cd ls.length (fun j=>T j x)+bW ρ ks x
 | fs,[],qh,ks,h=>by
   have:qh = []∧ks = []:=by cases fs <;> simp_all [uU]
   obtain⟨rfl,rfl⟩:=this;exact⟨rfl,rfl,fun j l' hj=>by simp at hj,fun T _ x=>rfl⟩
 | [],l::ls,qh,ks,h=>by
   simp only[uU,Option.some.injEq,Prod.mk.injEq] at h;obtain⟨rfl,rfl⟩:=h;exact⟨rfl,rfl,fun j l' hj=> .inr ⟨fun k=>by simp,hj⟩,fun T _ x=>by simp[bW]⟩
 | o :: fs, l ::ls,qh,ks,h=>by
   simp only[uU] at h
   split at h
   · rename_i r zx hr;obtain⟨g1,g2,g3,g4⟩:=Hi (ρ:=ρ) hr;cases o with
     | none=>
       simp only[Option.some.injEq,Prod.mk.injEq] at h;obtain⟨rfl,rfl⟩:=h;refine⟨by simp[g1],g2,fun j l' hj=> ?_,fun T hT x=> ?_⟩
       · cases j with
         | zero=>exact .inr ⟨fun k=>by simp,by simpa using hj⟩
         | succ j=>simpa using g3 j l' (by simpa using hj)
       · have:=g4 (fun j=>T (j+1)) (fun j k hj hl=>hT (j+1) k (by simpa using hj) (by simpa using hl)) x;simp only[List.length_cons];rw[w9,w9];simp only[List.getElem?_cons_succ,List.getElem?_cons_zero] at this ⊢;omega
     | some k =>
       simp only at h
       split at h
       · rename_i E xs hk;simp only[Option.some.injEq,Prod.mk.injEq] at h;obtain⟨rfl,rfl⟩:=h;refine⟨by simp[g1],by simp only[gy,hk,g2,Bool.and_self],fun j l' hj=> ?_,fun T hT x=> ?_⟩
         · cases j with
           | zero=>exact .inl ⟨k,E,xs,rfl,hk,List.mem_cons_self,by simpa using hj.symm⟩
           | succ j=>
             rcases g3 j l' (by simpa using hj) with⟨k',E',rF,q1,q2,q3,q4⟩ | q
             · exact .inl ⟨k',E',rF,by simpa using q1,q2,List.mem_cons_of_mem _ q3,q4⟩
             · exact .inr (by simpa using q)
         · have:=g4 (fun j=>T (j+1)) (fun j k hj hl=>hT (j+1) k (by simpa using hj) (by simpa using hl)) x;have h0:=hT 0 k rfl (by simp);simp only[List.length_cons,bW];rw[w9,w9,h0];simp only[List.getElem?_cons_succ,List.getElem?_cons_zero] at this ⊢;omega
       · cases h
   · cases h
def uV (bs:List (Nat × an)) (k:Nat):Option (List (Nat × an)):=
 match aP bs k with
 | some (.ck E xs i fs)=>
   match uU bs fs (bY E (bM E xs i)) with
   | some (ls,ks)=>
     match w6 E ls with
     | some x=>if eX (k::ks)=true then some (bZ (fR bs (k::ks)) k (.own E (fun _=>(xs ()).set (i ()) (x ())) false)) else none
     | none=>none
   | none=>none
 | some _=>some bs
 | none=>none
section
variable {Γ : Ctx} {H : Hp} {ρ : aK} {σ : SS} {a : Act} {w w' : World}
theorem cO.im {h:Array Obj} {D:Nat→Prop} {E:av} {xs:Unit→List E.α} {i:Unit→Nat} {fs:List (Option Nat)} {p:Value × (Nat→Nat)} (_:cO h H ρ D (.ck E xs i fs) p) (x:Nat) (hx:gk (.ck E xs i fs) p x):0<p.2 x:=hx
theorem aM.Hj (r:aM Γ H ρ σ a w) {k:Nat} (hne:∀p∈Γ.hd,p.1≠k) {ks:List Nat} (hn:eX (k::ks)=true) (hd:∀j∈k::ks,ay σ.ah j) (hH:∀j∈k::ks,∀x,0<(ρ j).2 x→H x=none) {B:an} {p:Nat→Nat}
   (hh:∀x,x<w.heap.size→bW ρ (k::ks) x=0→w'.heap[x]? = w.heap[x]?) (bq:Ext w w')
   (hB:∀ρ':aK,(∀j,(ρ' j).1=(ρ j).1)→(∀j,j∉k::ks→ρ' j=ρ j)→cO w'.heap H ρ' (ay σ.ah) B ((ρ k).1,p)) (tz:∀x,gk B ((ρ k).1,p) x→0<p x)
   (hp:∀x,p x≤bW ρ (k::ks) x) :
   ∃ ρ',aM Γ H ρ' {σ with ah:=bZ (Go.Proofs.YtpklefhdkkegiaaGreat.fR σ.ah (k::ks)) k B} a w'∧∀j,(ρ' j).1=(ρ j).1:=by
 have r1:=r.fR hd;have fZ:=fun y=>w4 (ρ:=ρ) (x:=y) r.b.nd hn hd
 have nB:∀y,0<bW ρ (k::ks) y→H y=none:=fun y hy=>by
   obtain⟨j,hj,h1⟩:=zv hy;exact hH j hj y h1
 have zA:∀j,(de (jk ρ (k::ks)) k ((jk ρ (k::ks) k).1,p) j).1=(ρ j).1:=fun j=>by
   by_cases h:j=k
   · subst h; rw[dM]; exact oL
   · rw[dm h,oL]
 have Of:ay (bZ (Go.Proofs.YtpklefhdkkegiaaGreat.fR σ.ah (k::ks)) k B)=ay σ.ah:=by
   funext j; rw[fh,w3]
 refine⟨_,r1.CK (w':=w') (k:=k) (B:=B) (p:=p) hne (w3.2 (hd k List.mem_cons_self)) (fun y=>Hg (.inl List.mem_cons_self))
     (fun y aQ hy=>hh y aQ ?_) bq ?_ (by rw[oL]; exact tz) (fun y hy=> ?_) (fun y=> ?_),zA⟩
 · have h2:=fZ y;have h3:=r.b.sum y;rcases Nat.eq_zero_or_pos (bW ρ (k::ks) y) with h | h
   · exact h
   · rcases hy with hy | hy
     · simp only at hy; omega
     · exact(hy (nB y h)).elim
 · rw[Of,oL];refine hB _ (by rw[←oL (ks:=k::ks) (ρ:=ρ) (k:=k)]; exact zA) fun j hj=> ?_;rw[dm (by rintro rfl; exact hj List.mem_cons_self),G6 hj]
 · have h1:=hp y;have h2:=fZ y;have h3:=r.b.sum y;exact⟨nB y (by omega),by simp only; omega⟩
 · have h1:=hp y;have h2:=fZ y;have h3:=r.b.sum y;omega
theorem Hk (r:aM Γ H ρ σ a w) {ks:List Nat} (hu:gy σ.ah ks=true):(∀j∈ks,ay σ.ah j)∧∀j∈ks,∀x,0<(ρ j).2 x→H x=none:=
 ⟨fun j hj=>by obtain⟨E,xs,hg⟩:=oM hu j hj; exact fP hg,fun j hj x hx=>by obtain⟨E,xs,hg⟩:=oM hu j hj; exact r.b.im j _ (dk hg) x hx⟩
theorem CM (ρ:aK) (k:Nat) (ks:List Nat) (x:Nat):bW ρ (k::ks) x=(ρ k).2 x+bW ρ ks x:=rfl
theorem aM.close (bT:Γ.hd = []) (r:aM Γ H ρ σ a w) {k:Nat} {bs:List (Nat × an)} (h:uV σ.ah k=some bs):∃ρ',aM Γ H ρ' {σ with ah:=bs} a w∧∀j,(ρ' j).1=(ρ j).1:=by
 unfold uV at h
 split at h
 · rename_i E xs i fs hk
   split at h
   · rename_i ls ks kq
     split at h
     · rename_i x hx
       split at h
       · rename_i hn;cases h;obtain⟨g1,g2,g3,g4⟩:=Hi (ρ:=ρ) kq;rw[iL] at g4;obtain⟨iN,rG⟩:=Hk r g2;have qi:=r.b.ah k _ (dk hk);obtain⟨b,o,c,cs,e,fz,S,h1,h2,h3,h4,h5,h6,h7,h8,h9⟩:=qi
         have oP:(xs ())[i ()]? = some (bM E xs i ()):=by
           simp only[bM,List.getD_eq_getElem?_getD,List.getElem?_eq_getElem h8,Option.getD_some]
         have oQ :bY E x=ls:=CE hx fun t ht=>by
           have bI:ls[0]? = some (.int .u8 t):=by rw[ht]; rfl
           rcases g3 0 _ bI with⟨_,_,_,_,_,_,q⟩ | ⟨q1,q2⟩
           · cases q
           · have jh:=h9 (i ()) _ oP 0 _ q2
             have:filled fs (i ()) (i ()) 0=none:=by
               unfold filled; rw[if_pos rfl]; split
               · rename_i k' bL; exact(q1 k' bL).elim
               · rfl
             rw[this] at jh
             have hint:∀(v:Value) (T:Nat→Nat),bx w.heap (.int .u8 t) v T→IntKind.u8.has (t ()):=fun v T h=>by
               cases h with
               | int hr=>exact hr
             exact hint _ _ jh
         have Hl:∀(j:Nat) k',fs[j]? = some (some k')→j<E.sz→cs.getD (o+(i ()*E.sz+j)) Go.undef=(ρ k').1∧S (i ()) j=fun _=>0:=fun j k' hj hl=>by
           obtain⟨l,ko⟩:∃l,(bY E fun _=>bM E xs i ())[j]? = some l:=⟨_,List.getElem?_eq_getElem (by rw[iL]; exact hl)⟩;have:=h9 (i ()) _ oP j l ko;have hf:filled fs (i ()) (i ()) j=some k':=by unfold filled; rw[if_pos rfl,hj]
           rw[hf] at this;exact this.2
         let S':Nat→Nat→Nat→Nat:=fun q j=>if q=i () then(match fs[j]? with | some (some k)=>(ρ k).2 | _=>S q j) else S q j
         have fZ:∀y,cp (xs ()).length E.sz S' y=cp (xs ()).length E.sz S y+bW ρ ks y:=fun y=>by
           have q1:=Hh (sz:=E.sz) (S:=S) (T:=fun j=>match fs[j]? with | some (some k)=>(ρ k).2 | _=>S (i ()) j) (x:=y) h8;have q2:=g4 (S (i ())) (fun j k' hj hl=>(Hl j k' hj hl).2) y
           have q3:S'=fun q=>if q=i () then(fun j=>match fs[j]? with | some (some k)=>(ρ k).2 | _=>S (i ()) j) else S q:=by
             funext q j
             simp only[S']
             by_cases hq:q=i ()
             · subst hq; simp only[if_true]
             · simp only[if_neg hq]
           rw[q3];omega
         have cB :bO w.heap E ((xs ()).set (i ()) (x ())) (fun q=>cs.getD (o+q) Go.undef) S':=fun q y hy j l hj=>by
           rw[List.getElem?_set] at hy
           by_cases hq:i ()=q
           · rw [if_pos hq,if_pos (by omega)] at hy;cases hy;have cQ:(bY E x)[j]? = some l:=hj;rw[oQ] at cQ;subst hq;simp only[S',if_true];rcases g3 j l cQ with⟨k',E',rF,q1,q2,q3,rfl⟩ | ⟨q1,q2⟩
             · have gJ:j<E.sz:=oK hj;rw[q1,(Hl j k' q1 gJ).1];exact r.b.ah k' _ (dk q2)
             · have jh:=h9 (i ()) _ oP j l q2
               have hf:filled fs (i ()) (i ()) j=none:=by
                unfold filled; rw[if_pos rfl]; split
                · rename_i k' bL; exact(q1 k' bL).elim
                · rfl
               rw[hf] at jh
               split
               · rename_i k' bL; exact(q1 k' bL).elim
               · exact jh
           · rw[if_neg hq] at hy;have jh:=h9 q y hy j l hj;have hf:filled fs (i ()) q j=none:=by unfold filled; rw[if_neg (Ne.symm hq)]
             rw[hf] at jh;simp only[S',if_neg (Ne.symm hq)];exact jh
         have cZ:=cB.own (b:=b) (off:=o) (c:=c) h3 h4 (by rw[List.length_set]; exact h5) (by rw[List.length_set]; exact h6) h7;rw[List.length_set] at cZ;refine r.Hj (fun p hp=>by rw[bT] at hp; cases hp) (p:=b0 b (xs ()).length E.sz S') hn (fun j hj=> ?_) (fun j hj y hy=> ?_) (fun _ _ _=>rfl) (Ext.refl _) (fun ρ' jP _=> ?_) (fun y hy=>hy) fun y=> ?_
         · rcases List.mem_cons.1 hj with rfl | hj
           · exact fP hk
           · exact iN j hj
         · rcases List.mem_cons.1 hj with rfl | hj
           · exact r.b.im _ _ (dk hk) y hy
           · exact rG j hj y hy
         · show bx w.heap _ (ρ k).1 _;rw[h1]; exact cZ
         · have:=fZ y;rw[CM,h2];simp only[b0];simp only[cp] at this;omega
       · cases h
     · cases h
   · cases h
 · cases h;exact⟨ρ,r,fun _=>rfl⟩
 · cases h
theorem aM.Og (bT:Γ.hd = []) (r:aM Γ H ρ σ a w) {k kk:Nat} {E E':av} {xs:Unit→List E.α} {ys:Unit→List E'.α} {i:Unit→Nat} {fs:List (Option Nat)} (hk:aP σ.ah k=some (.ck E xs i fs)) (ma:aP σ.ah kk=none) {j:Nat}
   (hj:(bY E (bM E xs i))[j]? = some (.list E' ys)) (hf:fs[j]? = some none) :
   ∃ ρ',aM Γ H ρ' {σ with ah:=bZ (dA (bZ σ.ah k .dead) kk (.own E' ys false)) k (.ck E xs i (fs.set j (some kk)))} a w∧(∀q,ay σ.ah q→(ρ' q).1=(ρ q).1)∧
    ∃ b o n c cs e fz,(ρ k).1 = .slice (some ⟨b,o,none⟩) n c∧w.heap[b]? = some (.cells cs e fz)∧(ρ' kk).1=cs.getD (o+(i ()*E.sz+j)) Go.undef:=by
 have gJ:j<E.sz:=by have:=bC hj; rwa [iL] at this
 have Oh:j<fs.length:=bC hf;have qi:=r.b.ah k _ (dk hk);obtain⟨b,o,c,cs,e,fz,S,h1,h2,h3,h4,h5,h6,h7,h8,h9⟩:=qi
 have oP:(xs ())[i ()]? = some (bM E xs i ()):=by
   simp only[bM,List.getD_eq_getElem?_getD,List.getElem?_eq_getElem h8,Option.getD_some]
 have cZ:=h9 (i ()) _ oP j _ hj;have CN:filled fs (i ()) (i ()) j=none:=by unfold filled; rw[if_pos rfl,hf]
 rw[CN] at cZ;simp only at cZ
 let S':Nat→Nat→Nat→Nat:=fun q m=>if q=i ()∧m=j then(fun _=>0) else S q m
 have hS:∀y,b0 b (xs ()).length E.sz S y=b0 b (xs ()).length E.sz S' y+S (i ()) j y:=fun y=>by
   have:=Oe (S:=S) (T:=fun _=>0) (x:=y) h8 gJ;simp only[cp] at this;simp only[b0,S'];omega
 have gR:ay σ.ah k:=fP hk;have hne:kk≠k:=fun he=>jO ma (he▸gR);have je:∀y,bW ρ [k] y=b0 b (xs ()).length E.sz S y:=fun y=>by simp[bW,h2]
 have nB:∀y,0<b0 b (xs ()).length E.sz S y→H y=none:=fun y hy=>r.b.im k _ (dk hk) y (by show 0<(ρ k).2 y; rw[h2]; exact hy);have gK:=fun y=>w4 (ρ:=ρ) (ks:=[k]) (x:=y) r.b.nd rfl (fun j hj=>by simp at hj; subst hj; exact gR);have r1:=r.kill gR
 let ρ1:aK:=de ρ k ((ρ k).1,fun _=>0)
 have CO:∀y,aT ρ1 (bZ σ.ah k .dead) y+b0 b (xs ()).length E.sz S y=aT ρ σ.ah y:=fun y=>by have:=gK y; rw[je y] at this; exact this
 have eI:(cs.getD (o+(i ()*E.sz+j)) Go.undef).oneCell'=true:=cZ.one
 have r2:=r1.th (w':=w) (k:=kk) (B:= .own E' ys false) (p:=(cs.getD (o+(i ()*E.sz+j)) Go.undef,S (i ()) j)) (G7 ma) (fun _ _ _=>rfl) (fun _ _=>rfl) (Ext.refl _) eI
   (fun y hy=>by
    have q1:=hS y;have q2:=CO y;have q3:=r.b.sum y;exact⟨nB y (by simp only at hy; omega),by show aT ρ1 (bZ σ.ah k .dead) y=0; simp only at hy; omega⟩)
   (fun y=>by
    have q1:=hS y;have q2:=CO y;have q3:=r.b.sum y;simp only; omega) cZ (by simp)
 let ρ2:aK:=de ρ1 kk (cs.getD (o+(i ()*E.sz+j)) Go.undef,S (i ()) j)
 have e2:∀q,q≠kk→ρ2 q=ρ1 q:=fun q hq=>dm hq
 have e1:∀q,(ρ1 q).1=(ρ q).1:=fun q=>by
   by_cases h:q=k
   · subst h; simp only[ρ1]; rw[dM]
   · simp only[ρ1]; rw[dm h]
 have zB:(ρ2 k)=((ρ k).1,fun _=>0):=by rw[e2 k (Ne.symm hne)]; exact dM _ _ _
 have Hm:∀y,aT ρ2 (dA (bZ σ.ah k .dead) kk (.own E' ys false)) y+b0 b (xs ()).length E.sz S' y=aT ρ σ.ah y:=fun y=>by
   have q1:=hS y;have q2:=CO y;rw[y6,wA (ρ:=ρ1) (ρ':=ρ2) fun q hq=>e2 q fun he=>jO ma (by rw[←he]; exact fh.1 hq)];have:(ρ2 kk).2 y=S (i ()) j y:=by simp only[ρ2]; rw[dM]
   omega
 have Oi:ay (dA (bZ σ.ah k .dead) kk (.own E' ys false)) k:=gx.2 (.inr (fh.2 gR))
 have e3:∀q,(de ρ2 k ((ρ2 k).1,b0 b (xs ()).length E.sz S') q).1=(ρ2 q).1:=fun q=>by
   by_cases h:q=k
   · subst h; rw[dM]
   · rw[dm h]
 have r3 :=aM.CK (w':=w) r2 (k:=k) (hne:=fun p hp=>by rw[bT] at hp; cases hp) (B:= .ck E xs i (fs.set j (some kk))) (p:=b0 b (xs ()).length E.sz S') Oi (fun y=>by
    show(ρ2 k).2 y=0;rw[zB]) (fun _ _ _=>rfl) (Ext.refl _)
   (by
    refine⟨b,o,c,cs,e,fz,S', ?_,rfl,h3,h4,h5,h6,h7,h8,fun q x hx m l hm=> ?_⟩
    · show(ρ2 k).1=_;rw[zB]; exact h1
    · rw [Oa Oh]
      by_cases hq:q=i ()∧m=j
      · rw[if_pos hq];obtain⟨rfl,rfl⟩:=hq;refine⟨fh.2 (gx.2 (.inl rfl)), ?_,by simp[S']⟩;show _=(de ρ2 k ((ρ2 k).1,b0 b (xs ()).length E.sz S') kk).1;rw[e3];simp only[ρ2]; rw[dM]
      · rw[if_neg hq];have bI:=h9 q x hx m l hm;have Oj:S' q m=S q m:=by simp only[S',if_neg hq]
        rw[Oj]
        split at bI
        · obtain⟨g1,g2,g3⟩:=bI;have Ok:∀k',k'=kk→¬ay σ.ah k':=fun k' he hd=>jO ma (he▸hd);refine⟨fh.2 (gx.2 (.inr (fh.2 g1))), ?_,g3⟩;show _=(de ρ2 k ((ρ2 k).1,b0 b (xs ()).length E.sz S') _).1;rw[e3,e2 _ fun he=>Ok _ he g1,e1]; exact g2
        · exact bI)
   (fun y hy=>hy)
   (fun y hy=>by
    have q1:=Hm y;have q2:=r.b.sum y;have q3:=hS y;refine⟨nB y (by omega), ?_⟩;show aT ρ2 (dA (bZ σ.ah k .dead) kk (.own E' ys false)) y=0;omega)
   (fun y=>by
    have q1:=Hm y;have q2:=r.b.sum y;omega)
 refine⟨_,r3,fun q hq=> ?_,b,o,_,c,cs,e,fz,h1,h3, ?_⟩
 · show(de ρ2 k ((ρ2 k).1,b0 b (xs ()).length E.sz S') q).1=_;rw[e3,e2 q fun he=>jO ma (he▸hq),e1]
 · show(de ρ2 k ((ρ2 k).1,b0 b (xs ()).length E.sz S') kk).1=_;rw[e3];simp only[ρ2]; rw[dM]
end
def rH (ls:List Lf) (off:Nat) (new:List Lf):List Lf:=ls.take off++(new++ls.drop (off+new.length))
theorem Hn {ls new:List Lf} {off j:Nat} (h:off+new.length≤ls.length):(rH ls off new)[j]? = if off≤j∧j<off+new.length then new[j - off]? else ls[j]? :=by
 unfold rH;rcases Nat.lt_or_ge j off with h1 | h1
 · rw[List.getElem?_append_left (by rw[List.length_take]; omega),List.getElem?_take,if_pos h1,if_neg (by omega)]
 · rw [List.getElem?_append_right (by rw[List.length_take]; omega),List.length_take,Nat.min_eq_left (by omega)];rcases Nat.lt_or_ge j (off+new.length) with h2 | h2
   · rw[List.getElem?_append_left (by omega),if_pos ⟨h1,h2⟩]
   · rw[List.getElem?_append_right (by omega),if_neg (by omega),List.getElem?_drop]
     congr 1; omega
def mK:List (Option Nat)→Nat→Nat→List (Option Nat)
 | [],_,_=>[]
 | o::fs,0,0=>o::fs
 | _::fs,0,n+1=>none::mK fs 0 n
 | o::fs,off+1,n=>o::mK fs off n
theorem CP:∀{fs:List (Option Nat)} {off n j:Nat},(mK fs off n)[j]? = if off≤j∧j<off+n then(fs[j]?).map fun _=>none else fs[j]?
 | [],off,n,j=>by simp[mK]
 | o ::fs,0,0,j=>by
   have:¬(0≤j∧j<0+0):=by omega
   simp only[mK,if_neg this]
 | o::fs,0,n+1,0=>by simp[mK]
 | o ::fs,0,n+1,j+1=>by
   simp only[mK,List.getElem?_cons_succ];rw[CP];have:(0≤j∧j<0+n)↔(0≤j+1∧j+1<0+(n+1)):=by omega
   simp only[this]
 | o ::fs,off+1,n,0=>by
   simp[mK]
 | o ::fs,off+1,n,j+1=>by
   simp only[mK,List.getElem?_cons_succ];rw[CP];have:(off≤j∧j<off+n)↔(off+1≤j+1∧j+1<off+1+n):=by omega
   simp only[this]
theorem Ol {fs:List (Option Nat)} {off n i q j:Nat}:filled (mK fs off n) i q j=if off≤j∧j<off+n then none else filled fs i q j:=by
 unfold filled;rw[CP]
 by_cases h:off≤j∧j<off+n
 · simp only[if_pos h]
   split
   · cases fs[j]? <;> rfl
   · rfl
 · simp only[if_neg h]
theorem Om {n:Nat} {f g:Nat→Nat}:cd n (fun j=>f j+g j)=cd n f+cd n g:=by
 induction n with
 | zero=>rfl
 | succ n ih=>simp only[cd,ih]; omega
theorem On {off n sz:Nat} {f g:Nat→Nat} (h:off+n≤sz):cd sz (fun j=>if off≤j∧j<off+n then f (j - off) else g j)≤cd sz g+cd n f:=by
 have h1:cd sz (fun j=>if off≤j∧j<off+n then f (j - off) else g j)≤cd sz fun j=>g j+(if off≤j∧j<off+n then f (j - off) else 0):=
  M6 fun j hj=>by split <;> omega
 have h2:cd sz (fun j=>if off≤j∧j<off+n then f (j - off) else 0)=cd n f:=by
  obtain⟨m,rfl⟩:∃m,sz=off+(n+m):=⟨sz - off - n,by omega⟩;rw[wZ,mF (n:=off) (fun i hi=>by rw[if_neg (by omega)]),wZ,mF (n:=m) (fun i hi=>by rw[if_neg (by omega)]),Nat.zero_add,Nat.add_zero];exact wv fun i hi=>by rw[if_pos (by omega),Nat.add_sub_cancel_left]
 rw[Om,h2] at h1;exact h1
def uW (E:av) (xs:Unit→List E.α) (i:Unit→Nat) (fs:List (Option Nat)):an:=if fs.all Option.isNone=true then .own E xs false else .ck E xs i fs
theorem Oo {h:Array Obj} {H:Hp} {ρ:aK} {D:Nat→Prop} {E:av} {xs:Unit→List E.α} {i:Unit→Nat} {fs:List (Option Nat)} {p:Value × (Nat→Nat)} (hr:cO h H ρ D (.ck E xs i fs) p):cO h H ρ D (uW E xs i fs) p:=by
 unfold uW
 split
 · rename_i hf; exact Od hr hf false
 · exact hr
theorem Oq {E:av} {xs:Unit→List E.α} {i:Unit→Nat} {fs:List (Option Nat)} {p:Value × (Nat→Nat)} {x:Nat} (h:gk (uW E xs i fs) p x):0<p.2 x:=by
 unfold uW at h
 split at h <;> exact h
section
variable {Γ : Ctx} {H : Hp} {ρ : aK} {σ : SS} {a : Act} {w w' : World}
theorem aM.Ot {P:Program} (r:aM Γ H ρ σ a w) {k:Nat} (hne:∀p∈Γ.hd,p.1≠k) {ks:List Nat} (hn:eX (k::ks)=true) {E:av} {xs:Unit→List E.α} {i:Unit→Nat} {fs:List (Option Nat)} (iN:ay σ.ah k)
   (hB:cO w.heap H ρ (ay σ.ah) (.ck E xs i fs) (ρ k)) (rG:∀x,0<(ρ k).2 x→H x=none) (hu:gy σ.ah ks=true) {b o n c:Nat} (hv:(ρ k).1 = .slice (some ⟨b,o,none⟩) n c) {off:Nat} {us:List Value} {new:List Lf}
   (Cn:us.length=new.length) (eM:off+new.length≤E.sz) {T:Nat→Nat→Nat} (cZ:∀(j:Nat) l,new[j]? = some l→bx w.heap l (us.getD j Go.undef) (T j)) (hT:∀y,cd new.length (fun j=>T j y)=bW ρ ks y)
   {x:Unit→E.α} (hx:bY E x=rH (bY E (bM E xs i)) off new) :
   ∃ w',(storeCells ⟨b,o+i ()*E.sz+off,none⟩ us).run P w = .ok () w'∧(∀y,(ρ k).2 y=0→w'.heap[y]? = w.heap[y]?)∧
     ∃ ρ',aM Γ H ρ' {σ with ah:=bZ (Go.Proofs.YtpklefhdkkegiaaGreat.fR σ.ah (k::ks)) k (uW E (fun _=>(xs ()).set (i ()) (x ())) i (mK fs off new.length))} a w':=by
 obtain⟨b',o',c',vs,e,fz,S,h1,h2,h3,h4,h5,h6,h7,h8,h9⟩:=hB;rw[hv] at h1;simp only[Value.slice.injEq,Option.some.injEq,Addr.mk.injEq,and_true] at h1;obtain⟨⟨rfl,rfl⟩,rfl,rfl⟩:=h1;obtain⟨Ou,Ov⟩:=Hk r hu;have hd:∀j∈k::ks,ay σ.ah j:=fun j hj=>by rcases List.mem_cons.1 hj with rfl | hj; exact iN; exact Ou j hj
 have hle:∀y,(ρ k).2 y+bW ρ ks y≤1:=fun y=>by
   have h1:=mI (ρ:=ρ) (k::ks) hn hd y;have h2:=r.b.sum y;simp only[bW] at h1;omega
 have oP:(xs ())[i ()]? = some (bM E xs i ()):=by
   simp only[bM,List.getD_eq_getElem?_getD,List.getElem?_eq_getElem h8,Option.getD_some]
 have dW:i ()*E.sz+E.sz≤(xs ()).length*E.sz:=by
   have:=Nat.mul_le_mul_right E.sz (show i ()+1≤(xs ()).length from h8)
   rwa [Nat.add_mul,Nat.one_mul] at this
 have oO:=Nat.mul_le_mul_right E.sz h5
 have eI:∀u∈us,u.oneCell'=true:=fun u CQ=>by
   obtain⟨q,hq,rfl⟩:=List.getElem_of_mem CQ;obtain⟨l,hl⟩:∃l,new[q]? = some l:=⟨_,List.getElem?_eq_getElem (by omega)⟩;have:=(cZ q l hl).one
   rwa [List.getD_eq_getElem?_getD,List.getElem?_eq_getElem hq] at this
 obtain⟨w',g1,g2,g3,g4⟩:=rn (P:=P) us w b (o+i ()*E.sz+off) 0 vs e fz h3 h4 (by omega) eI;rw[Nat.add_zero] at g2
 let S':Nat→Nat→Nat→Nat:=fun q j=>if q=i () then(if off≤j∧j<off+new.length then T (j - off) else S q j) else S q j
 have Ho:∀y,cp (xs ()).length E.sz S' y≤cp (xs ()).length E.sz S y+bW ρ ks y:=fun y=>by
   have q1:=Hh (sz:=E.sz) (S:=S) (T:=fun j=>if off≤j∧j<off+new.length then T (j - off) else S (i ()) j) (x:=y) h8;have q2:=On (f:=fun j=>T j y) (g:=fun j=>S (i ()) j y) eM
   have q3:S'=fun q=>if q=i () then(fun j=>if off≤j∧j<off+new.length then T (j - off) else S (i ()) j) else S q:=by
     funext q j
     simp only[S']
     by_cases hq:q=i ()
     · subst hq; simp only[if_true]
     · simp only[if_neg hq]
   have q4:(cd E.sz fun j=>(fun j=>if off≤j∧j<off+new.length then T (j - off) else S (i ()) j) j y)=cd E.sz fun j=>if off≤j∧j<off+new.length then T (j - off) y else S (i ()) j y:=
     wv fun j _=>by show(if _ then _ else _:Nat→Nat) y=_; split <;> rfl
   rw[←q3,q4] at q1;rw[hT y] at q2;omega
 have jl:∀y,(ρ k).2 y=(if y=b then 1 else 0)+cp (xs ()).length E.sz S y:=fun y=>by rw[h2]; rfl
 have Wd:cp (xs ()).length E.sz S b=0∧bW ρ ks b=0:=by
   have h1:=hle b;have h2:=jl b;rw[if_pos rfl] at h2;omega
 have CR:∀q y,(xs ())[q]? = some y∨q=i ()→∀j,j<E.sz→∀z,0<S' q j z→z≠b:=fun q y hy j hj z hz Ow=>by
   subst Ow;have hq:q<(xs ()).length:=by rcases hy with hy | rfl; exact bC hy; exact h8
   have:=G5 (S:=S') (x:=z) hq hj;have:=Ho z;omega
 have dY:∀q,o+q<vs.size→¬(i ()*E.sz+off≤q∧q<i ()*E.sz+off+new.length)→(dL vs (o+i ()*E.sz+off) us).getD (o+q) Go.undef=vs.getD (o+q) Go.undef:=fun q hq hc=>by
   rw[jA _ _ _ _ (by omega),if_neg (by omega)]
 have Ox:∀j,j<new.length→(dL vs (o+i ()*E.sz+off) us).getD (o+(i ()*E.sz+(off+j))) Go.undef=us.getD j Go.undef:=fun j hj=>by
   rw[jA _ _ _ _ (by omega),if_pos (by omega)]
   congr 1; omega
 refine⟨w',g1,(fun y hy=>g3 y fun he=>by have:=jl y; rw[if_pos he] at this; omega),Exists.imp (fun _ h=>And.left h) (r.Hj hne (p:=b0 b (xs ()).length E.sz S') hn hd (fun j hj y hy=>by rcases List.mem_cons.1 hj with rfl | hj; exact rG y hy; exact Ov j hj y hy) (fun y _ hy=>g3 y fun he=> ?_) g4 (fun ρ' jP We=>Oo ?_) (fun y hy=>Oq hy) fun y=> ?_)⟩
 · subst he;have:=jl y;rw[if_pos rfl] at this;rw[CM] at hy;omega
 · refine⟨b,o,c,dL vs (o+i ()*E.sz+off) us,e,fz,S',by rw[List.length_set]; exact hv,by rw[List.length_set],g2,by rcases h4 with h | h; exact .inl h; exact .inr (by rw[eJ]; exact h),by rw[List.length_set]; exact h5,
     by rw[List.length_set]; exact h6,by rw[eJ]; exact h7,by rw[List.length_set]; exact h8,fun q y hy j l hj=> ?_⟩
   have gJ:=oK hj;rw[List.getElem?_set] at hy
   by_cases hq:i ()=q
   · rw [if_pos hq,if_pos h8] at hy;cases hy;subst hq;have cQ:(bY E x)[j]? = some l:=hj;rw[hx,Hn (by rw[iL]; exact eM)] at cQ;rw[Ol];simp only[S',if_true]
     by_cases hr:off≤j∧j<off+new.length
     · rw[if_pos hr] at cQ ⊢;rw[if_pos hr];have q1:=Ox (j - off) (by omega);rw[show off+(j - off)=j by omega] at q1;show bx w'.heap l ((dL vs (o+i ()*E.sz+off) us).getD (o+(i ()*E.sz+j)) Go.undef) (T (j - off));rw[q1];refine(cZ _ _ cQ).mono fun z hz=>g3 z ?_;exact CR (i ()) (bM E xs i ()) (.inr rfl) j gJ z (by simp only[S',if_true,if_pos hr]; exact hz)
     · rw[if_neg hr] at cQ ⊢;rw[if_neg hr];have bI:=h9 (i ()) _ oP j l cQ;have q1:=dY (i ()*E.sz+j) (by omega) (by omega);simp only[q1]
       split at bI
       · obtain⟨f1,f2,f3⟩:=bI;exact⟨f1,by rw[jP]; exact f2,f3⟩
       · refine bI.mono fun z hz=>g3 z (CR (i ()) (bM E xs i ()) (.inr rfl) j gJ z (by simp only[S',if_true,if_neg hr]; exact hz))
   · rw [if_neg hq] at hy;have bI:=h9 q y hy j l hj;have hf:∀rI:List (Option Nat),filled rI (i ()) q j=none:=fun rI=>by unfold filled; rw[if_neg (Ne.symm hq)]
     rw[hf] at bI ⊢;simp only[S',if_neg (Ne.symm hq)];have Wf:q*E.sz+j<(xs ()).length*E.sz:=rz (bC hy) gJ
     have q1:=dY (q*E.sz+j) (by omega) (fun hc=>by
       rcases Nat.lt_or_gt_of_ne hq with h1 | h1
       · have:=Nat.mul_le_mul_right E.sz (show i ()+1≤q from h1);rw[Nat.add_mul] at this;omega
       · have:=Nat.mul_le_mul_right E.sz (show q+1≤i () from h1);rw[Nat.add_mul] at this;omega)
     show bx w'.heap l ((dL vs (o+i ()*E.sz+off) us).getD (o+(q*E.sz+j)) Go.undef) (S q j);rw[q1];exact bI.mono fun z hz=>g3 z (CR q y (.inl hy) j gJ z (by simp only[S',if_neg (Ne.symm hq)]; exact hz))
 · have:=Ho y;have:=jl y;rw[CM];simp only[b0];simp only[cp] at *;omega
end
def xa (E:av) (xs:Unit→List E.α) (i:Unit→Nat) (k:Nat):List (Nat × Nat)→List (Option Nat)→List (Nat × an)→Option (List (Nat × an))
 | [],_,bs=>some bs
 | (j,kk)::r,fs,bs=>
   match(bY E (bM E xs i))[j]?,fs[j]?,aP bs kk with
   | some (.list E' ys),some none,none=>xa E xs i k r (fs.set j (some kk)) (bZ (dA (bZ bs k .dead) kk (.own E' ys false)) k (.ck E xs i (fs.set j (some kk))))
   | _,_,_=>none
def uX:List Lf→Nat→Nat→List (Nat × Nat)
 | [],_,_=>[]
 | .list _ _::ls,j,kk=>(j,kk)::uX ls (j+1) (kk+1)
 | _::ls,j,kk=>uX ls (j+1) kk
def nD:List Lf→Nat→List C
 | [],_=>[]
 | .list _ _::ls,kk=> .own kk::nD ls (kk+1)
 | l::ls,kk=> .lf l::nD ls kk
theorem CS:∀{ls:List Lf} {kk:Nat},(nD ls kk).length=ls.length
 | [],_=>rfl
 | l::ls,kk=>by cases l <;> simp[nD,CS (ls:=ls)]
theorem Hq:∀{ls:List Lf} {j kk m:Nat} {c:C},(nD ls kk)[m]? = some c→∃l,ls[m]? = some l∧((l.sc=true∧c = .lf l)∨∃q,c = .own q∧(j+m,q)∈uX ls j kk)
 | [],j,kk,m,c,h=>by simp[nD] at h
 | l ::ls,j,kk,0,c,h=>by
   cases l <;> simp[nD] at h <;> subst h <;> refine⟨_,rfl, ?_⟩
   · exact .inl ⟨rfl,rfl⟩
   · exact .inl ⟨rfl,rfl⟩
   · exact .inl ⟨rfl,rfl⟩
   · exact .inr ⟨kk,rfl,by simp[uX]⟩
 | l :: ls,j,kk,m+1,c,h=>by
   cases l
   all_goals
    simp only[nD,List.getElem?_cons_succ] at h;obtain⟨l',h1,h2⟩:=Hq (j:=j+1) h;refine⟨l',by simpa using h1, ?_⟩;rcases h2 with h2 | ⟨q,h2,h3⟩
    · exact .inl h2
    · refine .inr ⟨q,h2, ?_⟩;simp only[uX];rw[show j+(m+1)=j+1+m by omega]
      first | exact List.mem_cons_of_mem _ h3 | exact h3
def zC (bs:List (Nat × an)) (k:Nat) (E:av):Option ((Unit→List E.α) × Option (Unit→Nat) × List (Option Nat)):=
 match aP bs k with
 | some (.own E' xs false)=>(match rC E E' xs with | some ys=>some (ys,none,List.replicate E.sz none) | none=>none)
 | some (.ck E' xs i fs)=>(match rC E E' xs with | some ys=>some (ys,some i,fs) | none=>none)
 | _=>none
def Hr (tab:bh) (T:TypeId) (cs:List C):V:=
 match cY tab T with
 | some (.st _ _ _ _)=> .agg cs
 | some _=>(match cs with | [c]=> .c c | _=> .c .undef)
 | none=> .c .undef
def CT (tab:bh) (σ:SS) (K:SS→Prop) (T:TypeId) (d k:Nat) (E:av) (i:Unit→Nat) (off:Nat):Prop:=
 match uV σ.ah k with
 | some bs=>
   match zC bs k E,qb tab T with
   | some (xs,none,_),some n=>
     if off+n≤E.sz then
      match xa E xs i k (uX (((bY E (bM E xs i)).drop off).take n) off (8*d)) (List.replicate E.sz none) (bZ bs k (.ck E xs i (List.replicate E.sz none))) with
      | some cm=>K (({σ with ah:=cm}:SS).put (some d) (Hr tab T (nD (((bY E (bM E xs i)).drop off).take n) (8*d))))
      | none=>False
     else False
   | _,_=>False
 | none=>False
inductive Sv (E:av) (t:Unit→List E.α) (K:(Unit→List E.α)→Prop):Prop where
 | mk (u:Unit→List E.α) (h:t ()=u ()) (hk:K u)
theorem Sv.iv {E:av} {t:Unit→List E.α} {K:(Unit→List E.α)→Prop} (hk:K t):Sv E t K:=⟨t,rfl,hk⟩
def zD (σ:SS) (K:SS→Prop) (k:Nat) (E:av) (xs:Unit→List E.α) (i:Unit→Nat) (fs:List (Option Nat)) (off n:Nat) (ls:List Lf) (ks:List Nat):Prop:=
 match w6 E (rH (bY E (bM E xs i)) off ls) with
 | some x=>if ls.length=n∧off+n≤E.sz∧eX (k::ks)=true then Sv E (fun _=>(xs ()).set (i ()) (x ())) fun ys=>K {σ with ah:=bZ (fR σ.ah (k::ks)) k (uW E ys i (mK fs off ls.length))} else False
 | none=>False
def CU (tab:bh) (σ:SS) (K:SS→Prop) (T:TypeId) (k:Nat) (E:av) (i:Unit→Nat) (off:Nat) (v:V):Prop:=
 match zC σ.ah k E,qb tab T,oH v with
 | some (xs,oi,fs),some n,some cs=>
   match qf σ.ah (((oD E).drop off).take n) cs with
   | some (ls,ks)=>
     match oi with
     | none=>zD σ K k E xs i fs off n ls ks
     | some i'=>Ob (fun _=>i ()=i' ()) fun _=>zD σ K k E xs i' fs off n ls ks
   | none=>False
 | _,_,_=>False
section
variable {P : Program} {tab : bh} (hT : fy P tab = true) {Γ : Ctx} {H : Hp}
theorem CV {E E':av} {t:Unit→List E'.α} {u:Unit→List E.α} (h:Lf.list E' t=Lf.list E u) {B:(E:av)→(Unit→List E.α)→Prop} (hB:B E' t):B E u:=by
 injection h with h1 h2
 subst h1;have:=eq_of_heq h2;subst this;exact hB
theorem Hs {w:World} {bs:List (Nat × an)} {ρ:aK} {D:Nat→Prop} {k:Nat} {E:av} {xs:Unit→List E.α} {oi:Option (Unit→Nat)} {fs:List (Option Nat)} (h:zC bs k E=some (xs,oi,fs))
   (hb:∀B,aP bs k=some B→cO w.heap H ρ D B (ρ k)) {i:Unit→Nat} {b o n c:Nat} (hv:(ρ k).1 = .slice (some ⟨b,o,none⟩) n c) (hi:i ()<n) :
   cO w.heap H ρ D (.ck E xs (oi.getD i) fs) (ρ k)∧n=(xs ()).length∧(∃B,aP bs k=some B∧∀x,0<(ρ k).2 x→gk B (ρ k) x)∧(oi=none→fs=List.replicate E.sz none∧aP bs k=some (.own E xs false)):=by
 unfold zC at h
 split at h
 · rename_i E' rF hg
   split at h
   · rename_i ys hc;simp only[Option.some.injEq,Prod.mk.injEq] at h;obtain⟨rfl,rfl,rfl⟩:=h;have h0:=hb _ hg;have Ht:=uR hc
     have hn:n=(ys ()).length∧cO w.heap H ρ D (.own E ys false) (ρ k):=by
      have h1:cO w.heap H ρ D (.own E ys false) (ρ k):=CV Ht (B:=fun E u=>cO w.heap H ρ D (.own E u false) (ρ k)) h0;have h2:bx w.heap (.list E ys) (ρ k).1 (ρ k).2:=h1;obtain⟨b',c',h3,_⟩:=bx.slice h2;rw[hv] at h3;simp only[Value.slice.injEq] at h3;exact⟨h3.2.1,h1⟩
     obtain⟨rfl,h1⟩:=hn
     have zE:aP bs k=some (.own E ys false):=by
      rw[hg];exact CV Ht (B:=fun E u=>some (an.own E' rF false)=some (an.own E u false)) rfl
     exact⟨Oc h1 hi (by simp),rfl,⟨_,hg,fun x hx=>hx⟩,fun _=>⟨rfl,zE⟩⟩
   · cases h
 · rename_i E' rF i' rI hg
   split at h
   · rename_i ys hc;simp only[Option.some.injEq,Prod.mk.injEq] at h;obtain⟨rfl,rfl,rfl⟩:=h;have h0:=hb _ hg;have h1:cO w.heap H ρ D (.ck E ys i' rI) (ρ k):=CV (uR hc) (B:=fun E u=>cO w.heap H ρ D (.ck E u i' rI) (ρ k)) h0
     have hn:n=(ys ()).length:=by
      obtain⟨b',o',c',_,_,_,_,h3,_⟩:=h1;rw[hv] at h3;simp only[Value.slice.injEq] at h3;exact h3.2.1
     exact⟨h1,hn,⟨_,hg,fun x hx=>hx⟩,fun h=>by cases h⟩
   · cases h
 · cases h
theorem Hu (bT:Γ.hd = []) {E:av} {xs:Unit→List E.α} {i:Unit→Nat} {k:Nat} {env:List V} {a:Act} {w:World}:∀{l:List (Nat × Nat)} {fs:List (Option Nat)} {bs cm:List (Nat × an)} {ρ:aK},
   xa E xs i k l fs bs=some cm→aM Γ H ρ {env:=env,ah:=bs} a w→aP bs k=some (.ck E xs i fs)→
   ∃ ρ',aM Γ H ρ' {env:=env,ah:=cm} a w∧(∀q,ay bs q→ay cm q∧(ρ' q).1=(ρ q).1)∧
     ∀ p∈l,ay cm p.2∧∃b o n c cs e fz,(ρ k).1 = .slice (some ⟨b,o,none⟩) n c∧w.heap[b]? = some (.cells cs e fz)∧(ρ' p.2).1=cs.getD (o+(i ()*E.sz+p.1)) Go.undef
 | [],fs,bs,cm,ρ,h,r,hk=>by
   simp only[xa,Option.some.injEq] at h;subst h;exact⟨ρ,r,fun q hq=>⟨hq,rfl⟩,fun p hp=>by cases hp⟩
 | (j, kk)::l,fs,bs,cm,ρ,h,r,hk=>by
   simp only[xa] at h
   split at h
   · rename_i E' ys hj hf ma;obtain⟨ρ1,r1,g1,g2⟩:=aM.Og bT r hk ma hj hf;have gR:ay bs k:=fP hk;have rJ:aP (bZ (dA (bZ bs k .dead) kk (.own E' ys false)) k (.ck E xs i (fs.set j (some kk)))) k=some (.ck E xs i (fs.set j (some kk))):=CJ (gx.2 (.inr (fh.2 gR)));obtain⟨ρ2,r2,g3,g4⟩:=Hu bT h r1 rJ;have Hv:∀q,ay bs q→ay (bZ (dA (bZ bs k .dead) kk (.own E' ys false)) k (.ck E xs i (fs.set j (some kk)))) q:=fun q hq=>fh.2 (gx.2 (.inr (fh.2 hq)));refine⟨ρ2,r2,fun q hq=>⟨(g3 q (Hv q hq)).1,by rw[(g3 q (Hv q hq)).2,g1 q hq]⟩,fun p hp=> ?_⟩;rcases List.mem_cons.1 hp with rfl | hp
     · have hq:=g3 kk (fh.2 (gx.2 (.inl rfl)));obtain⟨b,o,n,c,cs,e,fz,q1,q2,q3⟩:=g2;exact⟨hq.1,b,o,n,c,cs,e,fz,q1,q2,by rw[hq.2]; exact q3⟩
     · obtain⟨q0,b,o,n,c,cs,e,fz,q1,q2,q3⟩:=g4 p hp;exact⟨q0,b,o,n,c,cs,e,fz,by rw[←g1 k gR]; exact q1,q2,q3⟩
   · cases h
include hT in
theorem Oy {T:TypeId} {n:Nat} (bq:qb tab T=some n):∃i,P.info? T=some i∧i.size=n:=by
 unfold qb at bq
 split at bq
 · rename_i bc; cases bq;obtain⟨fields,_,_,i,cs,h1,h2,_⟩:=pW (cI hT bc);exact⟨i,h1,h2⟩
 · rename_i ti hne bc; cases bq
   have sc:∀{t:TypeId} {z:Z},eK P t (.sc z)=true→∃i,P.info? t=some i∧i.size=1:=fun {t z} h=>by
    obtain⟨_,i,v,h1,h2,_⟩:=pX h; exact⟨i,h1,h2⟩
   have ht:=cI hT bc;cases ti with
   | st n fs z q=>exact(hne _ _ _ _ rfl).elim
   | sl E elem bytes=>exact sc (y9 ht)
   | sc z=>exact sc ht
   | it k=>exact sc (pY ht).2
   | bt=>exact sc (ta ht).2
   | ss=>exact sc (nx ht).2
   | mp kt et=>exact sc (qW ht).2.2.2
 · cases bq
section
variable {ρ : aK} {σ : SS} {a : Act} {w : World} (r : aM Γ H ρ σ a w)
include hT r
theorem Oz (bT :Γ.hd = []) {K:SS→Prop} {T:TypeId} {d k:Nat} {E:av} {i:Unit→Nat} {off:Nat} {p:Value} (h:CT tab σ K T d k E i off) (hp:RV H ρ (ay σ.ah) (.c (.fx k E i off)) p) :
   ∃ az y ρ',K az∧aM Γ H ρ' az (a.put (some d) y) w∧(Instr.loadAt T p).run P w = .ok y w:=by
 unfold CT at h
 split at h
 · rename_i bs fA
   split at h
   · rename_i xs fs n uY bq
     split at h
     · rename_i eM
       split at h
       · rename_i cm aY;obtain⟨ρ1,r1,f1⟩:=aM.close bT r fA;obtain⟨_,b,o,n',c,hv,hi,rfl⟩:=hp;have rK:(ρ1 k).1 = .slice (some ⟨b,o,none⟩) n' c:=by rw[f1]; exact hv
         obtain⟨hB,rfl,⟨B,zF,Hw⟩,cZ⟩:=Hs (i:=i) uY (fun B hB=>r1.b.ah k B (dk hB)) rK hi;obtain⟨rfl,zE⟩:=cZ rfl;have hB:cO w.heap H ρ1 (ay bs) (.ck E xs i (List.replicate E.sz none)) (ρ1 k):=hB;have gR:ay bs k:=fP zE
         have r2:aM Γ H ρ1 {env:=σ.env,ah:=bZ bs k (.ck E xs i (List.replicate E.sz none))} a w:=
           aM.wW (σ:={env:=σ.env,ah:=bs}) r1 zE (fun _ _=>rfl) (Ext.refl _) hB (fun x hx=>hx) (fun x hx=>hx)
         obtain⟨CW,r3,g3,g4⟩:=Hu bT aY r2 (CJ gR);obtain⟨b',o',c',cs,e,fz,S,h1,h2,h3,h4,h5,h6,h7,h8,h9⟩:=hB;rw[rK] at h1;simp only[Value.slice.injEq,Option.some.injEq,Addr.mk.injEq,and_true] at h1;obtain⟨⟨rfl,rfl⟩,_,rfl⟩:=h1
         have oP:(xs ())[i ()]? = some (bM E xs i ()):=by
           simp only[bM,List.getD_eq_getElem?_getD,List.getElem?_eq_getElem h8,Option.getD_some]
         have dW:i ()*E.sz+E.sz≤(xs ()).length*E.sz:=by
           have:=Nat.mul_le_mul_right E.sz (show i ()+1≤(xs ()).length from h8)
           rwa [Nat.add_mul,Nat.one_mul] at this
         have oO:=Nat.mul_le_mul_right E.sz h5
         have cF:∀(m:Nat) cv,(nD (((bY E (bM E xs i)).drop off).take n) (8*d))[m]? = some cv→RC H CW (ay cm) cv (cs.getD (o+i ()*E.sz+off+m) Go.undef):=fun m cv hm=>by
           obtain⟨l,q1,q2⟩:=Hq (j:=off) hm;rw[List.getElem?_take,List.getElem?_drop] at q1
           split at q1
           · rename_i zG;rcases q2 with⟨q2,rfl⟩ | ⟨q,rfl,q3⟩
             · have q4:=h9 (i ()) _ oP (off+m) l q1;rw[CL (by simp)] at q4;have q5:bx w.heap l (cs.getD (o+(i ()*E.sz+(off+m))) Go.undef) (S (i ()) (off+m)):=q4;rw[show o+i ()*E.sz+off+m=o+(i ()*E.sz+(off+m)) by omega];exact q5.BN q2
             · obtain⟨q4,b2,o2,n2,c2,Hy,e2,Wg,q5,q6,q7⟩:=g4 _ q3;rw[rK] at q5;simp only[Value.slice.injEq,Option.some.injEq,Addr.mk.injEq,and_true] at q5;obtain⟨⟨rfl,rfl⟩,_,_⟩:=q5;rw[h3] at q6;cases q6;refine⟨q4, ?_⟩;rw[q7,show o+i ()*E.sz+off+m=o+(i ()*E.sz+(off+m)) by omega]
           · cases q1
         have hlen:(((bY E (bM E xs i)).drop off).take n).length=n:=by
           rw[List.length_take,List.length_drop,iL]; omega
         unfold qb at bq;unfold Hr at h
         split at bq
         · rename_i m rI z q bc;have bq:m=n:=by simpa using bq
           subst bq;rw[bc] at h;obtain⟨dd,ii,bI,jh,Cf,Hz⟩:=oG (cI hT bc);refine⟨_, .agg ((List.range ii.size).map fun j=>cs.getD (o+i ()*E.sz+off+j) Go.undef).toArray,CW,h,aM.put (v:= .agg (nD (((bY E (bM E xs i)).drop off).take m) (8*d))) r3 (x:= .agg ((List.range ii.size).map fun j=>cs.getD (o+i ()*E.sz+off+j) Go.undef).toArray) ⟨_,rfl, ?_⟩ (some d),wE bI jh Cf h3 (by rw[Hz]; omega)⟩;refine⟨by simp[CS,hlen,Hz],fun m cv hm=> ?_⟩;have zG:m<ii.size:=by have:=bC hm; rw[CS,hlen] at this; omega
           rw[Array.getD_eq_getD_getElem?];simp only[List.getElem?_toArray,List.getElem?_map,List.getElem?_range zG,Option.map_some,Option.getD_some];exact cF m cv hm
         · rename_i ti hne bc;simp only[Option.some.injEq] at bq;subst bq;rw[bc] at h;obtain⟨dd,ii,bI,jh⟩:=oG (cI hT bc)
           have jh:kj dd=false:=by
             split at jh
             · exact(hne _ _ _ _ rfl).elim
             · exact jh
           have aQ:o+i ()*E.sz+off<cs.size:=by omega
           refine⟨_,cs.getD (o+i ()*E.sz+off) Go.undef,CW,h,aM.put r3 ?_ (some d),wD bI jh h3 (getD_some aQ)⟩
           split
           · rename_i heq;cases heq;exact(hne _ _ _ _ rfl).elim
           · split
             · rename_i cv l_;exact cF 0 cv (by rw[l_]; rfl)
             · trivial
           · rename_i hh; cases hh
         · cases bq
       · cases h
     · cases h
   · cases h
 · cases h
theorem HA {K :SS→Prop} {T:TypeId} {k:Nat} (hne:∀p∈Γ.hd,p.1≠k) {E:av} {i:Unit→Nat} {off:Nat} {v:V} {p u:Value} (h:CU tab σ K T k E i off v) (hp:RV H ρ (ay σ.ah) (.c (.fx k E i off)) p) (hv:RV H ρ (ay σ.ah) v u) :
   ∃ az w' ρ',K az∧aM Γ H ρ' az a w'∧(∀y,(ρ k).2 y=0→w'.heap[y]? = w.heap[y]?)∧(Instr.storeAt T p u).run P w = .ok () w':=by
 have key : ∀ {xs:Unit→List E.α} {i':Unit→Nat} {fs:List (Option Nat)} {n:Nat} {ls:List Lf} {ks:List Nat} {cs:List C} {b o n' c:Nat},(ρ k).1 = .slice (some ⟨b,o,none⟩) n' c→i ()=i' ()→p = .pointer (some ⟨b,o+i ()*E.sz+off,none⟩)→ay σ.ah k→
     cO w.heap H ρ (ay σ.ah) (.ck E xs i' fs) (ρ k)→(∀x,0<(ρ k).2 x→H x=none)→qb tab T=some n→oH v=some cs→qf σ.ah (((oD E).drop off).take n) cs=some (ls,ks)→zD σ K k E xs i' fs off n ls ks→
     ∃ az w' ρ',K az∧aM Γ H ρ' az a w'∧(∀y,(ρ k).2 y=0→w'.heap[y]? = w.heap[y]?)∧(Instr.storeAt T p u).run P w = .ok () w':=by
   intro xs i' fs n ls ks cs b o n' c eY wF kV gR hB rG bq dB qj mc;unfold zD at mc
   split at mc
   · rename_i x hx
     split at mc
     · rename_i tf;obtain⟨OA,eM,hn⟩:=tf
       have hc:=hv.cells dB fun k hk=>by
        rw[hk] at hv;exact wJ r hv
       obtain⟨S,g1,g2,g3,g4,g5⟩:=CG r qj (f:=fun j=>u.cells.getD j Go.undef) hc.2;have hu:u.cells.toList.length=ls.length:=by rw[Array.length_toList,hc.1,g2]
       have oQ :bY E x=rH (bY E (bM E xs i')) off ls:=CE hx fun t ht=>by
        have OB:(rH (bY E (bM E xs i')) off ls).length=E.sz:=by
          simp only[rH,List.length_append,List.length_take,List.length_drop,iL]; omega
        have h1:E.sz=1:=by rw[←OB,ht]; rfl
        have hint:∀(v:Value) (T:Nat→Nat),bx w.heap (.int .u8 t) v T→IntKind.u8.has (t ()):=fun v T h=>by
          cases h with
          | int hr=>exact hr
        have h0:(rH (bY E (bM E xs i')) off ls)[0]? = some (.int .u8 t):=by rw[ht]; rfl
        rw[Hn (by rw[iL]; omega)] at h0
        split at h0
        · exact hint _ _ (g5 _ _ h0)
        · obtain⟨b',o',c',lx,e,fz,S',uC,h2,h3,h4,h5,h6,h7,h8,h9⟩:=hB
          have oP:(xs ())[i' ()]? = some (bM E xs i' ()):=by
           simp only[bM,List.getD_eq_getElem?_getD,List.getElem?_eq_getElem h8,Option.getD_some]
          have OC:IntKind.u8.has (t ()):=by
           cases E <;> first | (exfalso; simp only[av.sz] at h1; omega) | skip
           · simp[bY] at h0
           · simp only[bY,List.getElem?_cons_zero,Option.some.injEq,Lf.int.injEq,true_and] at h0;subst h0;refine wC.2 ⟨?_, ?_⟩
             · show(0:Int)≤((bM .byte xs i' ()).toNat:Int);omega
             · show((bM .byte xs i' ()).toNat:Int)≤255;have:=(bM .byte xs i' ()).toNat_lt;omega
           · simp[bY] at h0
           · simp[bY] at h0
          exact OC
       obtain⟨w',g6,g8,ρ',g7⟩:=r.Ot (P:=P) hne hn gR hB rG g3 eY hu (by omega) (T:=fun j=>S.getD j fun _=>0) (fun j l hj=>by
          have:=g5 j l hj;rw[List.getD_eq_getElem?_getD,Array.getElem?_toList,←Array.getD_eq_getD_getElem?];exact this) (fun y=>by rw[←g4 y,←CF,g1]) oQ
       obtain⟨ii,OD,Cw⟩:=Oy hT bq;obtain⟨u',CQ,mc⟩:=mc;have he:(fun _=>(xs ()).set (i' ()) (x ()))=u':=funext fun _=>CQ;rw[he] at g7;refine⟨_,w',ρ',mc,g7,g8, ?_⟩;have OE:¬(u.cells.size≠ii.size):=by rw[hc.1,←g2,OA,Cw]; simp
       rw[←wF] at g6;simp only[kV,Instr.storeAt,Instr.sureAddr,storeVar,Sem.run_bind,Sem.run_pure,Result.andThen_ok,mG w OD];rw[if_neg OE];exact g6
     · cases mc
   · cases mc
 unfold CU at h;obtain⟨_,b,o,n',c,eY,hi,kV⟩:=hp
 split at h
 · rename_i xs oi fs n cs uY bq dB;obtain⟨hB,rfl,⟨B,zF,Hw⟩,cZ⟩:=Hs (i:=i) uY (fun B hB=>r.b.ah k B (dk hB)) eY hi;have rG:∀x,0<(ρ k).2 x→H x=none:=fun x hx=>r.b.im k B (dk zF) x (Hw x hx)
   split at h
   · rename_i ls ks qj
     split at h
     · exact key eY rfl kV (fP zF) hB rG bq dB qj h
     · rename_i i';obtain⟨wF,h⟩:=h;exact key eY wF kV (fP zF) hB rG bq dB qj h
   · cases h
 · cases h
end
end
end Go.Proofs.YtpklefhdkkegiaaGreat

