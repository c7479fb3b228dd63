/- Parts of a proof. No conditions. -/

import Derived.Test.YtpklefhdkkegiaaGreatGJoin
import Derived.ProofKit
set_option linter.unusedSimpArgs false
set_option linter.unusedVariables false
namespace Go.Proofs.YtpklefhdkkegiaaGreat
open Go
inductive KT where
 | i (k:IntKind)
 | bo
 | st
 | sl (E:an)
deriving DecidableEq
@[reducible] def KT.α:KT→Type
 | .i _=>Int
 | .bo=>Bool
 | .st=>List UInt8
 | .sl E=>List E.α
def KT.mk:(k:KT)→(Unit→k.α)→Lf
 | .i k,x=> .int k x
 | .bo,x=> .bool x
 | .st,x=> .str x
 | .sl E,x=> .list E x
def xw:an→List KT
 | .int=>[.i .i64]
 | .byte=>[.i .u8]
 | .str=>[.st]
 | .aI=>List.replicate 2 (.i .i64)
 | .aH=>List.replicate 4 (.i .i64)
 | .aB=>List.replicate 10 (.i .i64)
 | .cw=>[.sl .aI]
 | .ah=>List.replicate 5 (.i .i64) ++ [.sl .aH, .sl .cw]
 | .fC=>List.replicate 6 (.i .i64)
 | .rep=>[.i .i64, .sl .int]
def Cells (H:Hp) (ks:List KT) (cs:List Value):Prop:=cs.length=ks.length∧∀(j:Nat) k,ks[j]? = some k→∃x:k.α,RL H (k.mk fun _=>x) (cs.getD j Go.undef)
theorem Cells.head {H:Hp} {k:KT} {ks:List KT} {cs:List Value} (h:Cells H (k::ks) cs):∃(x:k.α) (c:Value) (jD:List Value),cs=c::jD∧RL H (k.mk fun _=>x) c∧Cells H ks jD:=by
 obtain⟨h1,h2⟩:=h;cases cs with
 | nil=>simp at h1
 | cons c cs=>
   obtain⟨x,hx⟩:=h2 0 k rfl;exact⟨x,c,cs,rfl,by simpa using hx,by simpa using h1,fun j k hj=>by simpa using h2 (j+1) k (by simpa using hj)⟩
theorem Cells.app {H:Hp} {ks js:List KT} {cs ds:List Value} (h:Cells H ks cs) (g:Cells H js ds):Cells H (ks++js) (cs++ds):=by
 refine⟨by simp[h.1,g.1],fun j k hj=> ?_⟩;rcases Nat.lt_or_ge j ks.length with aR | ku
 · rw[List.getElem?_append_left aR] at hj;obtain⟨x,hx⟩:=h.2 j k hj;refine⟨x, ?_⟩;rw[List.getD_eq_getElem?_getD,List.getElem?_append_left (by rw[h.1]; exact aR),←List.getD_eq_getElem?_getD];exact hx
 · rw[List.getElem?_append_right ku] at hj;obtain⟨x,hx⟩:=g.2 _ k hj;refine⟨x, ?_⟩;rw[List.getD_eq_getElem?_getD,List.getElem?_append_right (by rw[h.1]; exact ku),h.1,←List.getD_eq_getElem?_getD];exact hx
theorem Cells.elem {H:Hp} {E:an} {cs:List Value} (h:Cells H (xw E) cs):∃x:E.α,∀(j:Nat) l,(bH E fun _=>x)[j]? = some l→RL H l (cs.getD j Go.undef):=by
 cases E with
 | int=>
   obtain⟨x,c,cs,rfl,h1,h⟩:=h.head;exact⟨x,fun j l hj=>by match j,hj with | 0,hj=>cases hj; exact h1⟩
 | byte =>
   obtain⟨x,c,cs,rfl,h1,h⟩:=h.head
   refine⟨UInt8.ofNat x.toNat,fun j l hj=>by
    match j,hj with
    | 0,hj=>
      cases hj;have hx:IntKind.u8.has x:=by have:=(RL.of_int h1).2; exact this
      have e:(fun _:Unit=>((UInt8.ofNat (Int.toNat x)).toNat:Int))=fun _=>x:=by funext _; exact Dv hx
      show RL H (.int .u8 (fun _:Unit=>((UInt8.ofNat (Int.toNat x)).toNat:Int))) c;rw[e];exact h1⟩
 | str=>
   obtain⟨x,c,cs,rfl,h1,h⟩:=h.head;exact⟨x,fun j l hj=>by match j,hj with | 0,hj=>cases hj; exact h1⟩
 | aI =>
   obtain⟨x0,c0,cs,rfl,h0,h⟩:=h.head;obtain⟨x1,c1,cs,rfl,h1,h⟩:=h.head
   exact⟨⟨x0,x1⟩,fun j l hj=>by
    match j,hj with
    | 0,hj=>cases hj; exact h0
    | 1,hj=>cases hj; exact h1⟩
 | aH =>
   obtain⟨x0,c0,cs,rfl,h0,h⟩:=h.head;obtain⟨x1,c1,cs,rfl,h1,h⟩:=h.head;obtain⟨x2,c2,cs,rfl,h2,h⟩:=h.head;obtain⟨x3,c3,cs,rfl,h3,h⟩:=h.head
   exact⟨⟨x0,x1,x2,x3⟩,fun j l hj=>by
    match j,hj with
    | 0,hj=>cases hj; exact h0
    | 1,hj=>cases hj; exact h1
    | 2,hj=>cases hj; exact h2
    | 3,hj=>cases hj; exact h3⟩
 | aB =>
   obtain⟨x0,c0,cs,rfl,h0,h⟩:=h.head;obtain⟨x1,c1,cs,rfl,h1,h⟩:=h.head;obtain⟨x2,c2,cs,rfl,h2,h⟩:=h.head;obtain⟨x3,c3,cs,rfl,h3,h⟩:=h.head;obtain⟨x4,c4,cs,rfl,h4,h⟩:=h.head;obtain⟨x5,c5,cs,rfl,h5,h⟩:=h.head;obtain⟨x6,c6,cs,rfl,h6,h⟩:=h.head;obtain⟨x7,c7,cs,rfl,h7,h⟩:=h.head;obtain⟨x8,c8,cs,rfl,h8,h⟩:=h.head;obtain⟨x9,c9,cs,rfl,h9,h⟩:=h.head
   exact⟨⟨x0,x1,x2,x3,x4,x5,x6,x7,x8,x9⟩,fun j l hj=>by
    match j,hj with
    | 0,hj=>cases hj; exact h0
    | 1,hj=>cases hj; exact h1
    | 2,hj=>cases hj; exact h2
    | 3,hj=>cases hj; exact h3
    | 4,hj=>cases hj; exact h4
    | 5,hj=>cases hj; exact h5
    | 6,hj=>cases hj; exact h6
    | 7,hj=>cases hj; exact h7
    | 8,hj=>cases hj; exact h8
    | 9,hj=>cases hj; exact h9⟩
 | cw=>
   obtain⟨x,c,cs,rfl,h1,h⟩:=h.head;exact⟨x,fun j l hj=>by match j,hj with | 0,hj=>cases hj; exact h1⟩
 | ah =>
   obtain⟨x0,c0,cs,rfl,h0,h⟩:=h.head;obtain⟨x1,c1,cs,rfl,h1,h⟩:=h.head;obtain⟨x2,c2,cs,rfl,h2,h⟩:=h.head;obtain⟨x3,c3,cs,rfl,h3,h⟩:=h.head;obtain⟨x4,c4,cs,rfl,h4,h⟩:=h.head;obtain⟨x5,c5,cs,rfl,h5,h⟩:=h.head;obtain⟨x6,c6,cs,rfl,h6,h⟩:=h.head
   exact⟨⟨⟨x0,x1,x2,x3,x4⟩,x5,x6⟩,fun j l hj=>by
    match j,hj with
    | 0,hj=>cases hj; exact h0
    | 1,hj=>cases hj; exact h1
    | 2,hj=>cases hj; exact h2
    | 3,hj=>cases hj; exact h3
    | 4,hj=>cases hj; exact h4
    | 5,hj=>cases hj; exact h5
    | 6,hj=>cases hj; exact h6⟩
 | fC =>
   obtain⟨x0,c0,cs,rfl,h0,h⟩:=h.head;obtain⟨x1,c1,cs,rfl,h1,h⟩:=h.head;obtain⟨x2,c2,cs,rfl,h2,h⟩:=h.head;obtain⟨x3,c3,cs,rfl,h3,h⟩:=h.head;obtain⟨x4,c4,cs,rfl,h4,h⟩:=h.head;obtain⟨x5,c5,cs,rfl,h5,h⟩:=h.head
   exact⟨⟨x0,x1,x2,x3,x4,x5⟩,fun j l hj=>by
    match j,hj with
    | 0,hj=>cases hj; exact h0
    | 1,hj=>cases hj; exact h1
    | 2,hj=>cases hj; exact h2
    | 3,hj=>cases hj; exact h3
    | 4,hj=>cases hj; exact h4
    | 5,hj=>cases hj; exact h5⟩
 | rep=>
   obtain⟨x0,c0,cs,rfl,h0,h⟩:=h.head;obtain⟨x1,c1,cs,rfl,h1,h⟩:=h.head
   exact⟨⟨x0,x1⟩,fun j l hj=>by
    match j,hj with
    | 0,hj=>cases hj; exact h0
    | 1,hj=>cases hj; exact h1⟩
def uY (f:TypeId→Option (List KT)) (sz:TypeId→Nat):List Field→Nat→Option (List KT)
 | [],_=>some []
 | d ::ds,n=>
   match f d.type with
   | some ks=>if d.offset=n∧sz d.type=ks.length then(match uY f sz ds (n+ks.length) with | some js=>some (ks++js) | none=>none) else none
   | none=>none
def pY (P:Program) (tab:aX):Nat→TypeId→Option (List KT)
 | 0,_=>none
 | n + 1,t=>
   match P.underlying t with
   | some (.int k)=>some [.i k]
   | some .bool=>some [.bo]
   | some .string=>some [.st]
   | some (.slice _)=>(match cz tab t with | some (.sl E _ _)=>some [.sl E] | _=>none)
   | some (.struct fs)=>(match uY (pY P tab n) P.cellsOf fs.toList 0 with | some ks=>if ks.length=P.cellsOf t then some ks else none | none=>none)
   | _=>none
def AT (P:Program) (tab:aX):Bool:=tab.ts.all fun p=>match p.2 with
 | .sl E elem _=>decide (pY P tab 4 elem=some (xw E)) && decide (P.cellsOf elem=E.sz)
 | _=>true
theorem LR {q:Nat × TI→Bool} {ts:List (Nat × TI)} (h:ts.all q=true) {n:Nat} {ti:TI} (hg:oO ts n=some ti):q (n,ti)=true:=by
 induction ts with
 | nil=>simp[oO] at hg
 | cons p r ih=>
   simp only[List.all_cons,Bool.and_eq_true] at h;simp only[oO] at hg
   split at hg
   · rename_i hn; cases hg; subst hn; exact h.1
   · exact ih h.2 hg
theorem LS {q:Nat × TI→Bool} {tab:aX} (h:tab.ts.all q=true) {n:Nat} {ti:TI} (hg:cz tab n=some ti):q (n,ti)=true:=LR h hg
theorem mapM_some {α β:Type} {f:α→Option β}:∀{l:List α} {ys:List β},l.mapM f=some ys→∀x∈l,∃y,f x=some y
 | [],_,_,x,hx=>by cases hx
 | a :: l,ys,h,x,hx=>by
   rw[List.mapM_cons] at h;cases ha:f a with
   | none=>simp[ha] at h
   | some b=>
     cases hl:l.mapM f with
     | none=>simp[ha,hl] at h
     | some bs=>
       cases hx with
       | head=>exact⟨b,ha⟩
       | tail _ hx=>exact mapM_some hl x hx
theorem FF {α β:Type} {f:α→Option β}:∀{l:List α} {ys:List β},l.mapM f=some ys→ys.length=l.length∧∀(j:Nat) x,l[j]? = some x→f x=ys[j]?
 | [],ys,h=>by
   simp at h; subst h;exact⟨rfl,fun j x hx=>by simp at hx⟩
 | a :: l,ys,h=>by
   rw[List.mapM_cons] at h;cases ha:f a with
   | none=>simp[ha] at h
   | some b=>
     cases hl:l.mapM f with
     | none=>simp[ha,hl] at h
     | some bs=>
       simp[ha,hl] at h;subst h;obtain⟨h1,h2⟩:=FF hl;refine⟨by simp[h1],fun j x hx=> ?_⟩;cases j with
       | zero=>simp at hx; subst hx; simpa using ha
       | succ j=>simp at hx; simpa using h2 j x hx
section
variable {H' : Type} {enc : TypeId × Value → H'} {P : Program} {tab : aX} {w : World} {base : Nat} {sp : Nat → Bool} {held : Bool}
theorem FG {f:TypeId→Option (List KT)} {cs:List Value}:∀{ds:List Field} {n:Nat} {ks:List KT},uY f P.cellsOf ds n=some ks→n+ks.length≤cs.length→
   (∀d∈ds,∀js,f d.type=some js→Cells (fun b=>w.heap[b]?) js ((cs.drop d.offset).take (P.cellsOf d.type)))→Cells (fun b=>w.heap[b]?) ks ((cs.drop n).take ks.length)
 | [],n,ks,h,_,_=>by
   simp only[uY,Option.some.injEq] at h;subst h;exact⟨by simp,fun j k hj=>by simp at hj⟩
 | d :: ds,n,ks,h,hl,hf=>by
   simp only[uY] at h
   split at h
   · rename_i LU h1
     split at h
     · rename_i hc
       split at h
       · rename_i js h2;cases h;rw[List.length_append] at hl;have g1:=hf d List.mem_cons_self LU h1;rw[hc.1,hc.2] at g1;have g2:=FG h2 (by omega) fun d hd=>hf d (List.mem_cons_of_mem _ hd);have:=g1.app g2;rw[List.length_append,List.take_add,List.drop_drop];exact this
       · cases h
     · cases h
   · cases h
theorem AU (hT :eC P tab=true) (hB:AT P tab=true) (xx:maxLen=cm):∀(fuel:Nat) {t:TypeId} {cs:List Value} {x:DataW H' × List MemPlace} {n:Nat} {ks:List KT},DataW.trod enc P w base sp held fuel t cs=some x→pY P tab n t=some ks→
   Cells (fun b=>w.heap[b]?) ks cs
 | 0,_,_,_,_,_,h,_=>by simp[DataW.trod] at h
 | fuel+1,t,cs,x,0,ks,h,hk=>by simp[pY] at hk
 | fuel + 1, t, cs,x,n+1,ks,h,hk=>by
   have one:∀{k:KT} {v:Value} (y:k.α),RL (fun b=>w.heap[b]?) (k.mk fun _=>y) v→Cells (fun b=>w.heap[b]?) [k] [v]:=fun {k v} y hy=>
     ⟨rfl,fun j k' hj=>by
       cases j with
       | zero=>simp at hj; subst hj; exact⟨y,by simpa using hy⟩
       | succ j=>simp at hj⟩
   unfold DataW.trod at h;unfold pY at hk
   split at h
   · rename_i b hu; rw[hu] at hk; cases hk; exact one (k:= .bo) b (RL.bool (t:=fun _=>b))
   · rename_i k k' m hu;rw[hu] at hk; cases hk
     split at h
     · rename_i hc;obtain⟨rfl,LV⟩:=hc;exact one (k:= .i k') m (LQ (ρ:=fun _=>default) (D:=fun _=>False) LV)
     · cases h
   · rename_i hu; rw[hu] at hk; cases hk
   · rename_i s hu;rw[hu] at hk; cases hk
     split at h
     · rename_i hs;have:=RL.str (H:=fun b=>w.heap[b]?) (t:=fun _=>s.data.toList) (by rw[←xx,Array.length_toList]; exact hs);refine one (k:= .st) s.data.toList ?_;simpa [KT.mk] using this
     · cases h
   · rename_i hu; rw[hu] at hk; cases hk
   · rename_i hu; rw[hu] at hk; cases hk
   · rename_i e hu;rw[hu] at hk;simp only at hk
     split at hk
     · rename_i E elem bytes ht;cases hk;exact one (k:= .sl E) [] (RL.nil rfl)
     · cases hk
   · rename_i e a len cap hu;rw[hu] at hk;simp only at hk
     split at hk
     · rename_i E elem bytes ht;cases hk
       by_cases hc:base≤a.block∧len≤cap∧cap≤maxLen
       · simp only[if_pos hc,Option.bind_eq_some_iff] at h;obtain⟨elems,h1, -⟩:=h;have hU:=(iy hT ht).1;rw[hu] at hU;cases hU
         obtain⟨LW,aY⟩:pY P tab 4 e=some (xw E)∧P.cellsOf e=E.sz:=by
           have:=LS (q:=fun p=>match p.2 with | .sl E elem _=>decide (pY P tab 4 elem=some (xw E)) && decide (P.cellsOf elem=E.sz) | _=>true) hB ht;simpa using this
         have LX:len≤cm:=by rw[←xx]; omega
         rcases Nat.eq_zero_or_pos len with h0 | h0
         · subst h0;exact one (k:= .sl E) [] (RL.nil rfl)
         · have r_:∀i,i<len→∃cells x,w.cells? base (a.add (i*E.sz)) E.sz=some cells∧(∀(j:Nat) l,(bH E fun _=>x)[j]? = some l→RL (fun b=>w.heap[b]?) l (cells.getD j Go.undef)):=fun i hi=>by
            obtain⟨y,hy⟩:=mapM_some h1 i (List.mem_range.2 hi);rw[aY,Option.bind_eq_some_iff] at hy;obtain⟨cells,g1,g2⟩:=hy;obtain⟨x,hx⟩:=(AU hT hB xx fuel g2 LW).elem;exact⟨cells,x,g1,hx⟩
           have mI:∀i,i<len→∀cells,w.cells? base (a.add (i*E.sz)) E.sz=some cells→cells.length=E.sz∧∀j,j<E.sz→w.cell? ((a.add (i*E.sz)).add j)=cells[j]? :=fun i _ cells g1=>by
            unfold World.cells? at g1
            split at g1
            · obtain⟨g2,g3⟩:=FF g1;refine⟨by simpa using g2,fun j hj=>g3 j j ?_⟩;rw[List.getElem?_range hj]
            · cases g1
           have hp:=tA E;obtain⟨b,off,spot⟩:=a
           have LY:spot=none∧∃vs e fz,w.heap[b]? = some (.cells vs e fz):=by
            obtain⟨cells,x,g1,_⟩:=r_ 0 h0;obtain⟨g2,g3⟩:=mI 0 h0 cells g1;have g4:=g3 0 hp;rw[List.getElem?_eq_getElem (by omega)] at g4;cases spot with
            | none=>
              refine⟨rfl, ?_⟩;simp only[dS] at g4;unfold World.cell? at g4
              split at g4
              · rename_i vs e fz hb; exact⟨vs,e,fz,hb⟩
              · cases g4
            | some s=>
              exfalso;unfold World.cell? at g4
              split at g4
              · simp[Addr.add] at g4
              · cases g4
           obtain⟨rfl,vs,e0,fz,hb⟩:=LY
           have eD:∀i,i<len→∃x:E.α,∀(j:Nat) l,(bH E fun _=>x)[j]? = some l→off+i*E.sz+j<vs.size∧RL (fun b=>w.heap[b]?) l (vs.getD (off+i*E.sz+j) Go.undef):=fun i hi=>by
            obtain⟨cells,x,g1,g2⟩:=r_ i hi;obtain⟨g3,g4⟩:=mI i hi cells g1;refine⟨x,fun j l hj=> ?_⟩;have gF:=mD hj;have g5:=g4 j gF;simp only[dS] at g5;rw[List.getElem?_eq_getElem (show j<cells.length by omega)] at g5;simp only[World.cell?,hb] at g5;have g6:vs[off+i*E.sz+j]? = some cells[j]:=by simpa using g5
            have g7:=jh g6;refine⟨g7, ?_⟩;have g8:=g2 j l hj;rw[List.getD_eq_getElem?_getD,List.getElem?_eq_getElem (show j<cells.length by omega)] at g8;rw[Array.getD_eq_getD_getElem?,g6];exact g8
           have LZ:∃g:Nat→E.α,∀i,i<len→∀(j:Nat) l,(bH E fun _=>g i)[j]? = some l→off+i*E.sz+j<vs.size∧RL (fun b=>w.heap[b]?) l (vs.getD (off+i*E.sz+j) Go.undef):=by
            refine⟨fun i=>if hi:i<len then Classical.choose (eD i hi) else E.j_,fun i hi=> ?_⟩;simp only[dif_pos hi];exact Classical.choose_spec (eD i hi)
           obtain⟨g,hg⟩:=LZ;have hlen:((List.range len).map g).length=len:=by simp
           have L0:off+len*E.sz≤vs.size:=by
            have hj:E.sz - 1<(bH E fun _=>g (len - 1)).length:=by rw[gm]; omega
            have:=(hg (len - 1) (by omega) (E.sz - 1) _ (List.getElem?_eq_getElem hj)).1
            have e1:len*E.sz=(len - 1)*E.sz+E.sz:=by
              rw[←Nat.succ_mul]; congr 1; omega
            omega
           have FH:=RL.list (H:=fun b=>w.heap[b]?) (E:=E) (t:=fun _=>(List.range len).map g) (b:=b) (off:=off) (c:=cap) hb (by rw[hlen]; exact hc.2.1) (by rw[hlen]; exact LX) (by rw[hlen]; exact L0)
            (fun i x hx j l hj=>by
              have hi:i<len:=by have:=bD hx; rwa [hlen] at this
              rw[List.getElem?_map,List.getElem?_range hi] at hx;cases hx;exact(hg i hi j l hj).2)
           rw[hlen] at FH;exact one (k:= .sl E) _ FH
       · simp only[if_neg hc] at h; cases h
     · cases hk
   · rename_i fs hu;rw[hu] at hk;simp only at hk
     split at hk
     · rename_i wI L1
       split at hk
       · rename_i hlen;cases hk
         split at h
         · rename_i eJ;rw[Option.map_eq_some_iff] at h;obtain⟨xs,h1,_⟩:=h
           have:=FG (P:=P) (w:=w) (cs:=_) L1 (by rw[Nat.zero_add,hlen,←eJ]; exact Nat.le_refl _) fun d hd js L2=>by
            obtain⟨y,hy⟩:=mapM_some h1 d hd;exact AU hT hB xx fuel hy L2
           rw[List.drop_zero,hlen,←eJ,List.take_length] at this;exact this
         · cases h
       · cases hk
     · cases hk
   all_goals first
     | (cases h; done)
     | (rename_i hu; rw[hu] at hk; simp only at hk; cases hk; done)
     | (rename_i hu _; rw[hu] at hk; simp only at hk; cases hk; done)
     | (rename_i hu _ _; rw[hu] at hk; simp only at hk; cases hk; done)
     | skip
end
end Go.Proofs.YtpklefhdkkegiaaGreat

