/- Parts of a proof. No conditions. -/

import Derived.Test.YtpklefhdkkegiaaGreatG04
import Derived.Laws.IdiomCopy
import Derived.Deep.RegionLaw
import Derived.Lib.Overlaps
import Derived.Lib.AppendZerosOnto
import Derived.Laws.Externs
set_option linter.unusedSimpArgs false
set_option linter.unusedVariables false
namespace Go.Proofs.YtpklefhdkkegiaaGreat
open Go
theorem bj.vt {h h':Array Obj} {E:an} {xs:List E.α} {cs:Nat→Value} {S:Nat→Nat→Nat→Nat} (hs:bj h E xs cs S) (hf:jB E=true):bj h' E xs cs fun _ _ _=>0:=fun i x hx j l hj=>
 ((hs i x hx j l hj).qP (nO hf hj)).mono fun _ hb=>absurd hb (Nat.lt_irrefl 0)
theorem N2 {h:Array Obj} {E:an} {xs:List E.α} {cs ds:Nat→Value} {S:Nat→Nat→Nat→Nat} (hf:jB E=true) (hs:bj h E xs cs S) {i:Nat} (hi:i<xs.length)
   (h1:∀q,q<i*E.sz→ds q=cs q) (h2:∀q,i*E.sz≤q→q<(xs.length - 1)*E.sz→ds q=cs (q+E.sz)):bj h E (xs.take i++xs.drop (i+1)) ds fun _ _ _=>0:=by
 intro t x hx j l hj;have aR:=bD hx;rw[List.length_append,List.length_take,List.length_drop] at aR;have sU:=mD hj;rcases Nat.lt_or_ge t i with ht | ht
 · rw[List.getElem?_append_left (by rw[List.length_take]; omega),List.getElem?_take,if_pos ht] at hx;rw[h1 _ (pc ht sU)];exact(hs t x hx j l hj).qP (nO hf hj)
 · rw[List.getElem?_append_right (by rw[List.length_take]; omega),List.getElem?_drop,List.length_take] at hx;rw[show i+1+(t - min i xs.length)=t+1 by omega] at hx;have e1:i*E.sz≤t*E.sz:=Nat.mul_le_mul_right _ ht;have e2:=pc (n:=xs.length - 1) (by omega:t<xs.length - 1) sU;rw[h2 _ (by omega) e2,show t*E.sz+j+E.sz=(t+1)*E.sz+j by rw[Nat.add_mul]; omega];exact(hs (t+1) x hx j l hj).qP (nO hf hj)
theorem G4 {h:Array Obj} {E:an} {xs:List E.α} {y:E.α} {cs ds us:Nat→Value} {S T:Nat→Nat→Nat→Nat} (hf:jB E=true) (hs:bj h E xs cs S) (hy:bj h E [y] us T) {i:Nat} (hi:i≤xs.length)
   (h1:∀q,q<i*E.sz→ds q=cs q) (h2:∀q,q<E.sz→ds (i*E.sz+q)=us q) (h3:∀q,i*E.sz≤q→q<xs.length*E.sz→ds (q+E.sz)=cs q):bj h E (xs.take i++y::xs.drop i) ds fun _ _ _=>0:=by
 intro t x hx j l hj;have aR:=bD hx;rw[List.length_append,List.length_take,List.length_cons,List.length_drop] at aR;have sU:=mD hj;rcases Nat.lt_or_ge t i with ht | ht
 · rw[List.getElem?_append_left (by rw[List.length_take]; omega),List.getElem?_take,if_pos ht] at hx;rw[h1 _ (pc ht sU)];exact(hs t x hx j l hj).qP (nO hf hj)
 · rw [List.getElem?_append_right (by rw[List.length_take]; omega),List.length_take,show min i xs.length=i by omega] at hx;rcases Nat.lt_or_ge i t with aU | aU
   · obtain⟨m,rfl⟩:∃m,t=m+1:=⟨t - 1,by omega⟩;rw[show m+1 - i=(m - i)+1 by omega,List.getElem?_cons_succ,List.getElem?_drop,show i+(m - i)=m by omega] at hx;have e1:i*E.sz≤m*E.sz:=Nat.mul_le_mul_right _ (by omega);have e2:=pc (bD hx) sU;rw[show(m+1)*E.sz+j=m*E.sz+j+E.sz by rw[Nat.add_mul]; omega,h3 _ (by omega) e2];exact(hs m x hx j l hj).qP (nO hf hj)
   · obtain rfl:t=i:=by omega
     rw[Nat.sub_self,List.getElem?_cons_zero] at hx;cases hx;rw[h2 _ sU];have:=hy 0 y rfl j l hj;rw[Nat.zero_mul,Nat.zero_add] at this;exact this.qP (nO hf hj)
theorem sV {P:Program} {f:FuncId} {as:List V} {bs:List (Nat × ak)} {E:an} {ys:List E.α} (hc:y4 P f) (hk:∀k,av bs k→k<100)
   (h :∀(w:World) (vs:Array Value) (ρ:aF),fl w.heap (eI w (aP ρ bs)) (eI w (aP ρ bs)) ρ bs→args (eI w (aP ρ bs)) ρ (av bs) as vs→Calls P f vs w fun e w'=>
     ∃ v q,e = .returned v∧bc w'.heap (.list E fun _=>ys) v q∧Ext w w'∧(∀x,x<w.heap.size→aP ρ bs x=0→w'.heap[x]? = w.heap[x]?)∧(∀x,x<w.heap.size→q x≤aP ρ bs x)∧∀x,q x≤1) :
   bY P f as bs (eV (lR E fun _=>ys) []):=by
 refine⟨hc,fun w vs ρ hr ha=>(h w vs ρ hr ha).mono fun e w' he=> ?_⟩;obtain⟨v,q,he,ho,hx,mN,hq,h1⟩:=he
 have aR:∀x o,eI w (aP ρ bs) x=some o→x<w.heap.size∧aP ρ bs x=0∧w.heap[x]? = some o:=fun x o hx=>by
   unfold eI at hx
   split at hx
   · rename_i h0;refine⟨?_,h0,hx⟩;rcases Nat.lt_or_ge x w.heap.size with h' | h'
     · exact h'
     · rw[Array.getElem?_eq_none h'] at hx; cases hx
   · cases hx
 have G5:∀x,0<q x→eI w (aP ρ bs) x=none:=fun x hp=>by
   cases hh:eI w (aP ρ bs) x with
   | none=>rfl
   | some o=>
     obtain⟨h2,h3,_⟩:=aR x o hh;have:=hq x h2;omega
 refine⟨v, .c (.own 100),[(100, .own E (fun _=>ys) false)],eI w (aP ρ bs),fun k=>if k=100 then(v,q) else ρ k,he,⟨rfl,rfl⟩, ?_, ?_,hx, ?_⟩
 · refine⟨?_,by simp,fun _ _ h=>h,fun x o hx=> ?_, ?_,fun x=> ?_, ?_, ?_⟩
   · intro k hk;have hk:k=100:=by simpa [av] using hk
     subst hk;exact ho.one
   · obtain⟨h2,h3,h4⟩:=aR x o hx;rw[mN x h2 h3]; exact h4
   · intro k B hm;have hm:k=100∧B = .own E (fun _=>ys) false:=by simpa using hm
     obtain⟨rfl,rfl⟩:=hm;exact ho
   · show q x+0≤1;exact h1 x
   · intro k B hm x hp;have hm:k=100∧B = .own E (fun _=>ys) false:=by simpa using hm
     obtain⟨rfl,rfl⟩:=hm;exact G5 x hp
   · intro k B hm x hp;have hm:k=100∧B = .own E (fun _=>ys) false:=by simpa using hm
     obtain⟨rfl,rfl⟩:=hm;exact G5 x hp
 · exact⟨by simp[av],rfl⟩
 · intro k h1 h2;have h1:k=100:=by simpa [av] using h1
   have:=hk k h2;omega
theorem BF {P:Program} {ops:Array Oper} {o:Oper} {a:Act} {w:World} {K:Act→World→Prop} {Q:Exit→Act→World→Prop} {E:Prop}
  (hg:o.guard=none) (d x:Operand) (dT sT:TypeId) (aQ:o.op=Op.call {callee:=Callee.builtin Builtin.append,args:= #[d,x],argTypes:= #[dT,sT]})
  (v u:Value) (hd:a.eval d=v) (hx:a.eval x=u) {v':Value} {w':World} (hr:(Builtin.append_ #[dT,sT] o.type #[v,u]).run P w = .ok v' w') (hK:K (a.put o.dst v') w') :
  if Region.wanted o (yielded ops a.tmps)=true then Oper.wp P o a w K Q else E:=by
 have hw:Region.wanted o (yielded ops a.tmps)=true:=by simp[Region.wanted,hg]
 rw[if_pos hw];unfold Oper.wp;simp[execOp,aQ,resolve,invoke,builtin,hd,hx,hr,Result.andThen];exact hK
theorem BG {P:Program} {w:World} {b off n c m:Nat} {vs:Array Value} {e':TypeId} {fz:Nat × Nat} {vy:Value} {news:List Value} {T T2 e:TypeId} {i:TypeInfo}
  (hb:w.heap[b]? = some (.cells vs e' fz)) (hf:NF vs fz) (hs:Src P i.size T2 vy m news w) (hn:news.length=m*i.size) (h1:∀u∈news,u.oneCell'=true)
  (ht:P.underlying T=some (.slice e)) (hi:P.info? e=some i) (eT:n+m≤c) (ho:off+c*i.size≤vs.size) :
  ∃ w',(∀ty,(Builtin.append_ #[T,T2] ty #[.slice (some ⟨b,off,none⟩) n c,vy]).run P w = .ok (.slice (some ⟨b,off,none⟩) (n+m) c) w')∧w'.heap[b]? = some (.cells (cZ vs (off+n*i.size) news) e' fz)∧
   (∀x,x≠b→w'.heap[x]? = w.heap[x]?)∧Ext w w':=by
 have kN:=Nat.mul_le_mul_right i.size eT;rw[Nat.add_mul] at kN;obtain⟨w',g1,g2,g3,g4⟩:=nJ (P:=P) news w b (off+n*i.size) 0 vs e' fz hb hf (by omega) h1;rw[Nat.add_zero] at g2;refine⟨w',fun ty=> ?_,g2,g3,g4⟩;rcases hs.kind with⟨e',hk⟩ | hk <;> simp[Builtin.append_,run_underlying ht,run_underlying hk,sizeOf,typeInfo,hi,hs.len,eT,hs.cells,dS,g1]
theorem BH {P:Program} {w:World} {b o:Nat} {vs:Array Value} {e':TypeId} {fz:Nat × Nat} {T e:TypeId} {z:Value}
  (hb:w.heap[b]? = some (.cells vs e' fz)) (hf:NF vs fz) (ht:P.underlying T=some (.slice e)) (hv:∀w,(zeroValue e).run P w = .ok z w) (h1:∀u∈z.cells.toList,u.oneCell'=true) (ho:o+z.cells.size≤vs.size) :
  ∃ w',(∀ty c,(Builtin.clear_ #[T] ty #[.slice (some ⟨b,o,none⟩) 1 c]).run P w = .ok (.tuple #[]) w')∧w'.heap[b]? = some (.cells (cZ vs o z.cells.toList) e' fz)∧
   (∀x,x≠b→w'.heap[x]? = w.heap[x]?)∧Ext w w':=by
 obtain⟨w',g1,g2,g3,g4⟩:=nJ (P:=P) z.cells.toList w b o 0 vs e' fz hb hf (by simpa using ho) h1;rw[Nat.add_zero] at g2;refine⟨w',fun ty c=> ?_,g2,g3,g4⟩
 have hz:(Builtin.zeroCells z.cells 1)=z.cells:=by
  simp only[Builtin.zeroCells,Nat.mul_one,Nat.one_mul];refine Array.ext (by simp) fun j h2 h3=> ?_;simp[Nat.mod_eq_of_lt h3,h3]
 simp[Builtin.clear_,run_underlying ht,hv,hz,g1]
theorem BI {w w1 w2:World} {E:an} (iv:jB E=true) {xs:List E.α} {b off c i:Nat} {vs:Array Value} {e:TypeId} {fz:Nat × Nat} {S:Nat→Nat→Nat→Nat} {news zs:List Value} (hi:i<xs.length)
  (hf:NF vs fz) (hl:xs.length≤c) (hm:xs.length≤cm) (ho:off+c*E.sz≤vs.size) (bZ:bj w.heap E xs (fun q=>vs.getD (off+q) Go.undef) S)
  (hn:news.length=(xs.length - (i+1))*E.sz) (di:∀q,q<news.length→news.getD q Go.undef=vs.getD (off+(i+1)*E.sz+q) Go.undef) (hz:zs.length=E.sz)
  (h1:w1.heap[b]? = some (.cells (cZ vs (off+i*E.sz) news) e fz)) (h2:w2.heap[b]? = some (.cells (cZ (cZ vs (off+i*E.sz) news) (off+(xs.length - 1)*E.sz) zs) e fz)) :
  bc w2.heap (.list E fun _=>xs.take i++xs.drop (i+1)) (.slice (some ⟨b,off,none⟩) (xs.length - 1) c) (bB b (xs.length - 1) E.sz fun _ _ _=>0):=by
 have hlen:(xs.take i++xs.drop (i+1)).length=xs.length - 1:=by rw[List.length_append,List.length_take,List.length_drop]; omega
 have e1:i*E.sz+(xs.length - (i+1))*E.sz=(xs.length - 1)*E.sz:=by rw[←Nat.add_mul]; congr 1; omega
 have e2:(xs.length - 1)*E.sz+E.sz=xs.length*E.sz:=by
  have:xs.length=(xs.length - 1)+1:=by omega
  rw[show xs.length*E.sz=((xs.length - 1)+1)*E.sz by rw[←this],Nat.add_mul]; omega
 have e3:xs.length*E.sz≤c*E.sz:=Nat.mul_le_mul_right _ hl;have e4:(i+1)*E.sz=i*E.sz+E.sz:=by rw[Nat.add_mul]; omega
 have nh:(cZ vs (off+i*E.sz) news).size=vs.size:=dk _ _ _
 have hs:=N2 (h:=w2.heap) (ds:=fun q=>(cZ (cZ vs (off+i*E.sz) news) (off+(xs.length - 1)*E.sz) zs).getD (off+q) Go.undef) iv (bZ.vt iv) hi
  (fun q hq=>by
   rw[gW _ _ _ _ (by rw[nh,hz]; omega),if_neg (by omega),gW _ _ _ _ (by rw[hn]; omega),if_neg (by omega)])
  (fun q hq G6=>by
   rw[gW _ _ _ _ (by rw[nh,hz]; omega),if_neg (by omega),gW _ _ _ _ (by rw[hn]; omega),if_pos (by rw[hn]; omega),di _ (by rw[hn]; omega)]
   congr 1; omega)
 have:=hs.own (c:=c) h2 (by rcases hf with h | h; exact .inl h; exact .inr (by rw[dk,dk]; exact h)) (by rw[hlen]; omega) (by rw[hlen]; omega) (by rw[dk,dk]; exact ho);rw[hlen] at this;exact this
theorem oB {H:Hp} {k:IntKind} {t:Unit→Int} {v:Value} (h:RL H (.int k t) v):v = .int k (t ()):=by cases h; rfl
theorem sW {vs:Array Value} (h:vs.size=3):vs = #[vs.getD 0 Go.undef,vs.getD 1 Go.undef,vs.getD 2 Go.undef]:=by
 refine Array.ext (by simp[h]) fun j h1 h2=> ?_
 match j,h2 with
 | 0,_=>simp[Array.getD,h]
 | 1,_=>simp[Array.getD,h]
 | 2,_=>simp[Array.getD,h]
theorem oC {P:Program} {w:World} {E:an} {xs:List E.α} {b off c k:Nat} {cs:Array Value} {e:TypeId} {fz:Nat × Nat} {S:Nat→Nat→Nat→Nat} {T el:TypeId} (hk:k≤xs.length) (hl:xs.length≤c)
   (hb:w.heap[b]? = some (.cells cs e fz)) (ho:off+c*E.sz≤cs.size) (bZ:bj w.heap E xs (fun q=>cs.getD (off+q) Go.undef) S) (ht:P.underlying T=some (.slice el)) :
   ∃ A news,(if c=k then some (⟨b,off,none⟩:Addr) else some ⟨b,off+k*E.sz,none⟩)=some A∧news.length=(xs.length - k)*E.sz∧(∀q,q<news.length→news.getD q Go.undef=cs.getD (off+k*E.sz+q) Go.undef)∧
    (∀u∈news,u.oneCell'=true)∧Src P E.sz T (.slice (some A) (xs.length - k) (c - k)) (xs.length - k) news w:=by
 have e1:k*E.sz+(xs.length - k)*E.sz=xs.length*E.sz:=by rw[←Nat.add_mul]; congr 1; omega
 have e3:xs.length*E.sz≤c*E.sz:=Nat.mul_le_mul_right _ hl
 have eD:∀q,q<(xs.length - k)*E.sz→((List.range ((xs.length - k)*E.sz)).map fun q=>cs.getD (off+k*E.sz+q) Go.undef)[q]? = some (cs.getD (off+k*E.sz+q) Go.undef):=fun q hq=>by
   rw[List.getElem?_map,List.getElem?_range hq]; rfl
 have dG:∀u∈(List.range ((xs.length - k)*E.sz)).map (fun q=>cs.getD (off+k*E.sz+q) Go.undef),u.oneCell'=true:=fun u hu=>by
   obtain⟨q,hq,rfl⟩:=List.mem_map.1 hu;have hq:=List.mem_range.1 hq;have:=Ds bZ (q:=k*E.sz+q) (by omega)
   rwa [Nat.add_assoc]
 have hlen:((List.range ((xs.length - k)*E.sz)).map fun q=>cs.getD (off+k*E.sz+q) Go.undef).length=(xs.length - k)*E.sz:=by simp
 have G7:∀q,q<((List.range ((xs.length - k)*E.sz)).map fun q=>cs.getD (off+k*E.sz+q) Go.undef).length→((List.range ((xs.length - k)*E.sz)).map fun q=>cs.getD (off+k*E.sz+q) Go.undef).getD q Go.undef=cs.getD (off+k*E.sz+q) Go.undef:=fun q hq=>by
   rw[hlen] at hq;rw[List.getD_eq_getElem?_getD,eD q hq]; rfl
 by_cases hc:c=k
 · refine⟨_,_,if_pos hc,hlen,G7,dG, ?_⟩;refine Src.ofSlice w ht _ _ _ _ hlen (fun j u hj=> ?_) dG;have:=bD hj;rw[hlen] at this;have h0:xs.length - k=0:=by omega
   rw[h0] at this;omega
 · refine⟨_,_,if_neg hc,hlen,G7,dG, ?_⟩;refine Src.ofSlice w ht _ _ _ _ hlen (fun j u hj=> ?_) dG;have hq:=bD hj;rw[hlen] at hq;rw[eD j hq] at hj;cases hj;rw[dS];exact cell_of hb (getD_some (by omega))
theorem ik (b n sz x:Nat):bB b n sz (fun _ _ _=>0) x=if x=b then 1 else 0:=by
 simp only[bB];rw[gC fun i _=>gC fun j _=>rfl]; rfl
theorem Z.BJ {zs:List Z} {vs:List Value} (h:Z.ga zs vs=true) (hz:∀z∈zs,z≠Z.un) {u:Value} (hu:u∈vs):u.oneCell'=true:=by
 obtain⟨j,hj,rfl⟩:=List.mem_iff_getElem.1 hu;have hl:=Z.wK h;obtain⟨v,h1,h2⟩:=Z.zt h (List.getElem?_eq_getElem (show j<zs.length by omega));rw[List.getElem?_eq_getElem hj] at h1;cases h1;have hne:=hz _ (List.getElem_mem (show j<zs.length by omega))
 revert h2 hne
 generalize zs[j]=z;generalize vs[j]=v;cases z <;> cases v <;> simp[Z.ok,Value.oneCell']
end Go.Proofs.YtpklefhdkkegiaaGreat
namespace Go.Proofs.YtpklefhdkkegiaaGreat
open Go Go.Lib
theorem sX {w:World} {b:Nat} {vs:Array Value} {e:TypeId} {fz:Nat × Nat} (hb:w.heap[b]? = some (.cells vs e fz)) (hf:NF vs fz) (o:Nat):w.frozen? ⟨b,o,none⟩=false:=by
 obtain⟨lo,hi⟩:=fz;simp only[World.frozen?,hb];have hle:hi≤lo:=by rcases hf with h | h; exact h; exact h.1
 have:¬(lo≤o∧o<hi):=by omega
 simpa using this
theorem ly {P:Program} {w:World} {b o dLen sLen m:Nat} {vs:Array Value} {e':TypeId} {fz:Nat × Nat} {a:Addr} {cs:List Value} {T T2 el:TypeId} {i:TypeInfo}
  (hb:w.heap[b]? = some (.cells vs e' fz)) (hf:NF vs fz) (hu:P.underlying T=some (.slice el)) (hi:P.info? el=some i) (hm:m=Nat.min sLen dLen) (hn:cs.length=m*i.size)
  (ry:∀j v,cs[j]? = some v→w.cell? (a.add j)=some v) (ho:o+cs.length≤vs.size) (h1:∀v∈cs,v.oneCell'=true) :
  ∃ w',(∀ty dc sc,(Builtin.copy_ #[T,T2] ty #[.slice (some ⟨b,o,none⟩) dLen dc, .slice (some a) sLen sc]).run P w = .ok (goInt m) w')∧w'.heap[b]? = some (.cells (cZ vs o cs) e' fz)∧
   (∀x,x≠b→w'.heap[x]? = w.heap[x]?)∧Ext w w':=by
 obtain⟨w',g1,g2,g3,g4⟩:=nJ (P:=P) cs w b o 0 vs e' fz hb hf (by simpa using ho) h1;rw[Nat.add_zero] at g2;have hl:=run_loadCells_list (P:=P) w a cs ry;refine⟨w',fun ty dc sc=> ?_,g2,g3,g4⟩;simp[Builtin.copy_,run_underlying hu,Builtin.lenOf,Builtin.firstCells,sizeOf,typeInfo,hi,←hm,←hn,hl,g1]
theorem BK {w2:World} {E:an} (iv:jB E=true) {h0:Array Obj} {xs:List E.α} {y:E.α} {b off c i:Nat} {cs:Array Value} {e:TypeId} {fz:Nat × Nat} {S T:Nat→Nat→Nat→Nat} {news us:List Value} (hi:i≤xs.length)
  (hf:NF cs fz) (hl:xs.length+1≤c) (hm:xs.length+1≤cm) (ho:off+c*E.sz≤cs.size) (bZ:bj h0 E xs (fun q=>cs.getD (off+q) Go.undef) S) (hy:bj h0 E [y] (fun q=>us.getD q Go.undef) T)
  (hn:news.length=(xs.length - i)*E.sz) (di:∀q,q<news.length→news.getD q Go.undef=cs.getD (off+i*E.sz+q) Go.undef) (hu:us.length=E.sz)
  (h2:w2.heap[b]? = some (.cells (cZ (cZ cs (off+(i+1)*E.sz) news) (off+i*E.sz) us) e fz)) :
  bc w2.heap (.list E fun _=>xs.take i++y::xs.drop i) (.slice (some ⟨b,off,none⟩) (xs.length+1) c) (bB b (xs.length+1) E.sz fun _ _ _=>0):=by
 have hlen:(xs.take i++y::xs.drop i).length=xs.length+1:=by rw[List.length_append,List.length_take,List.length_cons,List.length_drop]; omega
 have e1:i*E.sz+(xs.length - i)*E.sz=xs.length*E.sz:=by rw[←Nat.add_mul]; congr 1; omega
 have e3:(xs.length+1)*E.sz≤c*E.sz:=Nat.mul_le_mul_right _ hl;have e4:(i+1)*E.sz=i*E.sz+E.sz:=by rw[Nat.add_mul]; omega
 have e5:(xs.length+1)*E.sz=xs.length*E.sz+E.sz:=by rw[Nat.add_mul]; omega
 have nh:(cZ cs (off+(i+1)*E.sz) news).size=cs.size:=dk _ _ _
 have hs:=G4 (h:=w2.heap) (ds:=fun q=>(cZ (cZ cs (off+(i+1)*E.sz) news) (off+i*E.sz) us).getD (off+q) Go.undef) iv (bZ.vt iv) (hy.vt iv) hi
  (fun q hq=>by
   rw[gW _ _ _ _ (by rw[nh,hu]; omega),if_neg (by omega),gW _ _ _ _ (by rw[hn]; omega),if_neg (by omega)])
  (fun q hq=>by
   rw[gW _ _ _ _ (by rw[nh,hu]; omega),if_pos (by rw[hu]; omega)]
   congr 1; omega)
  (fun q hq G6=>by
   rw[gW _ _ _ _ (by rw[nh,hu]; omega),if_neg (by rw[hu]; omega),gW _ _ _ _ (by rw[hn]; omega),if_pos (by rw[hn]; omega),di _ (by rw[hn]; omega)]
   congr 1; omega)
 have:=hs.own (c:=c) h2 (by rcases hf with h | h; exact .inl h; exact .inr (by rw[dk,dk]; exact h)) (by rw[hlen]; omega) (by rw[hlen]; omega) (by rw[dk,dk]; exact ho);rw[hlen] at this;exact this
theorem BL {w2:World} {E:an} (iv:jB E=true) {h0:Array Obj} {xs:List E.α} {y:E.α} {nb off C i:Nat} {cs cells:Array Value} {e:TypeId} {S T:Nat→Nat→Nat→Nat} {news us:List Value} (hi:i≤xs.length)
  (hl:xs.length+1≤C) (hm:xs.length+1≤cm) (aY:cells.size=C*E.sz) (bZ:bj h0 E xs (fun q=>cs.getD (off+q) Go.undef) S) (hy:bj h0 E [y] (fun q=>us.getD q Go.undef) T)
  (bP:∀q,q<i*E.sz→cells.getD q Go.undef=cs.getD (off+q) Go.undef)
  (hn:news.length=(xs.length - i)*E.sz) (di:∀q,q<news.length→news.getD q Go.undef=cs.getD (off+i*E.sz+q) Go.undef) (hu:us.length=E.sz)
  (h2:w2.heap[nb]? = some (.cells (cZ (cZ cells (i*E.sz) us) ((i+1)*E.sz) news) e (0,0))) :
  bc w2.heap (.list E fun _=>xs.take i++y::xs.drop i) (.slice (some ⟨nb,0,none⟩) (xs.length+1) C) (bB nb (xs.length+1) E.sz fun _ _ _=>0):=by
 have hlen:(xs.take i++y::xs.drop i).length=xs.length+1:=by rw[List.length_append,List.length_take,List.length_cons,List.length_drop]; omega
 have e1:i*E.sz+(xs.length - i)*E.sz=xs.length*E.sz:=by rw[←Nat.add_mul]; congr 1; omega
 have e3:(xs.length+1)*E.sz≤C*E.sz:=Nat.mul_le_mul_right _ hl;have e4:(i+1)*E.sz=i*E.sz+E.sz:=by rw[Nat.add_mul]; omega
 have e5:(xs.length+1)*E.sz=xs.length*E.sz+E.sz:=by rw[Nat.add_mul]; omega
 have nh:(cZ cells (i*E.sz) us).size=cells.size:=dk _ _ _
 have hs:=G4 (h:=w2.heap) (ds:=fun q=>(cZ (cZ cells (i*E.sz) us) ((i+1)*E.sz) news).getD (0+q) Go.undef) iv (bZ.vt iv) (hy.vt iv) hi
  (fun q hq=>by
   rw[Nat.zero_add,gW _ _ _ _ (by rw[nh,hn]; omega),if_neg (by omega),gW _ _ _ _ (by rw[hu]; omega),if_neg (by omega),bP q hq])
  (fun q hq=>by
   rw[Nat.zero_add,gW _ _ _ _ (by rw[nh,hn]; omega),if_neg (by omega),gW _ _ _ _ (by rw[hu]; omega),if_pos (by rw[hu]; omega)]
   congr 1; omega)
  (fun q hq G6=>by
   rw[Nat.zero_add,gW _ _ _ _ (by rw[nh,hn]; omega),if_pos (by rw[hn]; omega),di _ (by rw[hn]; omega)]
   congr 1; omega)
 have:=hs.own (c:=C) h2 (kK _) (by rw[hlen]; omega) (by rw[hlen]; omega) (by rw[dk,dk,aY]; omega);rw[hlen] at this;exact this
theorem BM {P:Program} {w:World} {E:an} {xs:List E.α} {b off c k:Nat} {cs:Array Value} {e:TypeId} {fz:Nat × Nat} {S:Nat→Nat→Nat→Nat} (hk:k≤xs.length) (hl:xs.length≤c)
   (hb:w.heap[b]? = some (.cells cs e fz)) (ho:off+c*E.sz≤cs.size) (bZ:bj w.heap E xs (fun q=>cs.getD (off+q) Go.undef) S) :
   ∃ fo:List Value,fo.length=k*E.sz∧(∀q,q<fo.length→fo.getD q Go.undef=cs.getD (off+q) Go.undef)∧(Builtin.firstCells E.sz k (.slice (some ⟨b,off,none⟩) k c)).run P w = .ok fo.toArray w:=by
 have e1:k*E.sz≤xs.length*E.sz:=Nat.mul_le_mul_right _ hk;have e3:xs.length*E.sz≤c*E.sz:=Nat.mul_le_mul_right _ hl
 have eD:∀q,q<k*E.sz→((List.range (k*E.sz)).map fun q=>cs.getD (off+q) Go.undef)[q]? = some (cs.getD (off+q) Go.undef):=fun q hq=>by
   rw[List.getElem?_map,List.getElem?_range hq]; rfl
 have hlen:((List.range (k*E.sz)).map fun q=>cs.getD (off+q) Go.undef).length=k*E.sz:=by simp
 refine⟨_,hlen,fun q hq=> ?_,run_firstCells_some w E.sz k _ _ _ _ hlen fun j v hj=> ?_⟩
 · rw[hlen] at hq;rw[List.getD_eq_getElem?_getD,eD q hq]; rfl
 · have hq:=bD hj;rw[hlen] at hq;rw[eD j hq] at hj;cases hj;rw[dS];exact cell_of hb (getD_some (by omega))
end Go.Proofs.YtpklefhdkkegiaaGreat

