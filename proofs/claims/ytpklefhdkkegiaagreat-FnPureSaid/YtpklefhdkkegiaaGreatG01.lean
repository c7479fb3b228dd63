/- Parts of a proof. No conditions. -/

import Derived.WalkKit
import Derived.OrdersHeld
set_option linter.unusedSimpArgs false
set_option linter.unusedVariables false
namespace Go.Proofs.YtpklefhdkkegiaaGreat
open Go
structure ay where
 tm:Int
 pid:Int
deriving DecidableEq,Inhabited
structure Entry where
 lvl:Int
 az:Int
 bm:Int
 au:Int
deriving DecidableEq,Inhabited
structure ax where
 id:Int
 ah:Int
 aq:Int
 au:Int
 aT:Int
 since:Int
 az:Int
 st:Int
 dP:Int
 asked:Int
deriving DecidableEq,Inhabited
structure bA where
 total:Int
 free:Int
 held:Int
 bg:Int
 tied:Int
deriving DecidableEq,Inhabited
structure bh where
 ai:bA
 row:List Entry
 spoke:List (List ay)
deriving DecidableEq,Inhabited
structure br where
 ai:List Int
 cd:Int
 room:Int
 size:Int
 period:Int
 cC:Int
 rest:Int
 tries:Int
 bO:Int
deriving DecidableEq,Inhabited
structure al where
 rules:br
 now:Int
 az:Int
 ae:List ax
 cabins:List bh
 todo:List Int
 aA:List Int
deriving DecidableEq,Inhabited
structure cf where
 kind:Int
 id:Int
 ah:Int
 aq:Int
 au:Int
 aT:Int
deriving DecidableEq,Inhabited
structure vX where
 code:Int
 ids:List Int
deriving DecidableEq,Inhabited
inductive an where
 | int | byte | str | aI | aH | aB | cw | ah | fC | rep
deriving DecidableEq,Inhabited
@[reducible] def an.α:an→Type
 | .int=>Int
 | .byte=>UInt8
 | .str=>List UInt8
 | .aI=>ay
 | .aH=>Entry
 | .aB=>ax
 | .cw=>List ay
 | .ah=>bh
 | .fC=>cf
 | .rep=>vX
def an.j_:(E:an)→E.α
 | .int=>(0:Int)
 | .byte=>(0:UInt8)
 | .str=>([]:List UInt8)
 | .aI=>(default:ay)
 | .aH=>(default:Entry)
 | .aB=>(default:ax)
 | .cw=>([]:List ay)
 | .ah=>(default:bh)
 | .fC=>(default:cf)
 | .rep=>(default:vX)
def an.sz:an→Nat
 | .int=>1
 | .byte=>1
 | .str=>1
 | .aI=>2
 | .aH=>4
 | .aB=>10
 | .cw=>1
 | .ah=>7
 | .fC=>6
 | .rep=>2
inductive Lf where
 | int (k:IntKind) (t:Unit→Int)
 | bool (t:Unit→Bool)
 | str (t:Unit→List UInt8)
 | list (E:an) (t:Unit→List E.α)
def bH:(E:an)→(Unit→E.α)→List Lf
 | .int,x=>[.int .i64 x]
 | .byte,x=>[.int .u8 fun _=>((x ()).toNat:Int)]
 | .str,x=>[.str x]
 | .aI,x=>[.int .i64 fun _=>(x ()).tm, .int .i64 fun _=>(x ()).pid]
 | .aH,x=>[.int .i64 fun _=>(x ()).lvl, .int .i64 fun _=>(x ()).az, .int .i64 fun _=>(x ()).bm, .int .i64 fun _=>(x ()).au]
 | .aB,x=>[.int .i64 fun _=>(x ()).id, .int .i64 fun _=>(x ()).ah, .int .i64 fun _=>(x ()).aq, .int .i64 fun _=>(x ()).au, .int .i64 fun _=>(x ()).aT,
  .int .i64 fun _=>(x ()).since, .int .i64 fun _=>(x ()).az, .int .i64 fun _=>(x ()).st, .int .i64 fun _=>(x ()).dP, .int .i64 fun _=>(x ()).asked]
 | .cw,x=>[.list .aI x]
 | .ah,x=>[.int .i64 fun _=>(x ()).ai.total, .int .i64 fun _=>(x ()).ai.free, .int .i64 fun _=>(x ()).ai.held, .int .i64 fun _=>(x ()).ai.bg, .int .i64 fun _=>(x ()).ai.tied,
  .list .aH fun _=>(x ()).row, .list .cw fun _=>(x ()).spoke]
 | .fC,x=>[.int .i64 fun _=>(x ()).kind, .int .i64 fun _=>(x ()).id, .int .i64 fun _=>(x ()).ah, .int .i64 fun _=>(x ()).aq, .int .i64 fun _=>(x ()).au, .int .i64 fun _=>(x ()).aT]
 | .rep,x=>[.int .i64 fun _=>(x ()).code, .list .int fun _=>(x ()).ids]
theorem gm (E:an) (x:Unit→E.α):(bH E x).length=E.sz:=by cases E <;> rfl
theorem tA (E:an):0<E.sz:=by cases E <;> decide
def cm:Nat:=9223372036854775807
inductive RL (H:Nat→Option Obj):Lf→Value→Prop where
 | int {k:IntKind} {t:Unit→Int} (h:k.has (t ())):RL H (.int k t) (.int k (t ()))
 | bool {t:Unit→Bool}:RL H (.bool t) (.bool (t ()))
 | str {t:Unit→List UInt8} (hm:(t ()).length≤cm):RL H (.str t) (.string ⟨(t ()).toArray⟩)
 | nil {E:an} {t:Unit→List E.α} {a:Option Addr} {c:Nat} (h:t () = []):RL H (.list E t) (.slice a 0 c)
 | list {E:an} {t:Unit→List E.α} {b off c:Nat} {cs:Array Value} {e:TypeId} {fz:Nat × Nat} (hb:H b=some (.cells cs e fz))
  (hl:(t ()).length≤c) (hm:(t ()).length≤cm) (ho:off+(t ()).length*E.sz≤cs.size)
  (hc:∀i x,(t ())[i]? = some x→∀j l,(bH E fun _=>x)[j]? = some l→RL H l (cs.getD (off+i*E.sz+j) undef)) :
  RL H (.list E t) (.slice (some ⟨b,off,none⟩) (t ()).length c)
def bM:Nat→(Nat→Nat)→Nat
 | 0,_=>0
 | n+1,f=>bM n f+f n
theorem vY {n:Nat} {f:Nat→Nat} {i:Nat} (hi:i<n):f i≤bM n f:=by
 induction n with
 | zero=>omega
 | succ n ih=>
   simp only[bM]
   by_cases h:i=n
   · subst h; omega
   · have:=ih (by omega); omega
theorem gC {n:Nat} {f:Nat→Nat} (h:∀i,i<n→f i=0):bM n f=0:=by
 induction n with
 | zero=>rfl
 | succ n ih=>simp only[bM]; rw[ih fun i hi=>h i (by omega),h n (by omega)]
theorem CA {n:Nat} {f:Nat→Nat} (h:0<bM n f):∃i,i<n∧0<f i:=by
 induction n with
 | zero=>simp[bM] at h
 | succ n ih=>
   simp only[bM] at h
   by_cases h0:0<f n
   · exact⟨n,by omega,h0⟩
   · obtain⟨i,hi,hf⟩:=ih (by omega); exact⟨i,by omega,hf⟩
theorem tB {n:Nat} {f g:Nat→Nat} (h:∀i,i<n→f i=g i):bM n f=bM n g:=by
 induction n with
 | zero=>rfl
 | succ n ih=>simp only[bM]; rw[ih fun i hi=>h i (by omega),h n (by omega)]
theorem IT {n:Nat} {f g:Nat→Nat} (h:∀i,i<n→f i≤g i):bM n f≤bM n g:=by
 induction n with
 | zero=>exact Nat.le_refl _
 | succ n ih=>simp only[bM]; have:=ih fun i hi=>h i (by omega); have:=h n (by omega); omega
theorem yt {n:Nat} {f g:Nat→Nat} {i:Nat} (hi:i<n) (h:∀j,j≠i→f j=g j):bM n f+g i=bM n g+f i:=by
 induction n with
 | zero=>omega
 | succ n ih=>
   simp only[bM]
   by_cases h0:i=n
   · subst h0;rw[tB (f:=f) (g:=g) fun j hj=>h j (by omega)];omega
   · have:=ih (by omega);rw[h n (by omega)];omega
def NF (cs:Array Value) (fz:Nat × Nat):Prop:=fz.2≤fz.1∨(fz.2≤fz.1∧cs.size≤fz.1)
def bB (b n sz:Nat) (S:Nat→Nat→Nat→Nat):Nat→Nat:=fun x=>(if x=b then 1 else 0)+bM n fun i=>bM sz fun j=>S i j x
inductive bc (h:Array Obj):Lf→Value→(Nat→Nat)→Prop where
 | int {k:IntKind} {t:Unit→Int} (hr:k.has (t ())):bc h (.int k t) (.int k (t ())) fun _=>0
 | bool {t:Unit→Bool}:bc h (.bool t) (.bool (t ())) fun _=>0
 | str {t:Unit→List UInt8} (hm:(t ()).length≤cm):bc h (.str t) (.string ⟨(t ()).toArray⟩) fun _=>0
 | nil {E:an} {t:Unit→List E.α} (h0:t () = []):bc h (.list E t) (.slice none 0 0) fun _=>0
 | list {E:an} {t:Unit→List E.α} {b off c:Nat} {cs:Array Value} {e:TypeId} {fz:Nat × Nat} (S:Nat→Nat→Nat→Nat) (hb:h[b]? = some (.cells cs e fz)) (hf:NF cs fz)
  (hl:(t ()).length≤c) (hm:(t ()).length≤cm) (ho:off+c*E.sz≤cs.size)
  (hc:∀i x,(t ())[i]? = some x→∀j l,(bH E fun _=>x)[j]? = some l→bc h l (cs.getD (off+i*E.sz+j) undef) (S i j)) :
  bc h (.list E t) (.slice (some ⟨b,off,none⟩) (t ()).length c) (bB b (t ()).length E.sz S)
theorem iM (b n sz:Nat) (S:Nat→Nat→Nat→Nat):0<bB b n sz S b:=by simp[bB]; omega
theorem yu {b n sz:Nat} {S:Nat→Nat→Nat→Nat} {i j x:Nat} (hi:i<n) (hj:j<sz):S i j x≤bB b n sz S x:=by
 have h1:=vY (f:=fun j=>S i j x) hj;have h2:=vY (f:=fun i=>bM sz fun j=>S i j x) hi;simp only[bB];exact Nat.le_trans h1 (Nat.le_trans h2 (Nat.le_add_left _ _))
theorem CB {b n sz:Nat} {S:Nat→Nat→Nat→Nat} {x:Nat} (h:0<bB b n sz S x):x=b∨∃i j,i<n∧j<sz∧0<S i j x:=by
 simp only[bB] at h
 by_cases hx:x=b
 · exact .inl hx
 · simp only[hx,if_false] at h;obtain⟨i,hi,h1⟩:=CA (n:=n) (by omega:0<bM n fun i=>bM sz fun j=>S i j x);obtain⟨j,hj,h2⟩:=CA h1;exact .inr ⟨i,j,hi,hj,h2⟩
theorem bD {α:Type} {l:List α} {i:Nat} {x:α} (h:l[i]? = some x):i<l.length:=by
 rcases Nat.lt_or_ge i l.length with h' | h'
 · exact h'
 · rw[List.getElem?_eq_none h'] at h; cases h
theorem bc.mono {h h':Array Obj} {l:Lf} {v:Value} {S:Nat→Nat} (ho:bc h l v S):(∀b,0<S b→h'[b]? = h[b]?)→bc h' l v S:=by
 induction ho with
 | int hr=>exact fun _=> .int hr
 | bool=>exact fun _=> .bool
 | str hm=>exact fun _=> .str hm
 | nil h0=>exact fun _=> .nil h0
 | list S hb hf hl hm ho hc ih=>
   intro hk;refine .list S (by rw[hk _ (iM _ _ _ _)]; exact hb) hf hl hm ho fun i x hx j l hj=>ih i x hx j l hj fun b h0=>hk b ?_;exact Nat.lt_of_lt_of_le h0 (yu (bD hx) (by have:=bD hj; rwa [gm] at this))
theorem bc.rl {h:Array Obj} {H:Nat→Option Obj} {l:Lf} {v:Value} {S:Nat→Nat} (ho:bc h l v S):(∀b,0<S b→H b=h[b]?)→RL H l v:=by
 induction ho with
 | int hr=>exact fun _=> .int hr
 | bool=>exact fun _=> .bool
 | str hm=>exact fun _=> .str hm
 | nil h0=>exact fun _=> .nil h0
 | list S hb hf hl hm ho hc ih=>
   intro hk;refine .list (by rw[hk _ (iM _ _ _ _)]; exact hb) hl hm (Nat.le_trans ?_ ho) fun i x hx j l hj=>ih i x hx j l hj fun b h0=>hk b ?_
   · exact Nat.add_le_add_left (Nat.mul_le_mul_right _ hl) _
   · exact Nat.lt_of_lt_of_le h0 (yu (bD hx) (by have:=bD hj; rwa [gm] at this))
theorem RL.mono {H H':Nat→Option Obj} {l:Lf} {v:Value} (hr:RL H l v) (hk:∀b o,H b=some o→H' b=some o):RL H' l v:=by
 induction hr with
 | int hr=>exact .int hr
 | bool=>exact .bool
 | str hm=>exact .str hm
 | nil h0=>exact .nil h0
 | list hb hl hm ho hc ih=>exact .list (hk _ _ hb) hl hm ho ih
theorem bc.there {h:Array Obj} {l:Lf} {v:Value} {S:Nat→Nat} (ho:bc h l v S):∀b,0<S b→∃cs e fz,h[b]? = some (.cells cs e fz):=by
 induction ho with
 | int hr=>intro b h0; simp at h0
 | bool=>intro b h0; simp at h0
 | str hm=>intro b h0; simp at h0
 | nil _=>intro b h0; simp at h0
 | list S hb hf hl hm ho hc ih=>
   intro x h0;rcases CB h0 with rfl | ⟨i,j,hi,hj,h1⟩
   · exact⟨_,_,_,hb⟩
   · obtain⟨y,hy⟩:∃y,(_:List _)[i]? = some y:=⟨_,List.getElem?_eq_getElem hi⟩;obtain⟨l,hl⟩:∃l,(bH _ fun _=>y)[j]? = some l:=⟨_,List.getElem?_eq_getElem (by rw[gm]; exact hj)⟩;exact ih i y hy j l hl x h1
def gQ:List (Int × Int)→Int→Option Nat
 | [],_=>none
 | p::r,k=>if k=p.1 then some 0 else(gQ r k).map (· + 1)
def dQ:List (Int × Int)→Int→Int
 | [],_=>0
 | p::r,k=>if k=p.1 then p.2 else dQ r k
def iq:List (Int × Int)→Int→Int→List (Int × Int)
 | [],k,v=>[(k,v)]
 | p::r,k,v=>if k=p.1 then(p.1,v)::r else p::iq r k v
def mn (m:List (Int × Int)):List (Value × Value):=m.map fun p=>(.int .i64 p.1, .int .i64 p.2)
def mo (es:List MapEntry):List (Value × Value):=es.map fun e=>(e.key,e.val)
theorem CC {kk:IntKind} (k:Int):∀(m:List (Int × Int)) (es:List MapEntry) (i:Nat),mo es=mn m→
   Instr.findNow (.int kk) (.int .i64 k) es i=some (match gQ m k with | some j=>some (i+j, .int .i64 (dQ m k)) | none=>none)
 | [],es,i,h=>by
   have:es = []:=by simpa [mo,mn] using h
   subst this; rfl
 | p :: m,es,i,h=>by
   cases es with
   | nil=>simp[mo,mn] at h
   | cons e es=>
     simp only[mo,mn,List.map_cons,List.cons.injEq,Prod.mk.injEq] at h;obtain⟨⟨h1,h2⟩,h3⟩:=h;have ih:=CC (kk:=kk) k m es (i+1) h3;simp only[Instr.findNow,Instr.sameNow,h1,h2,if_true]
     by_cases hk:k=p.1
     · subst hk; simp[gQ,dQ]
     · simp only[gQ,dQ,if_neg hk,show(k == p.1)=false by simpa using hk];rw[ih];cases gQ m k with
       | none=>rfl
       | some j=>simp; omega
theorem tC:∀{m:List (Int × Int)} {k v:Int},gQ m k=none→iq m k v=m ++ [(k,v)]∧dQ m k=0
 | [],_,_,_=>⟨rfl,rfl⟩
 | p ::m,k,v,h=>by
   simp only[gQ] at h
   split at h
   · cases h
   · rename_i hk;have:=tC (m:=m) (k:=k) (v:=v) (by simpa using h);simp[iq,dQ,if_neg hk,this]
theorem tD:∀{m:List (Int × Int)} {k v:Int} {j:Nat},gQ m k=some j→m[j]? = some (k,dQ m k)∧iq m k v=m.set j (k,v)
 | [],_,_,_,h=>by simp[gQ] at h
 | p ::m,k,v,j,h=>by
   simp only[gQ] at h
   split at h
   · rename_i hk;cases h; subst hk;simp[dQ,iq]
   · rename_i hk;simp only[Option.map_eq_some_iff] at h;obtain⟨i,hi,rfl⟩:=h;have:=tD (m:=m) (k:=k) (v:=v) hi;simp[iq,dQ,if_neg hk,this]
structure nu (m:List (Int × Int)) (es:Array MapEntry):Prop where
 kv:mo es.toList=mn m
 le:m.length≤9223372036854775807
 has:∀p∈m,IntKind.i64.has p.2
theorem nu.size {m:List (Int × Int)} {es:Array MapEntry} (h:nu m es):es.size=m.length:=by
 have:=congrArg List.length h.kv;simpa [mo,mn] using this
theorem nu.get {m:List (Int × Int)} {es:Array MapEntry} (h:nu m es) (k:Int):IntKind.i64.has (dQ m k):=by
 cases hi:gQ m k with
 | none=>rw[(tC (v:=0) hi).2]; simp[IntKind.has,IntKind.min,IntKind.max,IntKind.signed,IntKind.bits]
 | some j=>exact h.has _ (List.mem_of_getElem? (tD (v:=0) hi).1)
section
variable {P : Program} {T kt et : TypeId} {kk : IntKind}
theorem run_checkKey (hk:P.underlying kt=some (.int kk)) (e:Bool) (w:World) (n:Nat) (k:Int):(Instr.checkKey e (n+1) kt (.int .i64 k)).run P w = .ok () w:=by
 unfold Instr.checkKey;simp only[Sem.run_bind,run_underlying hk,Result.andThen_ok,Sem.run_pure]
theorem run_findKey (hk:P.underlying kt=some (.int kk)) (w:World) {es:Array MapEntry} {m:List (Int × Int)} (hm:nu m es) (k:Int) :
  (Instr.findKey kt (.int .i64 k) es.toList).run P w = .ok (match gQ m k with | some j=>some (j, .int .i64 (dQ m k)) | none=>none) w:=by
 have hf:=CC (kk:=kk) k m es.toList 0 hm.kv;simp only[Instr.findKey,Sem.run_bind,run_underlying hk,Result.andThen_ok,hf];cases gQ m k <;> simp
theorem IU {w:World} {b:Nat} {es:Array MapEntry} {c:Nat} {m:List (Int × Int)} (hT:P.underlying T=some (.map kt et)) (hk:P.underlying kt=some (.int kk)) {ei:TypeInfo} (he:P.info? et=some ei)
  (hz:ei.zero=some (.int .i64 0)) (hb:w.heap[b]? = some (.map es c)) (hm:nu m es) (k:Int) :
  (Instr.lookup T (.map (some b)) (.int .i64 k) false).run P w = .ok (.int .i64 (dQ m k)) w:=by
 have hg:(getObj b).run P w = .ok (.map es c) w:=by simp[getObj,Sem.run,hb]
 have h0:(zeroValue et).run P w = .ok (.int .i64 0) w:=by simp[zeroValue,typeInfo,he,hz]
 unfold Instr.lookup;have hc:=run_checkKey hk es.isEmpty w 9999 k;simp only[Nat.reduceAdd] at hc;simp only[Sem.run_bind,run_underlying hT,Result.andThen_ok,hg,Sem.run_pure,hc,run_findKey hk w hm];cases hi:gQ m k with
 | none=>simp[(tC (v:=0) hi).2,h0]
 | some j=>simp
theorem IV {w:World} {b:Nat} {es:Array MapEntry} {c:Nat} {m:List (Int × Int)} (hT:P.underlying T=some (.map kt et)) (hk:P.underlying kt=some (.int kk))
   (hb:w.heap[b]? = some (.map es c)) (hm:nu m es) (k v:Int) (hv:IntKind.i64.has v) (hl:m.length<9223372036854775807) :
   ∃ nv c',(Instr.mapUpdate T (.map (some b)) (.int .i64 k) (.int .i64 v)).run P w = .ok () {w with heap:=w.heap.setIfInBounds b (.map nv c')} ∧nu (iq m k v) nv:=by
 have hg:(getObj b).run P w = .ok (.map es c) w:=by simp[getObj,Sem.run,hb]
 have hs:∀o,(setObj b o).run P w = .ok () {w with heap:=w.heap.setIfInBounds b o}:=fun o=>by simp[setObj,Sem.run,hb]
 have hc:=run_checkKey hk false w 9999 k;simp only[Nat.reduceAdd] at hc;have hf:=run_findKey hk w hm k;cases hi:gQ m k with
 | none =>
   refine⟨es.push {key:= .int .i64 k,val:= .int .i64 v,born:=c},c+1, ?_, ?_⟩
   · simp only[hi] at hf;unfold Instr.mapUpdate;simp only[Sem.run_bind,run_underlying hT,Result.andThen_ok,hg,hc,hf,hs]
   · have h1:=(tC (v:=v) hi).1;refine⟨?_,by rw[h1]; simp; omega,fun p hp=> ?_⟩
     · have:=hm.kv;rw[h1];simp only[mo,mn,Array.toList_push,List.map_append,List.map_cons,List.map_nil] at this ⊢;rw[this]
     · rw[h1] at hp;rcases List.mem_append.1 hp with hp | hp
       · exact hm.has p hp
       · cases List.mem_singleton.1 hp; exact hv
 | some j =>
   obtain⟨h1,h2⟩:=tD (v:=v) hi
   have hj:es[j]? = some (es[j]?.getD default)∧(es[j]?.getD default).key = .int .i64 k:=by
     have h3:=congrArg (fun l=>l[j]?) hm.kv;simp only[mo,mn,List.getElem?_map,h1,Option.map_some] at h3;rw[Array.getElem?_toList] at h3;cases h4:es[j]? with
     | none=>rw[h4] at h3; simp at h3
     | some e=>rw[h4] at h3; simp at h3; simp[h3]
   refine⟨es.modify j fun e=>{e with key:= .int .i64 k,val:= .int .i64 v},c, ?_, ?_⟩
   · simp only[hi] at hf;have qx:((es[j]?).map (·.key)).getD (.int .i64 k) = .int .i64 k:=by rw[hj.1]; simp[hj.2]
     have gR:(Instr.keyThatStays (.int .i64 k) (.int .i64 k)).run P w = .ok (.int .i64 k) w:=by
       simp[Instr.keyThatStays,Instr.sameBits]
     unfold Instr.mapUpdate;simp only[Sem.run_bind,run_underlying hT,Result.andThen_ok,hg,hc,hf,qx,gR,hs]
   · refine ⟨?_,by rw[h2]; simpa using hm.le,fun p hp=> ?_⟩
     · have :=hm.kv;rw[h2];apply List.ext_getElem?;intro i;have h5:=congrArg (fun l=>l[i]?) this;simp only[mo,mn,List.getElem?_map,Array.getElem?_toList] at h5;simp only[mo,mn,List.getElem?_map,Array.getElem?_toList,Array.getElem?_modify,List.getElem?_set]
       by_cases nx:j=i
       · subst nx
         have aR:j<m.length:=by
          rcases Nat.lt_or_ge j m.length with h | h
          · exact h
          · rw[List.getElem?_eq_none h] at h1; cases h1
         rw[if_pos rfl,if_pos rfl,if_pos aR,hj.1];simp
       · rw[if_neg nx,if_neg nx]; exact h5
     · rw[h2] at hp;rcases List.mem_or_eq_of_mem_set hp with hp | rfl
       · exact hm.has p hp
       · exact hv
end
inductive Cp where
 | ptr (k off:Nat)
 | el (E:an) (x:Unit→E.α) (off:Nat)
 | bN (ls:List Lf) (off:Nat)
inductive C where
 | lf (l:Lf)
 | bl (b:Bool)
 | nil
 | own (k:Nat)
 | ptr (k off:Nat)
 | el (E:an) (x:Unit→E.α) (off:Nat)
 | bN (ls:List Lf) (off:Nat)
 | en (k:Nat) (E:an) (i:Unit→Nat) (off:Nat)
 | pre (k:Nat) (n:Unit→Nat)
 | fn (f:FuncId) (ka:List Cp)
 | undef
inductive V where
 | c (x:C)
 | agg (cs:List C)
 | ba (cs:List (Bool × List C))
inductive ak where
 | dead
 | box (cs:List C)
 | own (E:an) (xs:Unit→List E.α) (oM:Bool)
 | view (E:an) (xs:Unit→List E.α)
 | bP (E:an) (xs:Unit→List E.α) (i:Unit→Nat) (fs:List (Option Nat))
 | mp (m:Unit→List (Int × Int))
structure SS where
 env:List V
 af:List (Nat × ak)
abbrev Hp:=Nat→Option Obj
abbrev aF:=Nat→Value × (Nat→Nat)
def dz (H:Hp) (ρ:aF) (D:Nat→Prop):Cp→Value→Prop
 | .ptr k off,v=>D k∧∃b,(ρ k).1 = .pointer (some ⟨b,0,none⟩)∧v = .pointer (some ⟨b,off,none⟩)
 | .el E x off,v=>∃b o cs e fz,H b=some (.cells cs e fz)∧v = .pointer (some ⟨b,o,none⟩)∧
  ∀ j l,(bH E x)[off+j]? = some l→o+j<cs.size∧RL H l (cs.getD (o+j) Go.undef)
 | .bN ls off,v=>∃b o cs e fz,H b=some (.cells cs e fz)∧v = .pointer (some ⟨b,o,none⟩)∧
  ∀ j l,ls[off+j]? = some l→o+j<cs.size∧RL H l (cs.getD (o+j) Go.undef)
def RC (H:Hp) (ρ:aF) (D:Nat→Prop):C→Value→Prop
 | .lf l,v=>RL H l v
 | .bl b,v=>v = .bool b
 | .nil,v=>v = .slice none 0 0
 | .own k,v=>D k∧v=(ρ k).1
 | .ptr k off,v=>dz H ρ D (.ptr k off) v
 | .el E x off,v=>dz H ρ D (.el E x off) v
 | .bN ls off,v=>dz H ρ D (.bN ls off) v
 | .en k E i off,v=>D k∧∃b o n c,(ρ k).1 = .slice (some ⟨b,o,none⟩) n c∧i ()<n∧v = .pointer (some ⟨b,o+i ()*E.sz+off,none⟩)
 | .pre k n,v=>D k∧∃b o N c,(ρ k).1 = .slice (some ⟨b,o,none⟩) N c∧n ()≤N∧v = .slice (some ⟨b,o,none⟩) (n ()) c
 | .fn f ka,v=>∃vs:Array Value,v = .func (.func f) #[] vs∧vs.size=ka.length∧∀j c,ka[j]? = some c→dz H ρ D c (vs.getD j Go.undef)
 | .undef,_=>True
def cG (H:Hp) (ρ:aF) (D:Nat→Prop) (cs:List C) (vs:Array Value):Prop:=
 vs.size=cs.length∧∀j c,cs[j]? = some c→RC H ρ D c (vs.getD j Go.undef)
def RT (H:Hp) (ρ:aF) (D:Nat→Prop) (p:Bool × List C) (v:Value):Prop:=
 match p.1 with
 | true=>∃vs,v = .agg vs∧cG H ρ D p.2 vs
 | false=>∃c,p.2 = [c]∧RC H ρ D c v
def RV (H:Hp) (ρ:aF) (D:Nat→Prop):V→Value→Prop
 | .c x,v=>RC H ρ D x v
 | .agg cs,v=>∃vs,v = .agg vs∧cG H ρ D cs vs
 | .ba cs,v=>∃vs:Array Value,v = .tuple vs∧vs.size=cs.length∧∀j p,cs[j]? = some p→RT H ρ D p (vs.getD j Go.undef)
def one (b:Nat):Nat→Nat:=fun x=>if x=b then 1 else 0
def filled (fs:List (Option Nat)) (i q j:Nat):Option Nat:=if q=i then(match fs[j]? with | some (some k)=>some k | _=>none) else none
def vZ (h:Array Obj) (ρ:aF) (D:Nat→Prop) (E:an) (xs:List E.α) (i:Nat) (fs:List (Option Nat)) (cs:Nat→Value) (S:Nat→Nat→Nat→Nat):Prop:=
 ∀ q x,xs[q]? = some x→∀j l,(bH E fun _=>x)[j]? = some l→match filled fs i q j with
  | some k=>D k∧cs (q*E.sz+j)=(ρ k).1∧S q j=fun _=>0
  | none=>bc h l (cs (q*E.sz+j)) (S q j)
def cD (h:Array Obj) (H:Hp) (ρ:aF) (D:Nat→Prop) (B:ak) (p:Value × (Nat→Nat)):Prop:=
 match B with
 | .dead=>p.2=fun _=>0
 | .box cs=>∃b vs e fz,p.1 = .pointer (some ⟨b,0,none⟩)∧p.2=one b∧h[b]? = some (.cells vs e fz)∧NF vs fz∧cG H ρ D cs vs
 | .own E xs _=>bc h (.list E xs) p.1 p.2
 | .view E xs=>RL H (.list E xs) p.1∧p.2=fun _=>0
 | .bP E xs i fs=>∃b o c cs e fz S,p.1 = .slice (some ⟨b,o,none⟩) (xs ()).length c∧p.2=bB b (xs ()).length E.sz S∧h[b]? = some (.cells cs e fz)∧NF cs fz∧(xs ()).length≤c∧
  (xs ()).length≤cm∧o+c*E.sz≤cs.size∧i ()<(xs ()).length∧vZ h ρ D E (xs ()) (i ()) fs (fun q=>cs.getD (o+q) Go.undef) S
 | .mp m=>∃b es c,p.1 = .map (some b)∧p.2=one b∧h[b]? = some (.map es c)∧nu (m ()) es
def fa (B:ak) (p:Value × (Nat→Nat)) (x:Nat):Prop:=
 match B with
 | .dead=>False
 | .box _=>0<p.2 x
 | .own _ _ false=>0<p.2 x
 | .own _ _ true=>∃o n c,p.1 = .slice (some ⟨x,o,none⟩) n c
 | .view _ _=>False
 | .bP _ _ _ _=>0<p.2 x
 | .mp _=>0<p.2 x
def av (bs:List (Nat × ak)) (k:Nat):Prop:=k∈bs.map (·.1)
def aP (ρ:aF):List (Nat × ak)→Nat→Nat
 | [],_=>0
 | p::r,x=>(ρ p.1).2 x+aP ρ r x
structure fl (h:Array Obj) (H0 H:Hp) (ρ:aF) (bs:List (Nat × ak)):Prop where
 oc:∀k,av bs k→(ρ k).1.oneCell'=true
 nd:(bs.map (·.1)).Nodup
 h0:∀b o,H0 b=some o→H b=some o
 hh:∀b o,H b=some o→h[b]? = some o
 af:∀k B,(k,B)∈bs→cD h H ρ (av bs) B (ρ k)
 sum:∀x,aP ρ bs x≤1
 fresh:∀k B,(k,B)∈bs→∀x,0<(ρ k).2 x→H0 x=none
 gn:∀k B,(k,B)∈bs→∀x,fa B (ρ k) x→H x=none
structure Ext (w w':World):Prop where
 sz:w.heap.size≤w'.heap.size
 os:w'.os=w.os
 out:w'.output=w.output
 fz:∀a:Addr,a.block<w.heap.size→w'.frozen? a=w.frozen? a
theorem Ext.of {w w':World} (sz:w.heap.size≤w'.heap.size) (os:w'.os=w.os) (out:w'.output=w.output) (fz:∀a,w'.frozen? a=w.frozen? a):Ext w w':=⟨sz,os,out,fun a _=>fz a⟩
theorem Ext.refl (w:World):Ext w w:=⟨Nat.le_refl _,rfl,rfl,fun _ _=>rfl⟩
theorem Ext.trans {w w' qy:World} (h:Ext w w') (g:Ext w' qy):Ext w qy:=⟨Nat.le_trans h.sz g.sz,g.os.trans h.os,g.out.trans h.out,fun a q=>(g.fz a (Nat.lt_of_lt_of_le q h.sz)).trans (h.fz a q)⟩
structure Ctx where
 H0:Hp
 hd:List (Nat × (Value × (Nat→Nat)))
 w0:World
 hm:List (Nat × Value)
structure mq (H:Hp) (ρ:aF) (D:Nat→Prop) (env:List V) (tmps:Array Value):Prop where
 size:tmps.size=env.length
 get:∀(j:Nat) c,env[j]? = some c→RV H ρ D c (tmps.getD j Go.undef)
structure aG (Γ:Ctx) (H:Hp) (ρ:aF) (σ:SS) (a:Act) (w:World):Prop where
 b :fl w.heap Γ.H0 H ρ σ.af
 e :mq H ρ (av σ.af) σ.env a.tmps
 d :a.defers = []
 n :Ext Γ.w0 w
 hd:∀p∈Γ.hd,av σ.af p.1∧(ρ p.1).1=p.2.1∧∀x,(ρ p.1).2 x≤p.2.2 x
 hm:∀p∈Γ.hm,av σ.af p.1∧(ρ p.1).1=p.2
def Rel (Γ:Ctx) (σ:SS) (a:Act) (w:World):Prop:=∃H ρ,aG Γ H ρ σ a w
structure iN (H H':Hp) (ρ ρ':aF) (D D':Nat→Prop):Prop where
 h :∀b o,H b=some o→H' b=some o
 d :∀k,D k→D' k∧(ρ' k).1=(ρ k).1
theorem iN.refl (H:Hp) (ρ:aF) (D:Nat→Prop):iN H H ρ ρ D D:=⟨fun _ _ h=>h,fun _ h=>⟨h,rfl⟩⟩
section
variable {H H' : Hp} {ρ ρ' : aF} {D D' : Nat → Prop}
theorem dz.grow (g:iN H H' ρ ρ' D D') {c:Cp} {v:Value} (h:dz H ρ D c v):dz H' ρ' D' c v:=by
 cases c with
 | ptr k off=>obtain⟨hk,b,h1,h2⟩:=h; exact⟨(g.d k hk).1,b,by rw[(g.d k hk).2]; exact h1,h2⟩
 | el E x off=>
   obtain⟨b,o,cs,e,fz,h1,h2,h3⟩:=h;exact⟨b,o,cs,e,fz,g.h _ _ h1,h2,fun j l hj=>⟨(h3 j l hj).1,(h3 j l hj).2.mono g.h⟩⟩
 | bN ls off=>
   obtain⟨b,o,cs,e,fz,h1,h2,h3⟩:=h;exact⟨b,o,cs,e,fz,g.h _ _ h1,h2,fun j l hj=>⟨(h3 j l hj).1,(h3 j l hj).2.mono g.h⟩⟩
theorem RC.grow (g:iN H H' ρ ρ' D D') {c:C} {v:Value} (h:RC H ρ D c v):RC H' ρ' D' c v:=by
 cases c with
 | lf l=>exact RL.mono h g.h
 | bl b=>exact h
 | nil=>exact h
 | own k=>obtain⟨hk,h1⟩:=h; exact⟨(g.d k hk).1,by rw[(g.d k hk).2]; exact h1⟩
 | ptr k off=>exact dz.grow g (c:= .ptr k off) h
 | el E x off=>exact dz.grow g (c:= .el E x off) h
 | bN ls off=>exact dz.grow g (c:= .bN ls off) h
 | en k E i off=>obtain⟨hk,b,o,n,c,h1,h2⟩:=h; exact⟨(g.d k hk).1,b,o,n,c,by rw[(g.d k hk).2]; exact h1,h2⟩
 | pre k n=>obtain⟨hk,b,o,N,c,h1,h2⟩:=h; exact⟨(g.d k hk).1,b,o,N,c,by rw[(g.d k hk).2]; exact h1,h2⟩
 | fn f ka=>obtain⟨vs,h1,h2,h3⟩:=h; exact⟨vs,h1,h2,fun j c hj=>(h3 j c hj).grow g⟩
 | undef=>trivial
theorem cG.grow (g:iN H H' ρ ρ' D D') {cs:List C} {vs:Array Value} (h:cG H ρ D cs vs):cG H' ρ' D' cs vs:=
 ⟨h.1,fun j c hj=>(h.2 j c hj).grow g⟩
theorem RT.grow (g:iN H H' ρ ρ' D D') {p:Bool × List C} {v:Value} (h:RT H ρ D p v):RT H' ρ' D' p v:=by
 obtain⟨b,cs⟩:=p;cases b with
 | true=>obtain⟨vs,h1,h2⟩:=h; exact⟨vs,h1,h2.grow g⟩
 | false=>obtain⟨c,h1,h2⟩:=h; exact⟨c,h1,h2.grow g⟩
theorem RV.grow (g:iN H H' ρ ρ' D D') {c:V} {v:Value} (h:RV H ρ D c v):RV H' ρ' D' c v:=by
 cases c with
 | c x=>exact RC.grow g h
 | agg cs=>obtain⟨vs,h1,h2⟩:=h; exact⟨vs,h1,h2.grow g⟩
 | ba cs=>obtain⟨vs,h1,h2,h3⟩:=h; exact⟨vs,h1,h2,fun j p hj=>(h3 j p hj).grow g⟩
theorem mq.grow (g:iN H H' ρ ρ' D D') {env:List V} {tmps:Array Value} (h:mq H ρ D env tmps):mq H' ρ' D' env tmps:=
 ⟨h.size,fun j c hj=>(h.get j c hj).grow g⟩
end
theorem cD.mono {h h':Array Obj} {H H':Hp} {ρ ρ':aF} {D D':Nat→Prop} {B:ak} {p:Value × (Nat→Nat)} (g:iN H H' ρ ρ' D D')
   (hr:cD h H ρ D B p) (hk:∀b,0<p.2 b→h'[b]? = h[b]?):cD h' H' ρ' D' B p:=by
 cases B with
 | dead=>exact hr
 | box cs=>
   obtain⟨b,vs,e,fz,h1,h2,h3,h4,h5⟩:=hr;exact⟨b,vs,e,fz,h1,h2,by rw[hk b (by simp[h2,one])]; exact h3,h4,h5.grow g⟩
 | own E xs oM=>exact bc.mono hr hk
 | mp m=>
   obtain⟨b,es,c,h1,h2,h3,h4⟩:=hr;exact⟨b,es,c,h1,h2,by rw[hk b (by simp[h2,one])]; exact h3,h4⟩
 | view E xs=>exact⟨hr.1.mono g.h,hr.2⟩
 | bP E xs i fs=>
   obtain⟨b,o,c,cs,e,fz,S,h1,h2,h3,h4,h5,h6,h7,h8,h9⟩:=hr;refine⟨b,o,c,cs,e,fz,S,h1,h2,by rw[hk b (by rw[h2]; exact iM _ _ _ _)]; exact h3,h4,h5,h6,h7,h8,fun q x hx j l hj=> ?_⟩;have bn:=h9 q x hx j l hj
   split at bn
   · obtain⟨g1,g2,g3⟩:=bn;exact⟨(g.d _ g1).1,by rw[(g.d _ g1).2]; exact g2,g3⟩
   · refine bn.mono fun y hy=>hk y ?_;rw[h2];exact Nat.lt_of_lt_of_le hy (yu (bD hx) (by have:=bD hj; rwa [gm] at this))
theorem lG {ρ:aF} {bs:List (Nat × ak)} {k:Nat} {B:ak} (h:(k,B)∈bs) (x:Nat):(ρ k).2 x≤aP ρ bs x:=by
 induction bs with
 | nil=>cases h
 | cons p r ih=>
   simp only[aP];cases h with
   | head=>simp only; omega
   | tail _ h=>have:=ih h; omega
def aL:List (Nat × ak)→Nat→Option ak
 | [],_=>none
 | p::r,k=>if p.1=k then some p.2 else aL r k
theorem cK {bs:List (Nat × ak)} {k:Nat} {B:ak} (h:aL bs k=some B):(k,B)∈bs:=by
 induction bs with
 | nil=>simp[aL] at h
 | cons p r ih=>
   simp only[aL] at h
   split at h
   · rename_i hk; cases h; subst hk; exact List.mem_cons_self
   · exact List.mem_cons_of_mem _ (ih h)
theorem eH {bs:List (Nat × ak)} {k:Nat} {B:ak} (h:aL bs k=some B):av bs k:=List.mem_map.2 ⟨_,cK h,rfl⟩
theorem ir {bs:List (Nat × ak)} {k:Nat} (h:aL bs k=none):¬av bs k:=by
 induction bs with
 | nil=>simp[av]
 | cons p r ih=>
   simp only[aL] at h
   split at h
   · cases h
   · rename_i hk;intro hd;simp only[av,List.map_cons,List.mem_cons] at hd;rcases hd with hd | hd
     · exact hk hd.symm
     · exact ih h hd
def cU:List (Nat × ak)→Nat→ak→List (Nat × ak)
 | [],k,B=>[(k,B)]
 | p::r,k,B=>if k<p.1 then(k,B)::p::r else p::cU r k B
theorem tE {bs:List (Nat × ak)} {k:Nat} {B:ak} {q:Nat × ak}:q∈cU bs k B↔q=(k,B)∨q∈bs:=by
 induction bs with
 | nil=>simp[cU]
 | cons p r ih=>
   simp only[cU]
   split
   · simp
   · simp only[List.mem_cons,ih]
     constructor
     · rintro(h | h | h)
       · exact .inr (.inl h)
       · exact .inl h
       · exact .inr (.inr h)
     · rintro(h | h | h)
       · exact .inr (.inl h)
       · exact .inl h
       · exact .inr (.inr h)
theorem fb {bs:List (Nat × ak)} {k:Nat} {B:ak} {j:Nat}:av (cU bs k B) j↔j=k∨av bs j:=by
 simp only[av,List.mem_map,tE]
 constructor
 · rintro⟨q,h | h,rfl⟩
   · exact .inl (by rw[h])
   · exact .inr ⟨q,h,rfl⟩
 · rintro(rfl | ⟨q,h,rfl⟩)
   · exact⟨_, .inl rfl,rfl⟩
   · exact⟨q, .inr h,rfl⟩
theorem IW {bs:List (Nat × ak)} {k:Nat} {B:ak} (h:(bs.map (·.1)).Nodup) (hk:¬av bs k):((cU bs k B).map (·.1)).Nodup:=by
 induction bs with
 | nil=>simp[cU]
 | cons p r ih=>
   simp only[cU]
   split
   · simp only[List.map_cons] at h hk ⊢;exact List.nodup_cons.2 ⟨hk,h⟩
   · simp only[List.map_cons,List.nodup_cons] at h ⊢;have bw:¬av r k:=fun h'=>hk (by simp only[av,List.map_cons,List.mem_cons]; exact .inr h');refine⟨fun h'=> ?_,ih h.2 bw⟩;have:=fb.1 h';rcases this with h1 | h1
     · exact hk (by simp only[av,List.map_cons,List.mem_cons]; exact .inl h1.symm)
     · exact h.1 h1
theorem v5 {ρ:aF} {bs:List (Nat × ak)} {k:Nat} {B:ak} (x:Nat):aP ρ (cU bs k B) x=(ρ k).2 x+aP ρ bs x:=by
 induction bs with
 | nil=>simp[cU,aP]
 | cons p r ih=>
   simp only[cU]
   split
   · simp[aP]
   · simp only[aP,ih]; omega
theorem tF {ρ ρ':aF} {bs:List (Nat × ak)} (h:∀k,av bs k→ρ' k=ρ k) (x:Nat):aP ρ' bs x=aP ρ bs x:=by
 induction bs with
 | nil=>rfl
 | cons p r ih=>
   simp only[aP];rw[h p.1 (by simp[av]),ih fun k hk=>h k (by simp only[av,List.map_cons,List.mem_cons]; exact .inr hk)]
def bK:List (Nat × ak)→Nat→ak→List (Nat × ak)
 | [],_,_=>[]
 | p::r,k,B=>if p.1=k then(k,B)::r else p::bK r k B
theorem qz {bs:List (Nat × ak)} {k:Nat} {B:ak}:(bK bs k B).map (·.1)=bs.map (·.1):=by
 induction bs with
 | nil=>rfl
 | cons p r ih=>
   simp only[bK]
   split
   · rename_i h; simp[h]
   · simp[ih]
theorem dR {bs:List (Nat × ak)} {k:Nat} {B:ak} {j:Nat}:av (bK bs k B) j↔av bs j:=by simp only[av,qz]
theorem jd {bs:List (Nat × ak)} (hn:(bs.map (·.1)).Nodup) {k:Nat} {B:ak} {j:Nat} {A:ak} (h:(j,A)∈bK bs k B) :
   (j=k∧A=B)∨(j≠k∧(j,A)∈bs):=by
 induction bs with
 | nil=>simp[bK] at h
 | cons p r ih=>
   simp only[List.map_cons,List.nodup_cons] at hn;simp only[bK] at h
   split at h
   · rename_i hk;cases h with
     | head=>exact .inl ⟨rfl,rfl⟩
     | tail _ h=>
       refine .inr ⟨fun hj=>hn.1 ?_,List.mem_cons_of_mem _ h⟩;rw[hk,←hj];exact List.mem_map.2 ⟨_,h,rfl⟩
   · rename_i hk;cases h with
     | head=>exact .inr ⟨hk,List.mem_cons_self⟩
     | tail _ h=>
       rcases ih hn.2 h with h' | h'
       · exact .inl h'
       · exact .inr ⟨h'.1,List.mem_cons_of_mem _ h'.2⟩
theorem qA {ρ ρ':aF} {bs:List (Nat × ak)} (hn:(bs.map (·.1)).Nodup) {k:Nat} {B:ak} (hk:av bs k) (h:∀j,j≠k→ρ' j=ρ j) (x:Nat) :
   aP ρ' (bK bs k B) x+(ρ k).2 x=aP ρ bs x+(ρ' k).2 x:=by
 induction bs with
 | nil=>simp[av] at hk
 | cons p r ih=>
   simp only[List.map_cons,List.nodup_cons] at hn;simp only[bK]
   split
   · rename_i hp;simp only[aP];rw[tF (ρ:=ρ) (ρ':=ρ') (bs:=r) fun j hj=>h j fun he=>hn.1 (by rw[hp,←he]; exact hj)];rw[hp]; omega
   · rename_i hp;simp only[aP]
     have bw:av r k:=by
      simp only[av,List.map_cons,List.mem_cons] at hk;rcases hk with hk | hk
      · exact absurd hk.symm hp
      · exact hk
     have:=ih hn.2 bw;rw[h p.1 hp];omega
inductive Z where
 | i (k:IntKind)
 | bo
 | st
 | nl (E:an)
 | un
deriving DecidableEq
def Z.c:Z→C
 | .i k=> .lf (.int k fun _=>0)
 | .bo=> .bl false
 | .st=> .lf (.str fun _=>[])
 | .nl _=> .nil
 | .un=> .undef
def Z.ok:Z→Value→Bool
 | .i k, .int k' m=>decide (k=k') && decide (m=0)
 | .bo, .bool b=> !b
 | .st, .string s=>decide (s=ByteArray.empty)
 | .nl _, .slice none 0 0=>true
 | .un,_=>true
 | _,_=>false
def Z.ga:List Z→List Value→Bool
 | [],[]=>true
 | z::zs,v::vs=>z.ok v && Z.ga zs vs
 | _,_=>false
theorem IntKind.v7 (k:IntKind):k.has 0:=by cases k <;> simp[IntKind.has,IntKind.min,IntKind.max,IntKind.signed,IntKind.bits]
theorem Z.IX {H:Hp} {ρ:aF} {D:Nat→Prop} {z:Z} {v:Value} (h:z.ok v=true):RC H ρ D z.c v:=by
 cases z with
 | i k=>
   cases v <;> simp[Z.ok] at h
   obtain⟨rfl,rfl⟩:=h;exact RL.int (t:=fun _=>0) (IntKind.v7 _)
 | bo=>cases v <;> simp[Z.ok] at h; subst h; rfl
 | st=>
   cases v <;> simp[Z.ok] at h
   subst h;exact RL.str (t:=fun _=>[]) (by simp[cm])
 | nl E=>
   cases v with
   | slice a n c=>
     cases a with
     | none=>cases n <;> cases c <;> first | rfl | simp[Z.ok] at h
     | some a=>simp[Z.ok] at h
   | _=>simp[Z.ok] at h
 | un=>trivial
theorem Z.CD {H:Hp} {ρ:aF} {D:Nat→Prop} {zs:List Z} {vs:List Value} (h:Z.ga zs vs=true):cG H ρ D (zs.map Z.c) vs.toArray:=by
 induction zs generalizing vs with
 | nil=>
   cases vs with
   | nil=>exact⟨rfl,fun j c hj=>by simp at hj⟩
   | cons v vs=>simp[Z.ga] at h
 | cons z zs ih=>
   cases vs with
   | nil=>simp[Z.ga] at h
   | cons v vs=>
     simp only[Z.ga,Bool.and_eq_true] at h;have:=ih h.2;refine⟨by simpa using this.1,fun j c hj=> ?_⟩;cases j with
     | zero=>simp at hj; subst hj; simpa using Z.IX h.1
     | succ j=>simpa using this.2 j c (by simpa using hj)
def mr:an→List Z
 | .int=>[.i .i64]
 | .byte=>[.i .u8]
 | .str=>[.st]
 | .aI=>List.replicate 2 (.i .i64)
 | .aH=>List.replicate 4 (.i .i64)
 | .aB=>List.replicate 10 (.i .i64)
 | .cw=>[.nl .aI]
 | .ah=>List.replicate 5 (.i .i64) ++ [.nl .aH, .nl .cw]
 | .fC=>List.replicate 6 (.i .i64)
 | .rep=>[.i .i64, .nl .int]
inductive TI where
 | sl (E:an) (elem bytes:Nat)
 | st (n:Nat) (fs:List (Nat × Nat × Bool)) (z:List Z) (q:Bool)
 | sc (z:Z)
 | it (k:IntKind)
 | bt
 | ss
 | mp (kt et:Nat)
def iO:TypeDesc→Bool
 | .struct _ | .array _ _=>true
 | _=>false
def je (P:Program):List (Nat × Nat × Bool)→List Field→Bool
 | [],[]=>true
 | p ::ps,f::fs=>
   decide (f.offset=p.1) && (match P.info? f.type with | some i=>decide (i.size=p.2.1) | none=>false) && decide (p.2.1≠0) &&
    (match P.underlying f.type with | some d => iO d == p.2.2 | none => false) && decide (f.name ≠ "_") && je P ps fs
 | _,_=>false
def v8 (P:Program):Nat→List Field→Bool
 | _,[]=>true
 | j, f :: fs => decide (f.offset = j) && decide (f.name ≠ "_") && (match P.underlying f.type with | some (.int _) => true | _ => false) && v8 P (j + 1) fs
def yv (P:Program) (t:TypeId) (fields:Array Field):Bool:= !P.stoodInHeld t && !P.eqGuardType P.depth t && v8 P 0 fields.toList
def dJ (P:Program) (t:TypeId):TI→Bool
 | .sl E elem bytes=>
   (match P.underlying t with | some (.slice e)=>decide (e=elem) | _=>false) &&
    (match P.info? elem with
     | some i=>decide (i.size=E.sz) && decide (i.bytes=bytes) && (match i.zero with | some z=>Z.ga (mr E) z.cells.toList | none=>false)
     | none=>false) &&
    (match P.info? t with
     | some i=>decide (i.size=1) && (match i.zero with | some v=>v.oneCell' && (Z.nl E).ok v | none=>false)
     | none=>false)
 | .st n fs z q=>
   (match P.underlying t with | some (.struct fields)=>je P fs fields.toList && (!q || yv P t fields) | _=>false) &&
    (match P.info? t with
     | some i=>decide (i.size=n) && (match i.zero with | some (.agg cs)=>Z.ga z cs.toList | _=>false)
     | none=>false)
 | .sc z=>
   (match P.underlying t with | some d=> !iO d | none=>false) &&
    (match P.info? t with
     | some i=>decide (i.size=1) && (match i.zero with | some v=>v.oneCell' && z.ok v | none=>false)
     | none=>false)
 | .it k=>
   (match P.underlying t with | some (.int k')=>decide (k'=k) | _=>false) &&
    (match P.info? t with
     | some i=>decide (i.size=1) && (match i.zero with | some v=>v.oneCell' && (Z.i k).ok v | none=>false)
     | none=>false)
 | .bt =>
   (match P.underlying t with | some .bool=>true | _=>false) &&
    (match P.info? t with
     | some i=>decide (i.size=1) && (match i.zero with | some v=>v.oneCell' && Z.bo.ok v | none=>false)
     | none=>false)
 | .ss =>
   (match P.underlying t with | some .string=>true | _=>false) &&
    (match P.info? t with
     | some i=>decide (i.size=1) && (match i.zero with | some v=>v.oneCell' && Z.st.ok v | none=>false)
     | none=>false)
 | .mp kt et=>
   (match P.underlying t with | some (.map a b)=>decide (a=kt) && decide (b=et) | _=>false) && (match P.underlying kt with | some (.int k)=>decide (k = .i64) | _=>false) &&
    (match P.info? et with | some i=>(match i.zero with | some (.int k n)=>decide (k = .i64) && decide (n=0) | _=>false) | none=>false) &&
    (match P.info? t with
     | some i=>decide (i.size=1) && (match i.zero with | some v=>v.oneCell' && Z.un.ok v | none=>false)
     | none=>false)
structure aX where
 ts:List (Nat × TI)
 mu:List (Nat × List Bool)
 fz:List (Nat × Nat × an)
 ct:List (Nat × Nat)
def CE (P:Program) (tab:aX):Bool:=tab.ts.all fun p=>dJ P p.1 p.2
def eC (P:Program) (tab:aX):Bool:=P.follows .mixedOrders && CE P tab
def oO:List (Nat × TI)→Nat→Option TI
 | [],_=>none
 | p::r,n=>if p.1=n then some p.2 else oO r n
def cz (tab:aX) (n:Nat):Option TI:=oO tab.ts n
def CF:List (Nat × List Bool)→Nat→Option (List Bool)
 | [],_=>none
 | p::r,n=>if p.1=n then some p.2 else CF r n
def tG (tab:aX) (f:Nat):Option (List Bool):=CF tab.mu f
theorem IY {P:Program} {ts:List (Nat × TI)} (h:(ts.all fun p=>dJ P p.1 p.2)=true) {n:Nat} {ti:TI} (hg:oO ts n=some ti):dJ P n ti=true:=by
 induction ts with
 | nil=>simp[oO] at hg
 | cons p r ih=>
   simp only[List.all_cons,Bool.and_eq_true] at h;simp only[oO] at hg
   split at hg
   · rename_i hn; cases hg; subst hn; exact h.1
   · exact ih h.2 hg
theorem IZ {P:Program} {tab:aX} (h:CE P tab=true) {n:Nat} {ti:TI} (hg:cz tab n=some ti):dJ P n ti=true:=IY h hg
theorem ck {P:Program} {tab:aX} (h:eC P tab=true) {n:Nat} {ti:TI} (hg:cz tab n=some ti):dJ P n ti=true:=by
 simp only[eC,Bool.and_eq_true] at h;exact IZ h.2 hg
theorem CG {P:Program} {tab:aX} (h:eC P tab=true):P.follows .mixedOrders=true:=by
 simp only[eC,Bool.and_eq_true] at h;exact h.1
section
variable {P : Program} {t : TypeId}
theorem lH {E:an} {elem bytes:Nat} (h:dJ P t (.sl E elem bytes)=true) :
   P.underlying t=some (.slice elem)∧∃i z,P.info? elem=some i∧i.size=E.sz∧i.bytes=bytes∧i.zero=some z∧Z.ga (mr E) z.cells.toList=true:=by
 simp only[dJ,Bool.and_eq_true] at h;obtain⟨⟨h1,h2⟩,_⟩:=h
 split at h1
 · rename_i e he;simp only[decide_eq_true_eq] at h1;subst h1;refine⟨he, ?_⟩
   split at h2
   · rename_i i hi;simp only[Bool.and_eq_true,decide_eq_true_eq] at h2
     split at h2
     · rename_i z hz; exact⟨i,z,hi,h2.1.1,h2.1.2,hz,h2.2⟩
     · simp at h2
   · cases h2
 · cases h1
theorem v_ {E:an} {elem bytes:Nat} (h:dJ P t (.sl E elem bytes)=true):dJ P t (.sc (.nl E))=true:=by
 have hU:=(lH h).1;simp only[dJ,Bool.and_eq_true] at h ⊢;exact⟨by rw[hU]; rfl,h.2⟩
theorem ny {n:Nat} {fs:List (Nat × Nat × Bool)} {z:List Z} {q:Bool} (h:dJ P t (.st n fs z q)=true) :
   ∃ fields,P.underlying t=some (.struct fields)∧(je P fs fields.toList=true∧(q=true→yv P t fields=true))∧∃i cs,P.info? t=some i∧i.size=n∧i.zero=some (.agg cs)∧Z.ga z cs.toList=true:=by
 simp only[dJ,Bool.and_eq_true] at h;obtain⟨h1,h2⟩:=h
 split at h1
 · rename_i fields hf;simp only[Bool.and_eq_true] at h1;refine⟨fields,hf,⟨h1.1,fun hq=>by simpa [hq] using h1.2⟩, ?_⟩
   split at h2
   · rename_i i hi;simp only[Bool.and_eq_true,decide_eq_true_eq] at h2
     split at h2
     · rename_i cs hz; exact⟨i,cs,hi,h2.1,hz,h2.2⟩
     · simp at h2
   · cases h2
 · cases h1
theorem nz {z:Z} (h:dJ P t (.sc z)=true) :
   (∃d,P.underlying t=some d∧iO d=false)∧∃i v,P.info? t=some i∧i.size=1∧i.zero=some v∧v.oneCell'=true∧z.ok v=true:=by
 simp only[dJ,Bool.and_eq_true] at h;obtain⟨h1,h2⟩:=h
 split at h1
 · rename_i d hd;refine⟨⟨d,hd,by simpa using h1⟩, ?_⟩
   split at h2
   · rename_i i hi;simp only[Bool.and_eq_true,decide_eq_true_eq] at h2
     split at h2
     · rename_i v hv;simp only[Bool.and_eq_true] at h2;exact⟨i,v,hi,h2.1,hv,h2.2.1,h2.2.2⟩
     · simp at h2
   · cases h2
 · cases h1
theorem nB {k:IntKind} (h:dJ P t (.it k)=true):P.underlying t=some (.int k)∧dJ P t (.sc (.i k))=true:=by
 simp only[dJ,Bool.and_eq_true] at h ⊢;obtain⟨h1,h2⟩:=h
 split at h1
 · rename_i k' hd;simp only[decide_eq_true_eq] at h1;subst h1;exact⟨hd,by rw[hd]; rfl,h2⟩
 · cases h1
theorem qB (h:dJ P t .bt=true):P.underlying t=some .bool∧dJ P t (.sc .bo)=true:=by
 simp only[dJ,Bool.and_eq_true] at h ⊢;obtain⟨h1,h2⟩:=h
 split at h1
 · rename_i hd; exact⟨hd,by rw[hd]; rfl,h2⟩
 · cases h1
theorem lI (h:dJ P t .ss=true):P.underlying t=some .string∧dJ P t (.sc .st)=true:=by
 simp only[dJ,Bool.and_eq_true] at h ⊢;obtain⟨h1,h2⟩:=h
 split at h1
 · rename_i hd; exact⟨hd,by rw[hd]; rfl,h2⟩
 · cases h1
theorem oP {kt et:Nat} (h:dJ P t (.mp kt et)=true):P.underlying t=some (.map kt et)∧P.underlying kt=some (.int .i64)∧(∃i,P.info? et=some i∧i.zero=some (.int .i64 0))∧dJ P t (.sc .un)=true:=by
 simp only[dJ,Bool.and_eq_true] at h ⊢;obtain⟨⟨⟨h1,h2⟩,h3⟩,h4⟩:=h
 split at h1
 · rename_i a b hd;simp only[Bool.and_eq_true,decide_eq_true_eq] at h1;obtain⟨rfl,rfl⟩:=h1;refine⟨hd, ?_, ?_,by rw[hd]; rfl,h4⟩
   · split at h2
     · rename_i k hk; simp only[decide_eq_true_eq] at h2; subst h2; exact hk
     · cases h2
   · split at h3
     · rename_i i hi
       split at h3
       · rename_i k n hz;simp only[Bool.and_eq_true,decide_eq_true_eq] at h3;obtain⟨rfl,rfl⟩:=h3;exact⟨i,hi,hz⟩
       · cases h3
     · cases h3
 · cases h1
theorem wa {fs:List (Nat × Nat × Bool)} {l:List Field} (h:je P fs l=true) {i:Nat} {p:Nat × Nat × Bool} (hp:fs[i]? = some p) :
   ∃ f, l[i]? = some f ∧ f.offset = p.1 ∧ (∃ fi, P.info? f.type = some fi ∧ fi.size = p.2.1) ∧ p.2.1 ≠ 0 ∧ (∃ d, P.underlying f.type = some d ∧ iO d = p.2.2) ∧ f.name ≠ "_" := by
 induction fs generalizing l i with
 | nil=>simp at hp
 | cons q qs ih=>
   cases l with
   | nil=>simp[je] at h
   | cons f l=>
     simp only[je,Bool.and_eq_true] at h;obtain⟨⟨⟨⟨⟨h1,h2⟩,h3⟩,h4⟩,h6⟩,h5⟩:=h;cases i with
     | zero=>
       simp at hp; subst hp;refine⟨f,rfl,by simpa using h1, ?_,by simpa using h3, ?_,by simpa using h6⟩
       · split at h2
         · rename_i fi lK; exact⟨fi,lK,by simpa using h2⟩
         · cases h2
       · split at h4
         · rename_i d hd; exact⟨d,hd,by simpa using h4⟩
         · cases h4
     | succ i=>simpa using ih h5 (by simpa using hp)
theorem I0 {fs:List (Nat × Nat × Bool)} {l:List Field} (h:je P fs l=true):fs.length=l.length:=by
 induction fs generalizing l with
 | nil=>cases l <;> simp[je] at h ⊢
 | cons q qs ih=>
   cases l with
   | nil=>simp[je] at h
   | cons f l=>simp only[je,Bool.and_eq_true] at h; simp[ih h.2]
variable (w : World)
theorem gD {d:TypeDesc} (h:P.underlying t=some d):(underlying t).run P w = .ok d w:=run_underlying h w
theorem rH {d:TypeDesc} (h:P.underlying t=some d):(isAgg t).run P w = .ok (iO d) w:=by
 simp only[isAgg,Sem.run_bind,run_underlying h,Result.andThen_ok];cases d <;> rfl
theorem kb {i:TypeInfo} (h:P.info? t=some i):(sizeOf t).run P w = .ok i.size w:=by
 simp[sizeOf,typeInfo,h]
theorem CH {i:TypeInfo} {z:Value} (h:P.info? t=some i) (hz:i.zero=some z):(zeroValue t).run P w = .ok z w:=by
 simp[zeroValue,typeInfo,h,hz]
end
def yw (k:IntKind) (n:Int):Bool:=
 match k with
 | .i64=>decide (-9223372036854775808≤n) && decide (n≤9223372036854775807)
 | .u8=>decide (0≤n) && decide (n≤255)
 | .u64=>decide (0≤n) && decide (n≤18446744073709551615)
 | _=>false
theorem qC {n:Int}:IntKind.i64.has n↔ -9223372036854775808≤n∧n≤9223372036854775807:=by
 simp[IntKind.has,IntKind.min,IntKind.max,IntKind.signed,IntKind.bits]
theorem tH {n:Int}:IntKind.u8.has n↔0≤n∧n≤255:=by
 simp[IntKind.has,IntKind.min,IntKind.max,IntKind.signed,IntKind.bits]
theorem CI {n:Int}:IntKind.u64.has n↔0≤n∧n≤18446744073709551615:=by
 simp[IntKind.has,IntKind.min,IntKind.max,IntKind.signed,IntKind.bits]
theorem I1 {k:IntKind} {n:Int} (h:yw k n=true):k.has n:=by
 cases k <;> simp[yw] at h
 · exact qC.2 h
 · exact tH.2 h
 · exact CI.2 h
def yx:Value→V
 | .int k n=>if yw k n then .c (.lf (.int k fun _=>n)) else .c .undef
 | .bool b=> .c (.bl b)
 | .string s=>if s.data.toList.length≤cm then .c (.lf (.str fun _=>s.data.toList)) else .c .undef
 | .slice none 0 0=> .c .nil
 | _=> .c .undef
def SS.ev (σ:SS):Operand→V
 | .tmp t=>σ.env.getD t (.c .undef)
 | .const v=>yx v
 | .func f=> .c (.fn f [])
 | .global _=> .c .undef
section
variable {H : Hp} {ρ : aF} {D : Nat → Prop}
theorem I2 (v:Value):RV H ρ D (yx v) v:=by
 unfold yx
 split
 · split
   · rename_i h; exact RL.int (I1 h)
   · trivial
 · rfl
 · split
   · rename_i s h;have:=RL.str (H:=H) (t:=fun _=>s.data.toList) h;simpa [RV,RC] using this
   · trivial
 · rfl
 · trivial
theorem iu {σ:SS} {a:Act} (h:mq H ρ D σ.env a.tmps) (x:Operand):RV H ρ D (σ.ev x) (a.eval x):=by
 cases x with
 | tmp t=>
   simp only[SS.ev,Act.eval];cases ht:σ.env[t]? with
   | none=>simp[List.getD_eq_getElem?_getD,ht,RV,RC]
   | some c=>simpa [List.getD_eq_getElem?_getD,ht] using h.get t c ht
 | const v=>exact I2 v
 | global g=>trivial
 | func f=>exact⟨#[],rfl,rfl,fun j c hj=>by simp at hj⟩
theorem RL.one {l:Lf} {v:Value} (h:RL H l v):v.oneCell'=true:=by cases h <;> rfl
def C.wb:C→Bool
 | .undef=>false
 | _=>true
theorem bc.one {h:Array Obj} {l:Lf} {v:Value} {S:Nat→Nat} (ho:bc h l v S):v.oneCell'=true:=by cases ho <;> rfl
end
def SS.put (σ:SS) (d:Option Nat) (v:V):SS:=
 match d with
 | some d=>{σ with env:=σ.env.set d v}
 | none=>σ
theorem SS.wc (σ:SS) (d:Option Nat) (v:V):(σ.put d v).af=σ.af:=by cases d <;> rfl
theorem mq.put {H:Hp} {ρ:aF} {D:Nat→Prop} {σ:SS} {a:Act} {v:V} {x:Value} (h:mq H ρ D σ.env a.tmps) (hv:RV H ρ D v x) (d:Option Nat) :
   mq H ρ D (σ.put d v).env (a.put d x).tmps:=by
 cases d with
 | none=>exact h
 | some d=>
   refine⟨by simpa [SS.put,Act.put] using h.size,fun j c hj=> ?_⟩;simp only[SS.put,Act.put] at hj ⊢;rw[List.getElem?_set] at hj;rw[Array.getD_eq_getD_getElem?,Array.getElem?_setIfInBounds]
   split at hj
   · rename_i hd
     split at hj
     · rename_i aR;simp only[Option.some.injEq] at hj;subst hj;rw[if_pos hd,if_pos (by rw[h.size]; omega)];exact hv
     · cases hj
   · rename_i hd;rw[if_neg hd];simpa [Array.getD_eq_getD_getElem?] using h.get j c hj
theorem aG.put {Γ:Ctx} {H:Hp} {ρ:aF} {σ:SS} {a:Act} {w:World} (r:aG Γ H ρ σ a w) {v:V} {x:Value} (hv:RV H ρ (av σ.af) v x) (d:Option Nat) :
  aG Γ H ρ (σ.put d v) (a.put d x) w:=by
 refine⟨by rw[SS.wc]; exact r.b,by rw[SS.wc]; exact r.e.put hv d, ?_,r.n,by rw[SS.wc]; exact r.hd,by rw[SS.wc]; exact r.hm⟩;cases d <;> exact r.d
section
variable {P : Program} {w : World} {T : TypeId}
theorem cell_of {b o:Nat} {vs:Array Value} {e:TypeId} {fz:Nat × Nat} {v:Value} (hb:w.heap[b]? = some (.cells vs e fz)) (hv:vs[o]? = some v) :
 w.cell? ⟨b,o,none⟩=some v:=by simp[World.cell?,hb,hv]
theorem tI {d:TypeDesc} {b o:Nat} {vs:Array Value} {e:TypeId} {fz:Nat × Nat} {v:Value} (hU:P.underlying T=some d) (hd:iO d=false)
  (hb:w.heap[b]? = some (.cells vs e fz)) (hv:vs[o]? = some v):(Instr.loadAt T (.pointer (some ⟨b,o,none⟩))).run P w = .ok v w:=by
 simp[Instr.loadAt,Instr.sureAddr,loadVar,rH w hU,hd,cell_of hb hv]
theorem dS (b o j:Nat):(⟨b,o,none⟩:Addr).add j=⟨b,o+j,none⟩:=by
 unfold Addr.add; split
 · rename_i h; subst h; rfl
 · rfl
theorem tJ {d:TypeDesc} {i:TypeInfo} {b o:Nat} {vs:Array Value} {e:TypeId} {fz:Nat × Nat} (hU:P.underlying T=some d) (hd:iO d=true) (hi:P.info? T=some i)
  (hb:w.heap[b]? = some (.cells vs e fz)) (hs:o+i.size≤vs.size) :
  (Instr.loadAt T (.pointer (some ⟨b,o,none⟩))).run P w = .ok (.agg ((List.range i.size).map fun j=>vs.getD (o+j) Go.undef).toArray) w:=by
 have h:=run_loadCells (P:=P) w ⟨b,o,none⟩ i.size (fun j=>vs.getD (o+j) Go.undef) (fun j hj=>by
  rw[dS];refine cell_of hb ?_;rw[Array.getD_eq_getD_getElem?,Array.getElem?_eq_getElem (by omega)];rfl)
 simp[Instr.loadAt,Instr.sureAddr,loadVar,rH w hU,hd,kb w hi,h]
end
def cut (cs:List C) (o n:Nat):List C:=(cs.drop o).take n
theorem we {cs:List C} {o n j:Nat} {c:C} (h:(cut cs o n)[j]? = some c):j<n∧cs[o+j]? = some c:=by
 simp only[cut,List.getElem?_take,List.getElem?_drop] at h
 split at h
 · rename_i hj; exact⟨hj,h⟩
 · cases h
theorem wg {cs:List C} {o n:Nat} (h:o+n≤cs.length):(cut cs o n).length=n:=by simp[cut]; omega
theorem cG.cut {H:Hp} {ρ:aF} {D:Nat→Prop} {cs:List C} {vs:Array Value} (h:cG H ρ D cs vs) {o n:Nat} (hn:o+n≤cs.length) :
  cG H ρ D (cut cs o n) ((List.range n).map fun j=>vs.getD (o+j) Go.undef).toArray:=by
 refine⟨by simp[wg hn],fun j c hj=> ?_⟩;obtain⟨h1,h2⟩:=we hj;have:=h.2 _ _ h2;rw[Array.getD_eq_getD_getElem?];simp only[List.getElem?_toArray,List.getElem?_map,List.getElem?_range h1,Option.map_some,Option.getD_some];exact this
def jf (ls:List Lf):List C:=ls.map .lf
def Lf.sc:Lf→Bool
 | .list _ _=>false
 | _=>true
def cS (E:an) (xs:Unit→List E.α) (i:Unit→Nat):Unit→E.α:=fun _=>(xs ()).getD (i ()) E.j_
def rI (tab:aX) (bs:List (Nat × ak)) (T:TypeId):V→Option V
 | .c (.ptr k off)=>
   match aL bs k,cz tab T with
   | some (.box cs),some (.st n _ _ _)=>if off+n≤cs.length then some (.agg (cut cs off n)) else none
   | some (.box cs),some _=>(cs[off]?).map .c
   | _,_=>none
 | .c (.el E x off)=>
   match cz tab T with
   | some (.st n _ _ _)=>if off+n≤E.sz∧0<n then some (.agg (cut (jf (bH E x)) off n)) else none
   | some _=>((jf (bH E x))[off]?).map .c
   | none=>none
 | .c (.bN ls off)=>
   match cz tab T with
   | some (.st n _ _ _)=>if off+n≤ls.length∧0<n then some (.agg (cut (jf ls) off n)) else none
   | some _=>((jf ls)[off]?).map .c
   | none=>none
 | .c (.en k E i off)=>
   match aL bs k,cz tab T with
   | some (.own E' xs _),some (.st n _ _ _)=>if E=E'∧(((bH E' (cS E' xs i)).drop off).take n).all Lf.sc=true∧off+n≤E'.sz then some (.agg (cut (jf (bH E' (cS E' xs i))) off n)) else none
   | some (.own E' xs _),some _=>if E=E' then(match(bH E' (cS E' xs i))[off]? with | some l=>if l.sc then some (.c (.lf l)) else none | none=>none) else none
   | _,_=>none
 | _=>none
def mv (H:Hp) (ρ:aF) (rd:List Nat) (w w':World):Prop:=
 (∀b o,H b=some o→w'.heap[b]? = some o)∧∀k∈rd,∀x,0<(ρ k).2 x→w'.heap[x]? = w.heap[x]?
theorem mv.refl {Γ:Ctx} {H:Hp} {ρ:aF} {σ:SS} {a:Act} {w:World} (r:aG Γ H ρ σ a w) (rd:List Nat):mv H ρ rd w w:=
 ⟨r.b.hh,fun _ _ _ _=>rfl⟩
def rJ:V→List Nat
 | .c (.ptr k _)=>[k]
 | .c (.en k _ _ _)=>[k]
 | _=>[]
theorem mw {P:Program} {T:TypeId} {ti:TI} (h:dJ P T ti=true) :
  ∃ d i,P.underlying T=some d∧(match ti with | .st n _ _ _=>iO d=true∧P.info? T=some i∧i.size=n | _=>iO d=false):=by
 cases ti with
 | sl E elem bytes=>obtain⟨h1,i,z,h2⟩:=lH h; exact⟨_,i,h1,rfl⟩
 | st n fs z q=>obtain⟨fields,h1,_,i,cs,h2,h3,_⟩:=ny h; exact⟨_,i,h1,rfl,h2,h3⟩
 | sc z=>obtain⟨⟨d,h1,h2⟩,i,v,h3⟩:=nz h; exact⟨d,i,h1,h2⟩
 | it k=>obtain⟨_,i,v,_⟩:=nz (nB h).2; exact⟨_,i,(nB h).1,rfl⟩
 | bt=>obtain⟨_,i,v,_⟩:=nz (qB h).2; exact⟨_,i,(qB h).1,rfl⟩
 | ss=>obtain⟨_,i,v,_⟩:=nz (lI h).2; exact⟨_,i,(lI h).1,rfl⟩
 | mp kt et=>obtain⟨_,i,v,_⟩:=nz (oP h).2.2.2; exact⟨_,i,(oP h).1,rfl⟩
theorem getD_some {vs:Array Value} {o:Nat} (h:o<vs.size):vs[o]? = some (vs.getD o Go.undef):=by
 rw[Array.getD_eq_getD_getElem?,Array.getElem?_eq_getElem h]; rfl
theorem bc.yy {h:Array Obj} {H:Hp} {l:Lf} {v:Value} {S:Nat→Nat} (ho:bc h l v S) (hs:l.sc=true):RL H l v:=by
 cases ho with
 | int hr=>exact .int hr
 | bool=>exact .bool
 | str hm=>exact .str hm
 | nil h0=>simp[Lf.sc] at hs
 | list _ _ _ _ _ _ _=>simp[Lf.sc] at hs
theorem CJ {h:Array Obj} {E:an} {xs:Unit→List E.α} {b o n c:Nat} {S:Nat→Nat} (ho:bc h (.list E xs) (.slice (some ⟨b,o,none⟩) n c) S) {i:Nat} (hi:i<n) :
   ∃ cs e fz,h[b]? = some (.cells cs e fz)∧NF cs fz∧0<S b∧o+(i+1)*E.sz≤cs.size∧n=(xs ()).length∧
    ∀ j l,(bH E fun _=>(xs ()).getD i E.j_)[j]? = some l→∃S',bc h l (cs.getD (o+i*E.sz+j) Go.undef) S':=by
 generalize hv:Value.slice (some ⟨b,o,none⟩) n c=v at ho;generalize hl:Lf.list E xs=l at ho;cases ho with
 | int hr=>cases hv
 | bool=>cases hl
 | str hm=>cases hv
 | nil h0=>simp at hv
 | list S hb hf iP hm ho hc=>
   simp only[Value.slice.injEq,Option.some.injEq,Addr.mk.injEq,and_true] at hv;obtain⟨⟨rfl,rfl⟩,rfl,rfl⟩:=hv;cases hl;refine⟨_,_,_,hb,hf,iM _ _ _ _,Nat.le_trans ?_ ho,rfl,fun j l hj=>⟨_,hc i _ ?_ j l hj⟩⟩
   · exact Nat.add_le_add_left (Nat.mul_le_mul_right _ (by omega)) _
   · rw[List.getD_eq_getElem?_getD,List.getElem?_eq_getElem hi]; rfl
section
variable {P : Program} {tab : aX} (hT : eC P tab = true) {Γ : Ctx} {H : Hp} {ρ : aF} {σ : SS} {a : Act} {w : World} (r : aG Γ H ρ σ a w)
include hT r
theorem CK {T :TypeId} {x:V} {p:Value} {v:V} (h:rI tab σ.af T x=some v) (hp:RV H ρ (av σ.af) x p) :
   ∃ y,RV H ρ (av σ.af) v y∧∀w',mv H ρ (rJ x) w w'→(Instr.loadAt T p).run P w' = .ok y w':=by
 unfold rI at h
 split at h
 · rename_i k off;obtain⟨hk,b,h1,rfl⟩:=hp
   split at h
   · rename_i cs n fs z q hB aU
     split at h
     · rename_i hn;cases h;obtain⟨d,i,hU,hd,hi,dF⟩:=mw (ck hT aU);have yz:=r.b.af k _ (cK hB);obtain⟨b',vs,e,fz,h2,h3,h4,h5,h6⟩:=yz;rw[h1] at h2;simp only[Value.pointer.injEq,Option.some.injEq,Addr.mk.injEq,and_true] at h2;subst h2;refine⟨_,⟨_,rfl,h6.cut hn⟩,fun w' bw=> ?_⟩;have h7:=bw.2 k (by simp[rJ]) b (by simp[h3,one]);rw[←dF];exact tJ hU hd hi (by rw[h7]; exact h4) (by rw[dF,h6.1]; exact hn)
     · cases h
   · rename_i cs ti nC hB aU;cases hc:cs[off]? with
     | none=>simp[hc] at h
     | some c=>
       simp only[hc,Option.map_some,Option.some.injEq] at h;subst h;obtain⟨d,i,hU,hd⟩:=mw (ck hT aU)
       have qD:iO d=false:=by
         cases ti with
         | st n fs z q=>exact(nC n fs z q rfl).elim
         | _=>exact hd
       have yz:=r.b.af k _ (cK hB);obtain⟨b',vs,e,fz,h2,h3,h4,h5,h6⟩:=yz;rw[h1] at h2;simp only[Value.pointer.injEq,Option.some.injEq,Addr.mk.injEq,and_true] at h2;subst h2;refine⟨_,h6.2 _ _ hc,fun w' bw=> ?_⟩;have h7:=bw.2 k (by simp[rJ]) b (by simp[h3,one]);exact tI hU qD (by rw[h7]; exact h4) (getD_some (by rw[h6.1]; exact bD hc))
   · cases h
 · rename_i E x off;obtain⟨b,o,cs,e,fz,h1,rfl,h3⟩:=hp
   split at h
   · rename_i n fs z q aU
     split at h
     · rename_i hn;obtain⟨hn,I3⟩:=hn;cases h;obtain⟨d,i,hU,hd,hi,dF⟩:=mw (ck hT aU);have hlen:=gm E x;have eD:∀j,j<n→∃l,(bH E x)[off+j]? = some l:=fun j hj=>⟨_,List.getElem?_eq_getElem (by omega)⟩
       have aY:o+i.size≤cs.size:=by
         obtain⟨l,hl⟩:=eD (n - 1) (by omega);have:=(h3 _ l hl).1;omega
       refine⟨_,⟨_,rfl, ?_,fun j c hj=> ?_⟩,fun w' bw=>tJ hU hd hi (bw.1 _ _ h1) aY⟩
       · rw[wg (by simpa [jf,hlen] using hn)]; simp[dF]
       · obtain⟨h5,h6⟩:=we hj;simp only[jf,List.getElem?_map,Option.map_eq_some_iff] at h6;obtain⟨l,hl,rfl⟩:=h6;have:=(h3 _ _ hl).2;rw[Array.getD_eq_getD_getElem?];simp only[List.getElem?_toArray,List.getElem?_map,dF,List.getElem?_range h5,Option.map_some,Option.getD_some];exact this
     · cases h
   · rename_i ti nC aU;cases hc:(bH E x)[off]? with
     | none=>simp[jf,hc] at h
     | some l=>
       simp only[jf,List.getElem?_map,hc,Option.map_some,Option.some.injEq] at h;subst h;obtain⟨d,i,hU,hd⟩:=mw (ck hT aU)
       have qD:iO d=false:=by
         cases ti with
         | st n fs z q=>exact(nC n fs z q rfl).elim
         | _=>exact hd
       have h4:=h3 0 l (by simpa using hc);simp only[Nat.add_zero] at h4;exact⟨_,h4.2,fun w' bw=>tI hU qD (bw.1 _ _ h1) (getD_some h4.1)⟩
   · cases h
 · rename_i ls off;obtain⟨b,o,cs,e,fz,h1,rfl,h3⟩:=hp
   split at h
   · rename_i n fs z q aU
     split at h
     · rename_i hn;obtain⟨hn,I3⟩:=hn;cases h;obtain⟨d,i,hU,hd,hi,dF⟩:=mw (ck hT aU);have eD:∀j,j<n→∃l,ls[off+j]? = some l:=fun j hj=>⟨_,List.getElem?_eq_getElem (by omega)⟩
       have aY:o+i.size≤cs.size:=by
         obtain⟨l,hl⟩:=eD (n - 1) (by omega);have:=(h3 _ l hl).1;omega
       refine⟨_,⟨_,rfl, ?_,fun j c hj=> ?_⟩,fun w' bw=>tJ hU hd hi (bw.1 _ _ h1) aY⟩
       · rw[wg (by simpa [jf] using hn)]; simp[dF]
       · obtain⟨h5,h6⟩:=we hj;simp only[jf,List.getElem?_map,Option.map_eq_some_iff] at h6;obtain⟨l,hl,rfl⟩:=h6;have:=(h3 _ _ hl).2;rw[Array.getD_eq_getD_getElem?];simp only[List.getElem?_toArray,List.getElem?_map,dF,List.getElem?_range h5,Option.map_some,Option.getD_some];exact this
     · cases h
   · rename_i ti nC aU;cases hc:ls[off]? with
     | none=>simp[jf,hc] at h
     | some l=>
       simp only[jf,List.getElem?_map,hc,Option.map_some,Option.some.injEq] at h;subst h;obtain⟨d,i,hU,hd⟩:=mw (ck hT aU)
       have qD:iO d=false:=by
         cases ti with
         | st n fs z q=>exact(nC n fs z q rfl).elim
         | _=>exact hd
       have h4:=h3 0 l (by simpa using hc);simp only[Nat.add_zero] at h4;exact⟨_,h4.2,fun w' bw=>tI hU qD (bw.1 _ _ h1) (getD_some h4.1)⟩
   · cases h
 · rename_i k E i off;obtain⟨hk,b,o,n,c,h1,hi,rfl⟩:=hp
   split at h
   · rename_i E' xs oM n' fs z q hB aU
     split at h
     · rename_i hn;obtain⟨rfl,oQ,hn⟩:=hn;cases h;obtain⟨d,ii,hU,hd,tK,dF⟩:=mw (ck hT aU);have cn:bc w.heap (.list E xs) (ρ k).1 (ρ k).2:=r.b.af k _ (cK hB);rw[h1] at cn;obtain⟨cs,e,fz,h2,h3,h4,h5,h6,h7⟩:=CJ cn hi;have aY:o+i ()*E.sz+off+ii.size≤cs.size:=by rw[dF]; rw[Nat.add_mul] at h5; omega
       refine⟨_,⟨_,rfl, ?_,fun j c hj=> ?_⟩,fun w' bw=>tJ hU hd tK (by rw[bw.2 k (by simp[rJ]) b h4]; exact h2) aY⟩
       · rw[wg (by simpa [jf,gm] using hn)]; simp[dF]
       · obtain⟨h8,h9⟩:=we hj;simp only[jf,List.getElem?_map,Option.map_eq_some_iff] at h9;obtain⟨l,hl,rfl⟩:=h9;obtain⟨S',bn⟩:=h7 _ _ hl;rw[Array.getD_eq_getD_getElem?];simp only[List.getElem?_toArray,List.getElem?_map,dF,List.getElem?_range h8,Option.map_some,Option.getD_some];rw[Nat.add_assoc];exact bn.yy (List.all_eq_true.1 oQ _ (List.mem_of_getElem? (i:=j) (by rw[List.getElem?_take,if_pos h8,List.getElem?_drop]; exact hl)))
     · cases h
   · rename_i E' xs oM ti nC hB aU
     split at h
     · rename_i hE;subst hE
       split at h
       · rename_i l hl
         split at h
         · rename_i oQ;cases h;obtain⟨d,ii,hU,hd⟩:=mw (ck hT aU)
           have qD:iO d=false:=by
            cases ti with
            | st n fs z q=>exact(nC n fs z q rfl).elim
            | _=>exact hd
           have cn:bc w.heap (.list E xs) (ρ k).1 (ρ k).2:=r.b.af k _ (cK hB);rw[h1] at cn;obtain⟨cs,e,fz,h2,h3,h4,h5,h6,h7⟩:=CJ cn hi;obtain⟨S',bn⟩:=h7 _ _ hl;have aR:=bD hl;rw[gm] at aR;rw[Nat.add_mul] at h5;exact⟨_,bn.yy oQ,fun w' bw=>tI hU qD (by rw[bw.2 k (by simp[rJ]) b h4]; exact h2) (getD_some (by omega))⟩
         · cases h
       · cases h
     · cases h
   · cases h
 · cases h
end
theorem wh (k:IntKind) (n:Int):k.has (k.wrap n):=by
 cases k <;> simp only[IntKind.has,IntKind.min,IntKind.max,IntKind.wrap,IntKind.signed,IntKind.bits] <;> simp <;> (try split) <;> omega
theorem oR {k:IntKind} {n:Int} (h:k.has n):k.wrap n=n:=by
 cases k <;> simp only[IntKind.has,IntKind.min,IntKind.max,IntKind.wrap,IntKind.signed,IntKind.bits] at h ⊢ <;> simp at h ⊢ <;> (try split) <;> omega
def yA (op:BinOp) (a b:Unit→Int):Option (Unit→Bool):=
 match op with
 | .eql=>some fun _=>a () == b ()
 | .neq=>some fun _=>a () != b ()
 | .lss=>some fun _=>decide (a ()<b ())
 | .leq=>some fun _=>decide (a ()≤b ())
 | .gtr=>some fun _=>decide (b ()<a ())
 | .geq=>some fun _=>decide (b ()≤a ())
 | _=>none
def wi:V→Option (Unit→Bool)
 | .c (.bl b)=>some fun _=>b
 | .c (.lf (.bool t))=>some t
 | _=>none
def nD:List C→List C→Option (Unit→Bool)
 | [],[]=>some fun _=>true
 | .lf (.int k a)::xs, .lf (.int k' b)::ys=>if k=k' then(match nD xs ys with | some t=>some fun _=>a () == b () && t () | none=>none) else none
 | _,_=>none
def bV (t:Unit→Bool):V:= .c (.lf (.bool t))
def iV (k:IntKind) (t:Unit→Int):V:= .c (.lf (.int k t))
def yB (tab:aX) (op:BinOp) (T:TypeId):V→V→Option V
 | .c (.lf (.int k a)), .c (.lf (.int k' b))=>if k=k' then(match yA op a b with | some t=>some (bV t) | none=>none) else none
 | .c (.lf (.str a)), .c (.lf (.str b))=>
   match op with
   | .eql=>some (bV fun _=>a () == b ())
   | .neq=>some (bV fun _=> !(a () == b ()))
   | _=>none
 | .agg xs, .agg ys=>
   match cz tab T with
   | some (.st _ fs _ true)=>if xs.length=fs.length then(match op,nD xs ys with
     | .eql,some t=>some (bV t)
     | .neq,some t=>some (bV fun _=> !(t ()))
     | _,_=>none) else none
   | _=>none
 | x, y=>
   match wi x,wi y,cz tab T with
   | some a,some b,some .bt=>
     match op with
     | .eql=>some (bV fun _=>a () == b ())
     | .neq=>some (bV fun _=> !(a () == b ()))
     | _=>none
   | _,_,_=>none
section
variable {P : Program} {w : World} {H : Hp} {ρ : aF} {D : Nat → Prop}
theorem CL {x:V} {t:Unit→Bool} {v:Value} (h:wi x=some t) (hv:RV H ρ D x v):v = .bool (t ()):=by
 unfold wi at h
 split at h
 · cases h; exact hv
 · cases h;simp only[RV,RC] at hv;cases hv; rfl
 · cases h
theorem RL.of_int {k:IntKind} {t:Unit→Int} {v:Value} (h:RL H (.int k t) v):v = .int k (t ())∧k.has (t ()):=by
 cases h with | int h=>exact⟨rfl,h⟩
theorem RL.kd {t:Unit→List UInt8} {v:Value} (h:RL H (.str t) v):v = .string ⟨(t ()).toArray⟩∧(t ()).length≤cm:=by
 cases h with | str h=>exact⟨rfl,h⟩
theorem RL.of_bool {t:Unit→Bool} {v:Value} (h:RL H (.bool t) v):v = .bool (t ()):=by
 cases h; rfl
theorem CM {d :Nat} {xs ys:List C} {vs us:Array Value} {t:Unit→Bool} (hx:cG H ρ D xs vs) (hy:cG H ρ D ys us) :
   ∀ (fs:List Field) (j:Nat),v8 P j fs=true→j+fs.length=xs.length→nD (xs.drop j) (ys.drop j)=some t→
     (Op.eqFields (d+1) vs us fs).run P w = .ok (t ()) w
 | [],j,_,hl,ht=>by
   simp only[List.length_nil,Nat.add_zero] at hl;subst hl;rw[List.drop_length] at ht;cases wj:ys.drop xs.length with
   | nil=>rw[wj] at ht; simp only[nD,Option.some.injEq] at ht; subst ht; rfl
   | cons y r=>rw[wj] at ht; simp[nD] at ht
 | f :: fs, j,hb,hl,ht=>by
   simp only[v8,Bool.and_eq_true,decide_eq_true_eq] at hb;obtain⟨⟨⟨h1,h2⟩,h3⟩,h4⟩:=hb;simp only[List.length_cons] at hl;have hj:j<xs.length:=by omega
   rw[List.drop_eq_getElem_cons hj] at ht
   have yC:j<ys.length:=by
     rcases Nat.lt_or_ge j ys.length with h | h
     · exact h
     · rw[List.drop_eq_nil_of_le h] at ht;cases CN:xs[j] with
       | lf l=>rw[CN] at ht; cases l <;> simp[nD] at ht
       | _=>rw[CN] at ht; simp[nD] at ht
   rw[List.drop_eq_getElem_cons yC] at ht;have ex:=hx.2 j _ (List.getElem?_eq_getElem hj);have ey:=hy.2 j _ (List.getElem?_eq_getElem yC);generalize xs[j]=cx at *;generalize ys[j]=cy at *;unfold nD at ht
   split at ht
   · rename_i heq _; cases heq
   · rename_i k a r k' b r' gE jy;simp only[List.cons.injEq] at gE jy;obtain⟨rfl,rfl⟩:=gE;obtain⟨rfl,rfl⟩:=jy
     split at ht
     · rename_i hk;subst hk
       split at ht
       · rename_i t' I4;cases ht;obtain⟨e1,_⟩:=RL.of_int ex;obtain⟨e2,_⟩:=RL.of_int ey;have ih:=CM (d:=d) hx hy fs (j+1) h4 (by omega) I4
         split at h3
         · rename_i kf hu
           have p1:(part f.type vs f.offset).run P w = .ok (.int k (a ())) w:=by
            simp only[part,Sem.run_bind,rH w hu,iO,Result.andThen_ok,h1,getD_some (by rw[hx.1]; exact hj),e1];rfl
           have p2:(part f.type us f.offset).run P w = .ok (.int k (b ())) w:=by
            simp only[part,Sem.run_bind,rH w hu,iO,Result.andThen_ok,h1,getD_some (by rw[hy.1]; exact yC),e2];rfl
           simp only[Op.eqFields,h2,ne_eq,not_false_eq_true,if_true,Sem.run_bind,p1,p2,Result.andThen_ok,run_equalIn_int w d f.type k kf (a ()) (b ()) hu];cases I5:(a () == b ()) with
           | true=>simpa [I5] using ih
           | false=>simp
         · cases h3
       · cases ht
     · cases ht
   · cases ht
theorem CO {op:BinOp} {T:TypeId} {X Y:Operand} {k k':IntKind} {a b:Int}:(eqGuard op T X Y (.int k a) (.int k' b)).run P w = .ok () w:=by
 unfold eqGuard; cases op <;> rfl
theorem I6 {op:BinOp} {k:IntKind} {T:TypeId} {a b t} (h:yA op a b=some t):(binOp op T (.int k (a ())) (.int k (b ()))).run P w = .ok (.bool (t ())) w:=by
 cases op <;> simp only[yA] at h <;> cases h <;> simp[binOp,Op.intCmp]
end
def wk (tab:aX) (T:TypeId) (i:Nat):V→Option V
 | .c (.ptr k off)=>match cz tab T with | some (.st _ fs _ _)=>(match fs[i]? with | some p=>some (.c (.ptr k (off+p.1))) | none=>none) | _=>none
 | .c (.el E x off)=>match cz tab T with | some (.st _ fs _ _)=>(match fs[i]? with | some p=>some (.c (.el E x (off+p.1))) | none=>none) | _=>none
 | .c (.bN ls off)=>match cz tab T with | some (.st _ fs _ _)=>(match fs[i]? with | some p=>some (.c (.bN ls (off+p.1))) | none=>none) | _=>none
 | .c (.en k E j off)=>match cz tab T with | some (.st _ fs _ _)=>(match fs[i]? with | some p=>some (.c (.en k E j (off+p.1))) | none=>none) | _=>none
 | _=>none
def yD (tab:aX) (T:TypeId) (i:Nat):V→Option V
 | .agg cs=>
   match cz tab T with
   | some (.st _ fs _ _)=>
     match fs[i]? with
     | some (o,n,true)=>if o+n≤cs.length then some (.agg (cut cs o n)) else none
     | some (o,_,false)=>(match cs[o]? with | some c=>some (.c c) | none=>none)
     | none=>none
   | _=>none
 | _=>none
theorem wm {P:Program} {w:World} {T:TypeId} {n:Nat} {fs:List (Nat × Nat × Bool)} {z:List Z} {q:Bool} (h:dJ P T (.st n fs z q)=true) {i:Nat} {p:Nat × Nat × Bool} (hp:fs[i]? = some p) (b o:Nat) :
  (Instr.fieldAt T (.pointer (some ⟨b,o,none⟩)) i).run P w = .ok (.pointer (some ⟨b,o+p.1,none⟩)) w:=by
 obtain⟨fields,hU,⟨hf,_⟩,_⟩:=ny h;obtain⟨f,h1,h2,⟨fi,h3,h4⟩,h5,_⟩:=wa hf hp;have rK:fields[i]? = some f:=by simpa using h1
 have h6:fi.size≠0:=by rw[h4]; exact h5
 simp only[Instr.fieldAt,Sem.run_bind,gD w hU,Result.andThen_ok,rK,Instr.sureAddr,fieldPlace,kb w h3,Sem.run_pure,h6,if_false,dS,h2]
section
variable {P : Program} {tab : aX} (hT : eC P tab = true) {Γ : Ctx} {H : Hp} {ρ : aF} {D : Nat → Prop} {w : World}
include hT
theorem I7 {T:TypeId} {i:Nat} {x v:V} {p:Value} (h:wk tab T i x=some v) (hp:RV H ρ D x p) :
   ∃ y,RV H ρ D v y∧∀w',(Instr.fieldAt T p i).run P w' = .ok y w':=by
 unfold wk at h
 split at h
 · obtain⟨hk,b,h1,rfl⟩:=hp
   split at h
   · rename_i aU
     split at h
     · rename_i q hq;cases h;exact⟨_,⟨hk,b,h1,rfl⟩,fun w'=>wm (ck hT aU) hq b _⟩
     · cases h
   · cases h
 · rename_i E x off;obtain⟨b,o,cs,e,fz,h1,rfl,h3⟩:=hp
   split at h
   · rename_i aU
     split at h
     · rename_i q hq;cases h;refine⟨_,⟨b,o+q.1,cs,e,fz,h1,rfl,fun j l hj=> ?_⟩,fun w'=>wm (ck hT aU) hq b _⟩;have:=h3 (q.1+j) l (by rw[←Nat.add_assoc]; exact hj);rw[←Nat.add_assoc] at this;exact this
     · cases h
   · cases h
 · rename_i ls off;obtain⟨b,o,cs,e,fz,h1,rfl,h3⟩:=hp
   split at h
   · rename_i aU
     split at h
     · rename_i q hq;cases h;refine⟨_,⟨b,o+q.1,cs,e,fz,h1,rfl,fun j l hj=> ?_⟩,fun w'=>wm (ck hT aU) hq b _⟩;have:=h3 (q.1+j) l (by rw[←Nat.add_assoc]; exact hj);rw[←Nat.add_assoc] at this;exact this
     · cases h
   · cases h
 · obtain⟨hk,b,o,n,c,h1,hi,rfl⟩:=hp
   split at h
   · rename_i aU
     split at h
     · rename_i q hq;cases h;exact⟨_,⟨hk,b,o,n,c,h1,hi,rfl⟩,fun w'=>by rw[←Nat.add_assoc]; exact wm (ck hT aU) hq b _⟩
     · cases h
   · cases h
 · cases h
theorem I8 {T:TypeId} {i:Nat} {x v:V} {p:Value} (h:yD tab T i x=some v) (hp:RV H ρ D x p) :
   ∃ y,RV H ρ D v y∧∀w',(Instr.field T p i).run P w' = .ok y w':=by
 unfold yD at h
 split at h
 · rename_i cs;obtain⟨vs,rfl,cV⟩:=hp
   split at h
   · rename_i n fs z q aU;obtain⟨fields,hU,⟨hf,_⟩,_⟩:=ny (ck hT aU)
     split at h
     · rename_i o m hq
       split at h
       · rename_i hle;cases h;obtain⟨f,h1,h2,⟨fi,h3,h4⟩,h5,⟨d,h6,h7⟩,_⟩:=wa hf hq;have rK:fields[i]? = some f:=by simpa using h1
         refine⟨_,⟨_,rfl,cV.cut hle⟩,fun w'=> ?_⟩;simp only[Instr.field,Sem.run_bind,gD w' hU,Result.andThen_ok,rK,asAgg,Sem.run_pure,part,rH w' h6,h7,kb w' h3,h2,h4,if_true]
         congr 2
         apply Array.ext
         · simp only[Array.size_extract,List.size_toArray,List.length_map,List.length_range]; have:=cV.1; omega
         · intro j hO CP;simp only[Array.getElem_extract,List.getElem_toArray,List.getElem_map,List.getElem_range];rw[Array.getD_eq_getD_getElem?,Array.getElem?_eq_getElem];rfl
       · cases h
     · rename_i o m hq
       split at h
       · rename_i c hc;cases h;obtain⟨f,h1,h2,⟨fi,h3,h4⟩,h5,⟨d,h6,h7⟩,_⟩:=wa hf hq;have rK:fields[i]? = some f:=by simpa using h1
         refine⟨_,cV.2 _ _ hc,fun w'=> ?_⟩
         simp only[Instr.field,Sem.run_bind,gD w' hU,Result.andThen_ok,rK,asAgg,Sem.run_pure,part,rH w' h6,h7,h2,Bool.false_eq_true,if_false,
           getD_some (show o<vs.size by rw[cV.1]; exact bD hc)]
       · cases h
     · cases h
   · cases h
 · cases h
theorem I9 {op:BinOp} {T:TypeId} {x y v:V} {p q:Value} {X Y:Operand} (h:yB tab op T x y=some v) (hp:RV H ρ D x p) (hq:RV H ρ D y q) :
   ∃ z,RV H ρ D v z∧∀w',((do eqGuard op T X Y p q; binOp op T p q):Sem Value).run P w' = .ok z w':=by
 unfold yB at h
 split at h
 · obtain⟨rfl,_⟩:=RL.of_int hp;obtain⟨rfl,_⟩:=RL.of_int hq
   split at h
   · rename_i hk;subst hk
     split at h
     · rename_i t ht;cases h;refine⟨_,RL.bool,fun w'=> ?_⟩;rw[Sem.run_bind,CO,Result.andThen_ok,I6 ht]
     · cases h
   · cases h
 · rename_i a b;obtain⟨rfl,_⟩:=RL.kd hp;obtain⟨rfl,_⟩:=RL.kd hq
   split at h
   · cases h;refine⟨_,RL.bool,fun w'=> ?_⟩;simp[eqGuard,binOp,Op.stringOp]
   · cases h;refine⟨_,RL.bool,fun w'=> ?_⟩;simp[eqGuard,binOp,Op.stringOp]
   · cases h
 · rename_i xs ys;obtain⟨vs,rfl,hx⟩:=hp;obtain⟨us,rfl,hy⟩:=hq
   split at h
   · rename_i n fs z aU
     split at h
     · rename_i hn;obtain⟨fields,hU,⟨hf,hq⟩,_⟩:=ny (ck hT aU);have rL:=hq rfl;simp only[yv,Bool.and_eq_true,Bool.not_eq_true'] at rL;obtain⟨⟨g1,g2⟩,g3⟩:=rL;have CQ:P.fieldsOf T=fields:=by simp[Program.fieldsOf,hU]
       have hlen:=I0 hf
       have main:∀t,nD xs ys=some t→∀w',(Op.equalIn 10000 T (.agg vs) (.agg us)).run P w' = .ok (t ()) w':=fun t ht w'=>by
         rw[run_equalIn_agg w' 9999 T vs us (by rw[CQ]; exact hU) g1,CQ];exact CM hx hy fields.toList 0 g3 (by omega) (by simpa using ht)
       split at h
       · rename_i t ht;cases h;refine⟨_,RL.bool,fun w'=> ?_⟩;rw[Sem.run_bind,run_eqGuard_agg w' _ T X Y vs us g2,Result.andThen_ok,run_eql_struct,main t ht];rfl
       · rename_i t ht;cases h;refine⟨_,RL.bool,fun w'=> ?_⟩;rw[Sem.run_bind,run_eqGuard_agg w' _ T X Y vs us g2,Result.andThen_ok,run_neq_struct,main t ht];rfl
       · cases h
     · cases h
   · cases h
 · split at h
   · rename_i a b ha hb aU;have hu:=(qB (ck hT aU)).1;have e1:=CL ha hp;have e2:=CL hb hq;subst e1 e2
     split at h
     · cases h;refine⟨_,RL.bool,fun w'=> ?_⟩;simp[eqGuard,binOp,run_equal_bool w' T _ _ hu]
     · cases h;refine⟨_,RL.bool,fun w'=> ?_⟩;simp[eqGuard,binOp,run_equal_bool w' T _ _ hu]
     · cases h
   · cases h
end
def my:V→Option (List C)
 | .c .undef=>none
 | .c x=>some [x]
 | .agg cs=>some cs
 | .ba _=>none
theorem RL.cells {H:Hp} {l:Lf} {v:Value} (h:RL H l v):v.cells = #[v]:=by cases h <;> rfl
theorem RC.cells {H:Hp} {ρ:aF} {D:Nat→Prop} {c:C} {v:Value} (h:RC H ρ D c v) (hc:c.wb=true) (hv:∀k,c = .own k→v.oneCell'=true):v.cells = #[v]∧v.oneCell'=true:=by
 cases c with
 | lf l=>exact⟨RL.cells h,RL.one h⟩
 | bl b=>simp only[RC] at h; subst h; exact⟨rfl,rfl⟩
 | nil=>simp only[RC] at h; subst h; exact⟨rfl,rfl⟩
 | own k=>have:=hv k rfl; cases v <;> simp[Value.oneCell'] at this <;> exact⟨rfl,rfl⟩
 | ptr k off=>obtain⟨_,b,_,rfl⟩:=h; exact⟨rfl,rfl⟩
 | el E x off=>obtain⟨b,o,cs,e,fz,_,rfl,_⟩:=h; exact⟨rfl,rfl⟩
 | bN ls off=>obtain⟨b,o,cs,e,fz,_,rfl,_⟩:=h; exact⟨rfl,rfl⟩
 | en k E i off=>obtain⟨_,b,o,n,c,_,_,rfl⟩:=h; exact⟨rfl,rfl⟩
 | pre k n=>obtain⟨_,b,o,N,c,_,_,rfl⟩:=h; exact⟨rfl,rfl⟩
 | fn f ka=>obtain⟨vs,rfl,_⟩:=h; exact⟨rfl,rfl⟩
 | undef=>simp[C.wb] at hc
def wo:List C→Nat→List C→List C
 | cs,_,[]=>cs
 | cs,o,x::xs=>wo (cs.set o x) (o+1) xs
def cZ (vs:Array Value) (o:Nat):List Value→Array Value
 | []=>vs
 | x::xs=>cZ (vs.setIfInBounds o x) (o+1) xs
theorem cG.set {H:Hp} {ρ:aF} {D:Nat→Prop} {cs:List C} {vs:Array Value} (h:cG H ρ D cs vs) {o:Nat} {c:C} {v:Value} (hv:RC H ρ D c v):cG H ρ D (cs.set o c) (vs.setIfInBounds o v):=by
 refine⟨by simpa using h.1,fun j x hj=> ?_⟩;rw[List.getElem?_set] at hj;rw[Array.getD_eq_getD_getElem?,Array.getElem?_setIfInBounds]
 split at hj
 · rename_i ho
   split at hj
   · cases hj;rw[if_pos ho,if_pos (by rw[h.1]; omega)];exact hv
   · cases hj
 · rename_i ho;rw[if_neg ho,←Array.getD_eq_getD_getElem?];exact h.2 j x hj
theorem cG.wq {H:Hp} {ρ:aF} {D:Nat→Prop}:∀(xs:List C) (us:List Value) {cs:List C} {vs:Array Value} {o:Nat},cG H ρ D cs vs→cG H ρ D xs us.toArray→
   cG H ρ D (wo cs o xs) (cZ vs o us)
 | [],us,cs,vs,o,h,hx=>by
   have:us = []:=by have:=hx.1; simpa using this
   subst this;exact h
 | x ::xs,us,cs,vs,o,h,hx=>by
   cases us with
   | nil=>have:=hx.1; simp at this
   | cons u us=>
     have h0:=hx.2 0 x rfl;refine cG.wq xs us (h.set (by simpa using h0)) ⟨by simpa using hx.1,fun j c hj=> ?_⟩;have:=hx.2 (j+1) c (by simpa using hj);simpa using this
theorem I_ (vs:Array Value) (o:Nat) (us:List Value) (k:Nat):(us.zipIdx k).foldl (fun cs (p:Value × Nat)=>cs.setIfInBounds (o+p.2) p.1) vs=cZ vs (o+k) us:=by
 induction us generalizing vs k with
 | nil=>rfl
 | cons u us ih=>simp only[List.zipIdx_cons,List.foldl_cons,cZ]; rw[ih]; rfl
def tL (fs:List (Nat × Nat × Bool)):List C→List (Nat × V)→Option (List C)
 | cs,[]=>some cs
 | cs,(i,v)::rest=>
   match fs[i]?,my v with
   | some p,some xs=>if xs.length=p.2.1∧p.1+xs.length≤cs.length then tL fs (wo cs p.1 xs) rest else none
   | _,_=>none
def CR:V→Option Cp
 | .c (.ptr k off)=>some (.ptr k off)
 | .c (.el E x off)=>some (.el E x off)
 | .c (.bN ls off)=>some (.bN ls off)
 | _=>none
def ka:List V→Option (List Cp)
 | []=>some []
 | x::xs=>match CR x,ka xs with | some c,some cs=>some (c::cs) | _,_=>none
def yE (tab:aX) (bs:List (Nat × ak)) (T:TypeId):V→Option (Unit→Nat)
 | .c (.lf (.list _ xs))=>match cz tab T with | some (.sl _ _ _)=>some fun _=>(xs ()).length | _=>none
 | .c (.own k)=>match cz tab T,aL bs k with | some (.sl _ _ _),some (.own _ xs _)=>some fun _=>(xs ()).length | some (.sl _ _ _),some (.view _ xs)=>some fun _=>(xs ()).length | _,_=>none
 | .c .nil=>match cz tab T with | some (.sl _ _ _)=>some fun _=>0 | _=>none
 | .c (.lf (.str t))=>match cz tab T with | some .ss=>some fun _=>(t ()).length | _=>none
 | _=>none
def yF:V→Option V
 | .c (.bl b)=>some (.c (.bl (!b)))
 | .c (.lf (.bool t))=>some (bV fun _=> !(t ()))
 | _=>none
def yG:List V→Option (IntKind × (Unit→Int))
 | [.c (.lf (.int k a)), .c (.lf (.int k' b))]=>if k=k' then some (k,fun _=>if b ()>a () then b () else a ()) else none
 | _=>none
def yH:List V→Option (IntKind × (Unit→Int))
 | [.c (.lf (.int k a)), .c (.lf (.int k' b))]=>if k=k' then some (k,fun _=>if b ()<a () then b () else a ()) else none
 | _=>none
def yI (tab:aX) (src dst:TypeId):V→Option V
 | .c (.lf (.int k a))=>
   match cz tab src,cz tab dst with
   | some (.it _),some (.it .i64)=>if k = .u8∨k = .i64 then some (iV .i64 a) else some (iV .i64 fun _=>IntKind.i64.wrap (a ()))
   | some (.it _),some (.it k')=>some (iV k' fun _=>k'.wrap (a ()))
   | _,_=>none
 | _=>none
def CS:V→Bool
 | .c (.ptr _ _) | .c (.el _ _ _) | .c (.bN _ _) | .c (.en _ _ _ _) | .c (.fn _ _)=>true
 | _=>false
def ex (tab:aX) (o:Oper) (σ:SS):Option V:=
 match o.op with
 | .move x | .assign x=>some (σ.ev x)
 | .pick c a b=>match σ.ev c with | .c (.bl true)=>some (σ.ev a) | .c (.bl false)=>some (σ.ev b) | _=>none
 | .load T x=>rI tab σ.af T (σ.ev x)
 | .fieldAddr T x i=>wk tab T i (σ.ev x)
 | .field T x i=>yD tab T i (σ.ev x)
 | .build T parts=>
   match cz tab T with
   | some (.st _ fs z _)=>(match tL fs (z.map Z.c) (parts.toList.map fun p=>(p.1,σ.ev p.2)) with | some cs=>some (.agg cs) | none=>none)
   | _=>none
 | .unOp .not _ x=>yF (σ.ev x)
 | .extract x i=>
   match σ.ev x with
   | .ba cs=>(match cs[i]? with | some (true,l)=>some (.agg l) | some (false,[c])=>some (.c c) | _=>none)
   | _=>none
 | .nilCheck x=>if CS (σ.ev x) then some (σ.ev x) else none
 | .makeFunc (.func f) first captured=>if first.size=0 then(match ka (captured.toList.map σ.ev) with | some l=>some (.c (.fn f l)) | none=>none) else none
 | .binOp op T x y _=>yB tab op T (σ.ev x) (σ.ev y)
 | .convert src dst x=>yI tab src dst (σ.ev x)
 | .call c=>
   match c.callee with
   | .builtin .len=>(match c.args.toList,c.argTypes.toList with
     | [x],[T]=>(match yE tab σ.af T (σ.ev x) with | some n=>some (iV .i64 fun _=>(n ():Int)) | none=>none)
     | _,_=>none)
   | .builtin .max=>(match yG (c.args.toList.map σ.ev) with | some (k,t)=>some (iV k t) | none=>none)
   | .builtin .min=>(match yH (c.args.toList.map σ.ev) with | some (k,t)=>some (iV k t) | none=>none)
   | _=>none
 | _=>none
def oS (o:Oper) (σ:SS):List Nat:=
 match o.op with
 | .load _ x=>rJ (σ.ev x)
 | _=>[]
section
variable {P : Program} {H : Hp} {ρ : aF} {D : Nat → Prop}
theorem RV.cells {c:V} {v:Value} {cs:List C} (h:RV H ρ D c v) (hc:my c=some cs) (hk:∀k,c = .c (.own k)→v.oneCell'=true):cG H ρ D cs v.cells:=by
 cases c with
 | c x=>
   have hd:x.wb=true∧cs = [x]:=by
    cases x <;> simp[my] at hc <;> exact⟨rfl,hc.symm⟩
   obtain⟨hd,rfl⟩:=hd;obtain⟨h1,h2⟩:=RC.cells h hd fun k bw=>hk k (by rw[bw]);rw[h1];refine⟨rfl,fun j c hj=> ?_⟩;cases j with
   | zero=>simp at hj; subst hj; exact h
   | succ j=>simp at hj
 | agg l=>simp only[my,Option.some.injEq] at hc; subst hc; obtain⟨vs,rfl,h1⟩:=h; exact h1
 | ba l=>simp[my] at hc
theorem CT {fs:List (Nat × Nat × Bool)} {places:Array (Nat × Nat)} (nE:∀(i:Nat) (p:Nat × Nat × Bool),fs[i]? = some p→places[i]? = some (p.1,p.2.1))
   (cn:∀k,D k→(ρ k).1.oneCell'=true) :
   ∀ (parts:List (Nat × V)) (nF:List (Nat × Value)) (cs:List C) (vs:Array Value) (out:List C),cG H ρ D cs vs→parts.length=nF.length→
     (∀(j:Nat) i v i' x,parts[j]? = some (i,v)→nF[j]? = some (i',x)→i'=i∧RV H ρ D v x)→tL fs cs parts=some out→
     ∃ us,Instr.fill (places[·]?) vs nF=some us∧cG H ρ D out us
 | [],nF,cs,vs,out,h,hl,_,hf=>by
   cases nF with
   | nil=>simp only[tL,Option.some.injEq] at hf; subst hf; exact⟨vs,rfl,h⟩
   | cons v vs=>simp at hl
 | (i, v) ::parts,nF,cs,vs,out,h,hl,hv,hf=>by
   cases nF with
   | nil=>simp at hl
   | cons q nF=>
     obtain⟨i',x⟩:=q;obtain⟨rfl,hx⟩:=hv 0 i v i' x rfl rfl;simp only[tL] at hf
     split at hf
     · rename_i p xs hp tM
       split at hf
       · rename_i hle
         have hc:=hx.cells tM fun k hk=>by
          subst hk;obtain⟨hd,rfl⟩:=hx;exact cn k hd
         have aY:x.cells.size=xs.length:=hc.1;have h1:=cG.wq xs x.cells.toList (o:=p.1) h (by simpa using hc);obtain⟨us,h2,h3⟩:=CT nE cn parts nF _ _ out h1 (by simpa using hl) (fun j i v i' x h4 h5=>hv (j+1) i v i' x (by simpa using h4) (by simpa using h5)) hf;refine⟨us, ?_,h3⟩
         have qE:¬((decide (x.cells.size≠p.2.1) || decide (p.1+x.cells.size>vs.size))=true):=by
          have h4:=h.1;have h5:=hle.1;have h6:=hle.2;simp only[aY,h5,Bool.or_eq_true,decide_eq_true_eq];omega
         simp only[Instr.fill,nE _ _ hp];rw[if_neg qE];rw[←h2]
         congr 1
         rw[←Array.foldl_toList];have:=I_ vs p.1 x.cells.toList 0;simp only[Nat.add_zero] at this;rw[←this];simp[Array.toList_zipIdx]
       · cases hf
     · cases hf
theorem CU:∀{fs:List (Nat × Nat × Bool)} {l:List Field},je P fs l=true→∀w:World,
   (l.mapM (fun f=>do pure (f.offset,←sizeOf f.type)):Sem (List (Nat × Nat))).run P w = .ok (fs.map fun p=>(p.1,p.2.1)) w
 | [],[],_,w=>by simp
 | [],_::_,h,_=>by simp[je] at h
 | _::_,[],h,_=>by simp[je] at h
 | p ::fs,f::l,h,w=>by
   obtain⟨f',h1,h2,⟨fi,h3,h4⟩,_⟩:=wa (i:=0) (p:=p) h rfl;cases h1;simp only[je,Bool.and_eq_true] at h;have ih:=CU h.2 w;rw[List.mapM_cons,Sem.run_bind,Sem.run_bind,kb w h3,Result.andThen_ok,Sem.run_pure,Result.andThen_ok,Sem.run_bind,ih];simp[h2,h4]
theorem run_places {fs:List (Nat × Nat × Bool)} {fields:Array Field} (h:je P fs fields.toList=true) (w:World) :
  (fields.mapM (fun f=>do pure (f.offset,←sizeOf f.type)):Sem (Array (Nat × Nat))).run P w = .ok (fs.map fun p=>(p.1,p.2.1)).toArray w:=by
 rw[Array.mapM_eq_mapM_toList,Sem.run_map,CU h w];rfl
theorem Ja {x v:V} {p:Value} (h:yF x=some v) (hp:RV H ρ D x p):∃y,RV H ρ D v y∧∀w',(Op.unary .not p).run P w' = .ok y w':=by
 unfold yF at h
 split at h
 · cases h; simp only[RV,RC] at hp; subst hp; exact⟨_,rfl,fun w'=>rfl⟩
 · cases h; have:=RL.of_bool hp; subst this; exact⟨_,RL.bool,fun w'=>rfl⟩
 · cases h
theorem CV :∀(xs:List V) (vs:List Value) (l:List Cp),xs.length=vs.length→(∀(j:Nat) x v,xs[j]? = some x→vs[j]? = some v→RV H ρ D x v)→ka xs=some l→
   vs.length=l.length∧∀j c,l[j]? = some c→dz H ρ D c (vs.toArray.getD j Go.undef)
 | [],vs,l,hl,_,h=>by
   cases vs with
   | nil=>simp only[ka,Option.some.injEq] at h; subst h; exact⟨rfl,fun j c hj=>by simp at hj⟩
   | cons v vs=>simp at hl
 | x :: xs,vs,l,hl,hv,h=>by
   cases vs with
   | nil=>simp at hl
   | cons v vs=>
     simp only[ka] at h
     split at h
     · rename_i c cs hc cV;cases h;obtain⟨h1,h2⟩:=CV xs vs cs (by simpa using hl) (fun j x v hj cF=>hv (j+1) x v (by simpa using hj) (by simpa using cF)) cV;refine⟨by simpa using h1,fun j d hj=> ?_⟩;cases j with
       | zero=>
         simp only[List.getElem?_cons_zero,Option.some.injEq] at hj;subst hj;have:=hv 0 x v rfl rfl;unfold CR at hc
         split at hc
         · cases hc; exact this
         · cases hc; exact this
         · cases hc; exact this
         · cases hc
       | succ j=>simpa using h2 j d (by simpa using hj)
     · cases h
end
section
variable {P : Program} {tab : aX} (hT : eC P tab = true) {Γ : Ctx} {H : Hp} {ρ : aF} {σ : SS} {a : Act} {w : World} (r : aG Γ H ρ σ a w)
include hT r
omit hT in
theorem oT {k:Nat} {E:an} {xs:Unit→List E.α} {oM:Bool} (h:aL σ.af k=some (.own E xs oM)):bc w.heap (.list E xs) (ρ k).1 (ρ k).2:=r.b.af k _ (cK h)
omit hT r in
theorem bc.slice {h:Array Obj} {E:an} {xs:Unit→List E.α} {v:Value} {S:Nat→Nat} (ho:bc h (.list E xs) v S):∃b c,v = .slice b (xs ()).length c∧(xs ()).length≤cm:=by
 generalize hl:Lf.list E xs=l at ho;cases ho with
 | int hr=>cases hl
 | bool=>cases hl
 | str hm=>cases hl
 | nil h0=>cases hl; exact⟨none,0,by simp[h0],by simp[h0,cm]⟩
 | list S hb hf iP hm ho hc=>cases hl; exact⟨_,_,rfl,hm⟩
omit hT r in
theorem RL.slice {E:an} {xs:Unit→List E.α} {v:Value} (ho:RL H (.list E xs) v):∃b c,v = .slice b (xs ()).length c∧(xs ()).length≤cm:=by
 generalize hl:Lf.list E xs=l at ho;cases ho with
 | int hr=>cases hl
 | bool=>cases hl
 | str hm=>cases hl
 | nil h0=>cases hl; exact⟨_,_,by rw[h0]; rfl,by simp[h0,cm]⟩
 | list hb iP hm ho hc=>cases hl; exact⟨_,_,rfl,hm⟩
theorem Jb {T ty:TypeId} {x:V} {p:Value} {n:Unit→Nat} (h:yE tab σ.af T x=some n) (hp:RV H ρ (av σ.af) x p) :
   n ()≤cm∧∀w',(Builtin.len_ #[T] ty #[p]).run P w' = .ok (.int .i64 (n ())) w':=by
 unfold yE at h
 split at h
 · split at h
   · rename_i aU;cases h;obtain⟨b,c,rfl,hm⟩:=RL.slice hp;exact⟨hm,fun w'=>by simp[Builtin.len_,gD w' (lH (ck hT aU)).1,goInt]⟩
   · cases h
 · rename_i k
   split at h
   · rename_i aU hB;cases h;obtain⟨hd,rfl⟩:=hp;obtain⟨b,c,h1,hm⟩:=bc.slice (oT r hB);rw[h1];exact⟨hm,fun w'=>by simp[Builtin.len_,gD w' (lH (ck hT aU)).1,goInt]⟩
   · rename_i aU hB;cases h;obtain⟨hd,rfl⟩:=hp;obtain⟨b,c,h1,hm⟩:=RL.slice (r.b.af k _ (cK hB)).1;rw[h1];exact⟨hm,fun w'=>by simp[Builtin.len_,gD w' (lH (ck hT aU)).1,goInt]⟩
   · cases h
 · split at h
   · rename_i aU;cases h;simp only[RV,RC] at hp;subst hp;exact⟨by simp[cm],fun w'=>by simp[Builtin.len_,gD w' (lH (ck hT aU)).1,goInt]⟩
   · cases h
 · split at h
   · rename_i aU;cases h;obtain⟨rfl,hm⟩:=RL.kd hp;exact⟨hm,fun w'=>by simp[Builtin.len_,gD w' (lI (ck hT aU)).1,goInt]; rfl⟩
   · cases h
 · cases h
omit hT in
theorem tN {k:Nat} {p:Value} (hp:RV H ρ (av σ.af) (.c (.own k)) p):p.oneCell'=true:=by
 obtain⟨hd,rfl⟩:=hp; exact r.b.oc k hd
omit r in
theorem Jc {src dst:TypeId} {x v:V} {p:Value} (h:yI tab src dst x=some v) (hp:RV H ρ (av σ.af) x p) :
   ∃ y,RV H ρ (av σ.af) v y∧∀w',(convert src dst p).run P w' = .ok y w':=by
 unfold yI at h
 split at h
 · rename_i k t;obtain⟨rfl,hh⟩:=RL.of_int hp
   have key:∀k1 k',dJ P src (.it k1)=true→dJ P dst (.it k')=true→∀w',(convert src dst (.int k (t ()))).run P w' = .ok (.int k' (k'.wrap (t ()))) w':=fun k1 k' h1 h2 w'=>by
     simp[convert,gD w' (nB h1).1,gD w' (nB h2).1,Conv.intToInt]
   split at h
   · rename_i k1 hs hd
     split at h
     · rename_i hk;cases h
       have CW:IntKind.i64.has (t ()):=by
        rcases hk with rfl | rfl
        · have:=tH.1 hh; exact qC.2 (by omega)
        · exact hh
       refine⟨_,RL.int CW,fun w'=> ?_⟩;rw[key _ _ (ck hT hs) (ck hT hd),oR CW]
     · cases h;exact⟨_,RL.int (t:=fun _=>IntKind.i64.wrap (t ())) (wh _ _),fun w'=>key _ _ (ck hT hs) (ck hT hd) w'⟩
   · rename_i k1 k' hne hs hd;cases h;exact⟨_,RL.int (t:=fun _=>IntKind.wrap k' (t ())) (wh _ _),fun w'=>key _ _ (ck hT hs) (ck hT hd) w'⟩
   · cases h
 · cases h
omit hT r in
theorem Jd {xs:List V} {vs:List Value} {k:IntKind} {t:Unit→Int} {D:Nat→Prop} (h:yG xs=some (k,t)) (hl:xs.length=vs.length)
   (hv:∀(j:Nat) x v,xs[j]? = some x→vs[j]? = some v→RV H ρ D x v) (at_:Array TypeId) (ty:TypeId) :
   k.has (t ())∧∀w',(Builtin.max_ at_ ty vs.toArray).run P w' = .ok (.int k (t ())) w':=by
 unfold yG at h
 split at h
 · rename_i k a k' b
   split at h
   · rename_i hk;subst hk;cases h
     match vs,hl with
     | [v,u],_=>
       obtain⟨rfl,h1⟩:=RL.of_int (hv 0 _ _ rfl rfl);obtain⟨rfl,h2⟩:=RL.of_int (hv 1 _ _ rfl rfl);refine⟨?_,fun w'=>by simp[Builtin.max_,Builtin.max2]⟩;show IntKind.has k (if b ()>a () then b () else a ())
       split <;> assumption
   · cases h
 · cases h
omit hT r in
theorem Je {xs:List V} {vs:List Value} {k:IntKind} {t:Unit→Int} {D:Nat→Prop} (h:yH xs=some (k,t)) (hl:xs.length=vs.length)
   (hv:∀(j:Nat) x v,xs[j]? = some x→vs[j]? = some v→RV H ρ D x v) (at_:Array TypeId) (ty:TypeId) :
   k.has (t ())∧∀w',(Builtin.min_ at_ ty vs.toArray).run P w' = .ok (.int k (t ())) w':=by
 unfold yH at h
 split at h
 · rename_i k a k' b
   split at h
   · rename_i hk;subst hk;cases h
     match vs,hl with
     | [v,u],_=>
       obtain⟨rfl,h1⟩:=RL.of_int (hv 0 _ _ rfl rfl);obtain⟨rfl,h2⟩:=RL.of_int (hv 1 _ _ rfl rfl);refine⟨?_,fun w'=>by simp[Builtin.min_,Builtin.min2]⟩;show IntKind.has k (if b ()<a () then b () else a ())
       split <;> assumption
   · cases h
 · cases h
omit hT in
theorem tO (args:Array Operand) (j:Nat) (x:V) (v:Value) (h:(args.toList.map σ.ev)[j]? = some x) (h':(args.map a.eval).toList[j]? = some v):RV H ρ (av σ.af) x v:=by
 simp only[Array.toList_map,List.getElem?_map,Option.map_eq_some_iff] at h h';obtain⟨o,h1,rfl⟩:=h;obtain⟨o',h2,rfl⟩:=h';rw[h1] at h2;cases h2;exact iu r.e o
theorem Jf {o:Oper} {v:V} (h:ex tab o σ=some v) :
   ∃ y,RV H ρ (av σ.af) v y∧∀w',mv H ρ (oS o σ) w w'→(execOp a.eval o).run P w' = .ok (.value y) w':=by
 have ev:=iu r.e;unfold ex at h
 split at h
 · rename_i x aQ; cases h; exact⟨_,ev x,fun w' _=>by simp[execOp,aQ]⟩
 · rename_i x aQ; cases h; exact⟨_,ev x,fun w' _=>by simp[execOp,aQ]⟩
 · rename_i c x y aQ;have hc:=ev c
   split at h
   · rename_i ke;rw[ke] at hc;simp only[RV,RC] at hc;cases h; exact⟨_,ev x,fun w' _=>by simp[execOp,aQ,hc,asBool]⟩
   · rename_i ke;rw[ke] at hc;simp only[RV,RC] at hc;cases h; exact⟨_,ev y,fun w' _=>by simp[execOp,aQ,hc,asBool]⟩
   · cases h
 · rename_i T x aQ;obtain⟨y,h1,h2⟩:=CK hT r h (ev x);refine⟨y,h1,fun w' hk=> ?_⟩;have:=h2 w' (by simpa [oS,aQ] using hk);simp[execOp,aQ,this]
 · rename_i T x i aQ;obtain⟨y,h1,h2⟩:=I7 hT h (ev x);exact⟨y,h1,fun w' hk=>by simp[execOp,aQ,h2 w']⟩
 · rename_i T x i aQ;obtain⟨y,h1,h2⟩:=I8 hT h (ev x);exact⟨y,h1,fun w' hk=>by simp[execOp,aQ,h2 w']⟩
 · rename_i T parts aQ
   split at h
   · rename_i n fs z q aU
     split at h
     · rename_i cs hf;cases h;obtain⟨fields,hU,⟨iv,_⟩,i,zs,hi,dF,hz,lL⟩:=ny (ck hT aU);have yJ:=Z.CD (H:=H) (ρ:=ρ) (D:=av σ.af) lL
       obtain⟨us,h3,h4⟩:=CT (places:=(fs.map fun p=>(p.1,p.2.1)).toArray) (fun i p hp=>by simp[hp]) r.b.oc _ (parts.toList.map fun p=>(p.1,a.eval p.2)) _ _ _ yJ (by simp) (fun j i v i' x h5 h6=>by
         simp only[List.getElem?_map,Option.map_eq_some_iff,Prod.mk.injEq] at h5 h6;obtain⟨p,h7,rfl,rfl⟩:=h5;obtain⟨p',h8,rfl,rfl⟩:=h6;rw[h7] at h8;cases h8;exact⟨rfl,ev _⟩) hf
       refine⟨_,⟨us,rfl,h4⟩,fun w' _=> ?_⟩;have h5:=run_places iv w';simp only[Array.toArray_toList] at h3 h5;simp only[execOp,aQ,Instr.build,Sem.run_bind,CH w' hi hz,gD w' hU,Result.andThen_ok,h5,Array.toList_map,Value.cells,h3];rfl
     · cases h
   · cases h
 · rename_i T x aQ;obtain⟨y,h1,h2⟩:=Ja (P:=P) h (ev x);exact⟨y,h1,fun w' _=>by simp[execOp,aQ,h2 w']⟩
 · rename_i x i aQ;have hx:=ev x
   split at h
   · rename_i cs cV;rw[cV] at hx;obtain⟨vs,h1,h2,h3⟩:=hx
     split at h
     · rename_i l hl;cases h;have:=h3 _ _ hl;refine⟨_,this,fun w' _=> ?_⟩;have e:=getD_some (show i<vs.size by rw[h2]; exact bD hl);simp only[execOp,aQ,Instr.extract,h1,e];rfl
     · rename_i c hl;cases h;obtain⟨c',h4,h5⟩:=h3 _ _ hl;cases h4;refine⟨_,h5,fun w' _=> ?_⟩;have e:=getD_some (show i<vs.size by rw[h2]; exact bD hl);simp only[execOp,aQ,Instr.extract,h1,e];rfl
     · cases h
   · cases h
 · rename_i x aQ
   split at h
   · rename_i jg;cases h;refine⟨_,ev x,fun w' _=> ?_⟩;have hx:=ev x;generalize σ.ev x=vx at hx jg;unfold CS at jg
     split at jg
     · obtain⟨_,b,_,h1⟩:=hx; simp[execOp,aQ,h1]
     · obtain⟨b,o,cs,e,fz,_,h1,_⟩:=hx; simp[execOp,aQ,h1]
     · obtain⟨b,o,cs,e,fz,_,h1,_⟩:=hx; simp[execOp,aQ,h1]
     · obtain⟨_,b,o,n,c,_,_,h1⟩:=hx; simp[execOp,aQ,h1]
     · obtain⟨vs,h1,_⟩:=hx; simp[execOp,aQ,h1]
     · cases jg
   · cases h
 · rename_i f first captured aQ
   split at h
   · rename_i h0
     split at h
     · rename_i l hl;cases h;obtain⟨h1,h2⟩:=CV _ (captured.map a.eval).toList l (by simp) (tO r captured) hl;have hf:first = #[]:=by simpa using h0
       refine⟨_,⟨captured.map a.eval,rfl,by simpa using h1,by simpa using h2⟩,fun w' _=> ?_⟩;simp[execOp,aQ,Instr.makeFunc,hf]
     · cases h
   · cases h
 · rename_i op T x y yT aQ;obtain⟨z,h1,h2⟩:=I9 hT (X:=x) (Y:=y) h (ev x) (ev y);refine⟨z,h1,fun w' _=> ?_⟩;have:=h2 w';simp only[execOp,aQ];rw[Sem.run_bind,this];rfl
 · rename_i src dst x aQ;obtain⟨y,h1,h2⟩:=Jc hT h (ev x);exact⟨y,h1,fun w' _=>by simp[execOp,aQ,h2 w']⟩
 · rename_i c aQ
   split at h
   · rename_i dA
     split at h
     · rename_i x T hx yK
       split at h
       · rename_i n hn;cases h;obtain⟨h1,h2⟩:=Jb hT r (ty:=o.type) hn (ev x);have e1:c.args = #[x]:=by rw[←Array.toList_inj]; simpa using hx
         have e2:c.argTypes = #[T]:=by rw[←Array.toList_inj]; simpa using yK
         refine⟨_,RL.int (t:=fun _=>((n ():Nat):Int)) (qC.2 (by unfold cm at h1; omega)),fun w' _=> ?_⟩;simp[execOp,aQ,resolve,dA,e1,e2,invoke,builtin,h2 w']
       · cases h
     · cases h
   · rename_i dA
     split at h
     · rename_i k t ht;cases h;obtain⟨h1,h2⟩:=Jd (P:=P) ht (vs:=(c.args.map a.eval).toList) (by simp) (tO r c.args) c.argTypes o.type;refine⟨_,RL.int h1,fun w' _=> ?_⟩;have:=h2 w';simp only[Array.toArray_toList] at this;simp[execOp,aQ,resolve,dA,invoke,builtin,this]
     · cases h
   · rename_i dA
     split at h
     · rename_i k t ht;cases h;obtain⟨h1,h2⟩:=Je (P:=P) ht (vs:=(c.args.map a.eval).toList) (by simp) (tO r c.args) c.argTypes o.type;refine⟨_,RL.int h1,fun w' _=> ?_⟩;have:=h2 w';simp only[Array.toArray_toList] at this;simp[execOp,aQ,resolve,dA,invoke,builtin,this]
     · cases h
   · cases h
 · cases h
end
inductive Br (t:Unit→Bool) (K:Bool→Prop):Prop where
 | mk (h:K (t ()))
inductive Ix (E:an) (xs:Unit→List E.α) (i:Unit→Int) (K:(Unit→E.α)→Prop):Prop where
 | mk (x:E.α) (h0:0≤i ()) (h:(xs ())[(i ()).toNat]? = some x) (hk:K fun _=>x)
inductive Ar (k:IntKind) (t:Unit→Int) (K:(Unit→Int)→Prop):Prop where
 | mk (u:Unit→Int) (h:k.wrap (t ())=u ()) (hk:K u)
inductive Ob (p:Unit→Prop) (K:Unit→Prop):Prop where
 | mk (h:p ()) (hk:K ())
theorem Br.split {t:Unit→Bool} {K:Bool→Prop} (h1:t ()=true→K true) (h0:t ()=false→K false):Br t K:=by
 cases h:t () with
 | true=>exact⟨by rw[h]; exact h1 h⟩
 | false=>exact⟨by rw[h]; exact h0 h⟩
theorem Br.yes {t:Unit→Bool} {K:Bool→Prop} (h:t ()=true) (h1:K true):Br t K:=⟨by rw[h]; exact h1⟩
theorem Br.no {t:Unit→Bool} {K:Bool→Prop} (h:t ()=false) (h1:K false):Br t K:=⟨by rw[h]; exact h1⟩
theorem Ar.exact {t:Unit→Int} {K:(Unit→Int)→Prop} (h1: -9223372036854775808≤t ()) (h2:t ()≤9223372036854775807) (hk:K t):Ar .i64 t K:=
 ⟨t,oR (qC.2 ⟨h1,h2⟩),hk⟩
def yL (op:BinOp) (a b:Unit→Int):Option (Unit→Int):=
 match op with
 | .add=>some fun _=>a ()+b ()
 | .sub=>some fun _=>a () - b ()
 | .mul=>some fun _=>a ()*b ()
 | _=>none
def yM (op:BinOp) (k:IntKind) (a b:Unit→Int):Option (Unit→Int):=
 match op with
 | .and=>some fun _=>((BitVec.ofInt k.bits (a ()) &&& BitVec.ofInt k.bits (b ())).toNat:Int)
 | .or=>some fun _=>((BitVec.ofInt k.bits (a ()) ||| BitVec.ofInt k.bits (b ())).toNat:Int)
 | .xor=>some fun _=>((BitVec.ofInt k.bits (a ()) ^^^ BitVec.ofInt k.bits (b ())).toNat:Int)
 | _=>none
def yN (op:BinOp) (K:V→Prop):V→V→Prop
 | .c (.lf (.int k a)), .c (.lf (.int k' b))=>
   match op with
   | .shl=>Ob (fun _=>0≤b ()) fun _=>Ar k (fun _=>a ()*2 ^ (min (b ()).toNat k.bits)) fun t=>K (iV k t)
   | .shr=>Ob (fun _=>0≤b ()) fun _=>Ar k (fun _=>(a ()).fdiv (2 ^ (min (b ()).toNat k.bits))) fun t=>K (iV k t)
   | .quo=>if k=k' then Ob (fun _=>b ()≠0) fun _=>Ar k (fun _=>(a ()).tdiv (b ())) fun t=>K (iV k t) else False
   | .rem=>if k=k' then Ob (fun _=>b ()≠0) fun _=>K (iV k fun _=>(a ()).tmod (b ())) else False
   | op =>
     if k=k' then
      match yL op a b,yM op k a b with
      | some t,_=>Ar k t fun t=>K (iV k t)
      | none,some t=>Ar k t fun t=>K (iV k t)
      | none,none=>False
     else False
 | .c (.lf (.str a)), .c (.lf (.str b))=>
   match op with
   | .add=>Ob (fun _=>(a ()).length+(b ()).length≤cm) fun _=>K (.c (.lf (.str fun _=>a ()++b ())))
   | _=>False
 | _,_=>False
def yO (K:V→Prop):V→Prop
 | .c (.lf (.int k a))=>Ar k (fun _=>0 - a ()) fun t=>K (iV k t)
 | _=>False
def yP (tab:aX) (bs:List (Nat × ak)) (T:TypeId) (K:V→Prop):V→V→Prop
 | .c (.lf (.list E xs)), .c (.lf (.int _ i))=>
   match cz tab T with
   | some (.sl E' _ _)=>if E=E' then Ix E xs i fun x=>K (.c (.el E x 0)) else False
   | _=>False
 | .c (.own k), .c (.lf (.int _ i))=>
   match cz tab T,aL bs k with
   | some (.sl E' _ _),some (.own E xs _)=>if E=E' then Ob (fun _=>0≤i ()∧i ()<(xs ()).length) fun _=>K (.c (.en k E (fun _=>(i ()).toNat) 0)) else False
   | some (.sl E' _ _),some (.bP E xs _ _)=>if E=E' then Ob (fun _=>0≤i ()∧i ()<(xs ()).length) fun _=>K (.c (.en k E (fun _=>(i ()).toNat) 0)) else False
   | some (.sl E' _ _),some (.view E xs)=>if E=E' then Ix E xs i fun x=>K (.c (.el E x 0)) else False
   | _,_=>False
 | _,_=>False
def nG:Option V→(Unit→Int)→Option (Unit→Int)
 | none,d=>some d
 | some (.c (.lf (.int _ i))),_=>some i
 | _,_=>none
def oU (bs:List (Nat × ak)):V→V
 | .c (.own k)=>match aL bs k with | some (.view E xs)=> .c (.lf (.list E xs)) | _=> .c (.own k)
 | v=>v
def yQ (tab:aX) (T:TypeId) (K:V→Prop) (x:V) (lo hi mx:Option V):Prop:=
 match x,mx with
 | .c (.lf (.list E xs)),none=>
   match cz tab T,nG lo fun _=>0,nG hi fun _=>((xs ()).length:Int) with
   | some (.sl E' _ _),some l,some h=>if E=E' then Ob (fun _=>0≤l ()∧l ()≤h ()∧h ()≤(xs ()).length) fun _=>K (.c (.lf (.list E fun _=>((xs ()).take (h ()).toNat).drop (l ()).toNat))) else False
   | _,_,_=>False
 | .c (.lf (.str s)),none=>
   match cz tab T,nG lo fun _=>0,nG hi fun _=>((s ()).length:Int) with
   | some .ss,some l,some h=>Ob (fun _=>0≤l ()∧l ()≤h ()∧h ()≤(s ()).length) fun _=>K (.c (.lf (.str fun _=>((s ()).take (h ()).toNat).drop (l ()).toNat)))
   | _,_,_=>False
 | _,_=>False
def yR (tab:aX) (T:TypeId) (K:V→Prop):V→V→Prop
 | .c (.lf (.str s)), .c (.lf (.int _ i))=>
   match cz tab T with
   | some .ss=>Ob (fun _=>0≤i ()∧i ()<(s ()).length) fun _=>K (iV .u8 fun _=>(((s ()).getD (i ()).toNat 0).toNat:Int))
   | _=>False
 | _,_=>False
def yS (tab:aX) (o:Oper) (σ:SS) (K:V→Prop):Prop:=
 match ex tab o σ with
 | some v=>K v
 | none=>
   match o.op with
   | .pick c a b=>
     match σ.ev c with
     | .c (.lf (.bool t))=>Br t fun y=>K (match y with | true=>σ.ev a | false=>σ.ev b)
     | _=>False
   | .binOp op _ x y _=>yN op K (σ.ev x) (σ.ev y)
   | .unOp .neg _ x=>yO K (σ.ev x)
   | .indexAddr T x i=>yP tab σ.af T K (σ.ev x) (σ.ev i)
   | .slice T x lo hi mx=>yQ tab T K (oU σ.af (σ.ev x)) (lo.map σ.ev) (hi.map σ.ev) (mx.map σ.ev)
   | .index T x i=>yR tab T K (σ.ev x) (σ.ev i)
   | _=>False
section
variable {P : Program} {w : World} {H : Hp} {ρ : aF} {D : Nat → Prop}
theorem CX {k:IntKind} {a b:Int} (h:k.has a):k.has (a.tmod b):=by
 have h0:k.has 0:=IntKind.v7 k;unfold IntKind.has at *;have hn:=Int.natAbs_tmod a b;have hle:=Nat.mod_le a.natAbs b.natAbs;rcases Int.le_total 0 a with ha | ha
 · have h1:0≤a.tmod b:=Int.tmod_nonneg b ha;omega
 · have h1:0≤(-a).tmod b:=Int.tmod_nonneg b (by omega);rw[Int.neg_tmod] at h1;omega
theorem Jg {k:IntKind} {a:Int} (h:k.has a) (n:Nat):k.has (a.fdiv (2 ^ n)):=by
 have h0:k.has 0:=IntKind.v7 k;unfold IntKind.has at *;have hp:(0:Int)<2 ^ n:=Int.pow_pos (by omega);rw[Int.fdiv_eq_ediv_of_nonneg _ (Int.le_of_lt hp)];generalize (2:Int) ^ n=m at hp;rcases Int.le_total 0 a with ha | ha
 · have h1:0≤a / m:=Int.ediv_nonneg ha (by omega);have h2:a / m≤a:=Int.ediv_le_self m ha;omega
 · have h1:a≤a / m:=(Int.le_ediv_iff_mul_le hp).2 (by
    have:=Int.mul_nonpos_of_nonpos_of_nonneg ha (show 0≤m - 1 by omega);rw[Int.mul_sub,Int.mul_one] at this;omega)
   have h2:a / m≤0:=by
    have:=Int.ediv_le_ediv hp ha;simpa using this
   omega
theorem Jh (op:BinOp) (T:TypeId) (X Y:Operand) (k k':IntKind) (a b:Int) (s:Sem Value) :
  ((do eqGuard op T X Y (.int k a) (.int k' b); s):Sem Value).run P w=s.run P w:=by
 rw[Sem.run_bind,CO]; rfl
theorem Ji (op:BinOp) (T:TypeId) (X Y:Operand) (p q:Value) (s:Sem Value) (h:op = .add) :
  ((do eqGuard op T X Y p q; s):Sem Value).run P w=s.run P w:=by
 subst h;rw[Sem.run_bind];have:(eqGuard .add T X Y p q).run P w = .ok () w:=by unfold eqGuard; rfl
 rw[this]; rfl
theorem Jj {op:BinOp} {T:TypeId} {x y:V} {p q:Value} {X Y:Operand} {K:V→Prop} (h:yN op K x y) (hp:RV H ρ D x p) (hq:RV H ρ D y q) :
   ∃ v z,K v∧RV H ρ D v z∧∀w':World,((do eqGuard op T X Y p q; binOp op T p q):Sem Value).run P w' = .ok z w':=by
 unfold yN at h
 split at h
 · rename_i k a k' b;obtain⟨rfl,ha⟩:=RL.of_int hp;obtain⟨rfl,hb⟩:=RL.of_int hq
   have key:∀(t:Int) (u:Unit→Int),k.wrap t=u ()→(∀w':World,(binOp op T (.int k (a ())) (.int k' (b ()))).run P w' = .ok (.int k (k.wrap t)) w')→K (iV k u)→
       ∃ v z,K v∧RV H ρ D v z∧∀w':World,((do eqGuard op T X Y (.int k (a ())) (.int k' (b ())); binOp op T (.int k (a ())) (.int k' (b ()))):Sem Value).run P w' = .ok z w':=
     fun t u hu hr hk=>⟨_,_,hk,RL.int (t:=u) (by rw[←hu]; exact wh _ _),fun w'=>by rw[Jh,hr,hu]⟩
   split at h
   · obtain⟨h1,u,h2,hk⟩:=h;refine key _ u h2 (fun w'=> ?_) hk;simp only[binOp,Op.shift,if_neg (show¬b ()<0 by omega)];rfl
   · obtain⟨h1,u,h2,hk⟩:=h;have dF:k.has ((a ()).fdiv (2 ^ (min (b ()).toNat k.bits))):=Jg ha _;refine key _ u h2 (fun w'=> ?_) hk;rw[oR dF];simp only[binOp,Op.shift,if_neg (show¬b ()<0 by omega)];rfl
   · split at h
     · rename_i kg;subst kg;obtain⟨h1,u,h2,hk⟩:=h;refine key _ u h2 (fun w'=> ?_) hk;simp[binOp,Op.intDiv,h1]
     · cases h
   · split at h
     · rename_i kg;subst kg;obtain⟨h1,hk⟩:=h;refine key _ (fun _=>(a ()).tmod (b ())) (oR (CX ha)) (fun w'=> ?_) hk;rw[oR (CX ha)];simp[binOp,Op.intDiv,h1]
     · cases h
   · rename_i QZ n1 n2 n3 n4
     split at h
     · rename_i kg;subst kg;cases ht:yL op a b with
       | some t=>
         simp only[ht] at h;obtain⟨u,h2,hk⟩:=h;refine key (t ()) u h2 (fun w'=> ?_) hk;cases op <;> simp only[yL] at ht <;> cases ht <;> simp[binOp,Op.intArith]
       | none=>
         cases hb:yM op k a b with
         | some t=>
           simp only[ht,hb] at h;obtain⟨u,h2,hk⟩:=h;refine key (t ()) u h2 (fun w'=> ?_) hk;cases op <;> simp only[yM] at hb <;> cases hb <;> simp[binOp,Op.intBits]
         | none=>simp only[ht,hb] at h
     · cases h
 · rename_i a b;obtain⟨rfl,ha⟩:=RL.kd hp;obtain⟨rfl,hb⟩:=RL.kd hq
   split at h
   · obtain⟨h1,hk⟩:=h;refine⟨_,_,hk,RL.str (t:=fun _=>a ()++b ()) (by simpa using h1),fun w'=> ?_⟩;rw[Ji _ _ _ _ _ _ _ rfl]
     have hs:¬(((ByteArray.mk (a ()).toArray).size+(ByteArray.mk (b ()).toArray).size:Nat):Int)>IntKind.i64.max:=by
       have e1:(ByteArray.mk (a ()).toArray).size=(a ()).length:=rfl;have e2:(ByteArray.mk (b ()).toArray).size=(b ()).length:=rfl;rw[e1,e2];unfold cm at h1;simp only[IntKind.max,IntKind.signed,IntKind.bits];omega
     simp only[binOp,Op.stringOp,if_neg hs];simp only[Sem.run_pure]
     congr 2
   · cases h
 · cases h
theorem Jk {x:V} {p:Value} {K:V→Prop} (h:yO K x) (hp:RV H ρ D x p) :
   ∃ v z,K v∧RV H ρ D v z∧∀w':World,(Op.unary .neg p).run P w' = .ok z w':=by
 unfold yO at h
 split at h
 · rename_i k a;obtain⟨rfl,ha⟩:=RL.of_int hp;obtain⟨u,h2,hk⟩:=h;refine⟨_,_,hk,RL.int (t:=u) (by rw[←h2]; exact wh _ _),fun w'=> ?_⟩;rw[←h2];simp[Op.unary,Op.intArith]
 · cases h
end
section
variable {P : Program} {tab : aX} (hT : eC P tab = true) {Γ : Ctx} {H : Hp} {ρ : aF} {σ : SS} {a : Act} {w : World} (r : aG Γ H ρ σ a w)
include hT r
omit r in
theorem CY {E:an} {xs:Unit→List E.α} {i:Unit→Int} {k:IntKind} {T elem bytes:Nat} (aU:cz tab T=some (.sl E elem bytes)) {p:Value} {K:V→Prop} (h:Ix E xs i fun x=>K (.c (.el E x 0))) (hp:RL H (.list E xs) p) :
   ∃ v z,K v∧RV H ρ (av σ.af) v z∧∀w':World,(Instr.indexAt T p (.int k (i ()))).run P w' = .ok z w':=by
 obtain⟨hU,ii,z,dF,aY,_⟩:=lH (ck hT aU);obtain⟨x,h0,hx,hk⟩:=h;generalize hl:Lf.list E xs=l at hp;cases hp with
 | int=>cases hl
 | bool=>cases hl
 | str=>cases hl
 | nil hn=>cases hl; rw[hn] at hx; simp at hx
 | @list _ _ b off c cs e fz hb iP hm ho hc=>
   cases hl;have aR:=bD hx;refine⟨_, .pointer (some ⟨b,off+(i ()).toNat*E.sz,none⟩),hk,⟨_,_,_,_,_,hb,rfl,fun j l hj=> ?_⟩,fun w'=> ?_⟩;rotate_left
   · simp only[Instr.indexAt,asIntOf,Sem.run_bind,Sem.run_pure,Result.andThen_ok,gD w' hU];rw[if_pos (show 0≤i ()∧i ()<((xs ()).length:Int) by omega)];simp only[kb w' dF,aY,Result.andThen_ok,Sem.run_bind,Sem.run_pure,dS]
   · simp only[Nat.zero_add] at hj;have cF:=bD hj;rw[gm] at cF
     have h2:(i ()).toNat*E.sz+E.sz≤(xs ()).length*E.sz:=by
      have:=Nat.mul_le_mul_right E.sz (show(i ()).toNat+1≤(xs ()).length by omega);rw[Nat.add_mul] at this;omega
     exact⟨by omega,hc _ _ hx j l hj⟩
theorem Jl {T:TypeId} {x y:V} {p q:Value} {K:V→Prop} (h:yP tab σ.af T K x y) (hp:RV H ρ (av σ.af) x p) (hq:RV H ρ (av σ.af) y q) :
   ∃ v z,K v∧RV H ρ (av σ.af) v z∧∀w':World,(Instr.indexAt T p q).run P w' = .ok z w':=by
 unfold yP at h
 split at h
 · rename_i E xs k i;obtain⟨rfl,hi⟩:=RL.of_int hq
   split at h
   · rename_i E' elem bytes aU
     split at h
     · rename_i hE;subst hE;exact CY (σ:=σ) (ρ:=ρ) hT aU h hp
     · cases h
   · cases h
 · rename_i k k' i;obtain⟨rfl,hi⟩:=RL.of_int hq
   split at h
   · rename_i E' elem bytes E xs oM aU hB
     split at h
     · rename_i hE;subst hE;obtain⟨hU,ii,z,dF,aY,_⟩:=lH (ck hT aU);obtain⟨⟨h0,h1⟩,hk⟩:=h;obtain⟨hd,rfl⟩:=hp;have cn:=oT r hB;generalize hl:Lf.list E xs=l at cn;generalize hv:(ρ k).1=v at cn;generalize hS:(ρ k).2=S0 at cn;cases cn with
       | int=>cases hl
       | bool=>cases hl
       | str=>cases hl
       | nil hn=>cases hl; rw[hn] at h1; simp at h1; omega
       | @list _ _ b off c cs e fz S hb hf iP hm ho hc=>
         cases hl;refine⟨_, .pointer (some ⟨b,off+(i ()).toNat*E.sz+0,none⟩),hk,⟨hd,_,_,_,_,hv,(show(i ()).toNat<(xs ()).length by omega),rfl⟩,fun w'=> ?_⟩;simp only[Instr.indexAt,asIntOf,Sem.run_bind,Sem.run_pure,Result.andThen_ok,gD w' hU];rw[if_pos (show 0≤i ()∧i ()<((xs ()).length:Int) by omega)];simp only[kb w' dF,aY,Result.andThen_ok,Sem.run_bind,Sem.run_pure,dS,Nat.add_zero]
     · cases h
   · rename_i E' elem bytes E xs _ _ aU hB
     split at h
     · rename_i hE;subst hE;obtain⟨hU,ii,z,dF,aY,_⟩:=lH (ck hT aU);obtain⟨⟨h0,h1⟩,hk⟩:=h;obtain⟨hd,rfl⟩:=hp;obtain⟨b,off,c,cs,e,fz,S,hv,_⟩:=r.b.af k _ (cK hB);refine⟨_, .pointer (some ⟨b,off+(i ()).toNat*E.sz+0,none⟩),hk,⟨hd,_,_,_,_,hv,(show(i ()).toNat<(xs ()).length by omega),rfl⟩,fun w'=> ?_⟩;rw[hv];simp only[Instr.indexAt,asIntOf,Sem.run_bind,Sem.run_pure,Result.andThen_ok,gD w' hU];rw[if_pos (show 0≤i ()∧i ()<((xs ()).length:Int) by omega)];simp only[kb w' dF,aY,Result.andThen_ok,Sem.run_bind,Sem.run_pure,dS,Nat.add_zero]
     · cases h
   · rename_i E' elem bytes E xs aU hB
     split at h
     · rename_i hE;subst hE;obtain⟨hd,rfl⟩:=hp;exact CY (σ:=σ) (ρ:=ρ) hT aU h (r.b.af k _ (cK hB)).1
     · cases h
   · cases h
 · cases h
omit hT r in
theorem rM {D:Nat→Prop} {x:Option Operand} {d t:Unit→Int} (h:nG (x.map σ.ev) d=some t) (gS:∀x,RV H ρ D (σ.ev x) (a.eval x)) :
   (x.map a.eval=none∧t=d)∨∃k,x.map a.eval=some (.int k (t ())):=by
 cases x with
 | none=>simp only[Option.map_none,nG,Option.some.injEq] at h; exact .inl ⟨rfl,h.symm⟩
 | some x=>
   have:=gS x;simp only[Option.map_some] at h ⊢;generalize σ.ev x=v at h this;unfold nG at h
   split at h
   · cases ‹some v=none›
   · rename_i heq;cases heq;cases h;obtain⟨h1,_⟩:=RL.of_int this;exact .inr ⟨_,by rw[h1]⟩
   · cases h
omit hT r in
theorem wu {lo hi:Option Value} {l h len cap:Nat} (Jm:Bool) (w':World) (hl:(lo=none∧l=0)∨∃k,lo=some (.int k (l:Int))) (hh:(hi=none∧h=len)∨∃k,hi=some (.int k (h:Int)))
  (h1:l≤h) (h2:h≤cap):(Instr.sliceBounds Jm len cap lo hi none).run P w' = .ok (l,h,cap) w':=by
 rcases hh with⟨rfl,rfl⟩ | ⟨k,rfl⟩ <;> rcases hl with⟨rfl,rfl⟩ | ⟨k',rfl⟩ <;>
  simp[Instr.sliceBounds,Instr.sliceBound,asIntOf,h1,h2]
omit hT in
theorem Jn {v:V} {p:Value} (h:RV H ρ (av σ.af) v p):RV H ρ (av σ.af) (oU σ.af v) p:=by
 unfold oU
 split
 · split
   · rename_i hB;obtain⟨_,rfl⟩:=h;exact(r.b.af _ _ (cK hB)).1
   · exact h
 · exact h
theorem Jo {T :TypeId} {x:Operand} {lo hi mx:Option Operand} {K:V→Prop} (h:yQ tab T K (oU σ.af (σ.ev x)) (lo.map σ.ev) (hi.map σ.ev) (mx.map σ.ev)) :
   ∃ v z,K v∧RV H ρ (av σ.af) v z∧∀w':World,(Instr.sliceAt T (a.eval x) (lo.map a.eval) (hi.map a.eval) (mx.map a.eval)).run P w' = .ok z w':=by
 have gS:=iu r.e;have hx:=Jn r (gS x);unfold yQ at h;generalize hv:oU σ.af (σ.ev x)=v at h hx
 split at h
 · rename_i E xs rN;have yU:mx=none:=by cases mx <;> simp at rN ⊢
   subst yU
   split at h
   · rename_i E' elem bytes l hh aU hl mz
     split at h
     · rename_i hE;subst hE;obtain⟨hU,ii,z,dF,aY,_⟩:=lH (ck hT aU);obtain⟨⟨o1,o2,o3⟩,hk⟩:=h;obtain⟨b,c,hp,hm⟩:=RL.slice hx;obtain⟨L,hL⟩:=Int.eq_ofNat_of_zero_le o1;obtain⟨U,lM⟩:=Int.eq_ofNat_of_zero_le (show 0≤hh () by omega)
       have e1:(lo.map a.eval=none∧L=0)∨∃k,lo.map a.eval=some (.int k (L:Int)):=by
         rcases rM hl gS with⟨h1,h2⟩ | ⟨k,h1⟩
         · refine .inl ⟨h1, ?_⟩; rw[h2] at hL; simp at hL; omega
         · exact .inr ⟨k,by rw[h1,hL]⟩
       have e2:(hi.map a.eval=none∧U=(xs ()).length)∨∃k,hi.map a.eval=some (.int k (U:Int)):=by
         rcases rM mz gS with⟨h1,h2⟩ | ⟨k,h1⟩
         · refine .inl ⟨h1, ?_⟩; rw[h2] at lM; simp at lM; omega
         · exact .inr ⟨k,by rw[h1,lM]⟩
       have yV:L≤U:=by omega
       have Jp:U≤(xs ()).length:=by omega
       have hlen:(((xs ()).take U).drop L).length=U - L:=by simp; omega
       have b_:∀(bb:Option Addr) (cc:Nat),(xs ()).length≤cc→∀w':World,(Instr.sliceAt T (.slice bb (xs ()).length cc) (lo.map a.eval) (hi.map a.eval) (Option.map a.eval none)).run P w' =
           .ok (.slice (if cc=L then bb else bb.map (·.add (L*E.sz))) (U - L) (cc - L)) w':=fun bb cc wv w'=>by
         simp only[Instr.sliceAt,Sem.run_bind,gD w' hU,Result.andThen_ok,Instr.slice,Option.map_none];rw[wu true w' e1 e2 yV (by omega)];simp only[Result.andThen_ok,kb w' dF,aY,Sem.run_pure]
       have eL:(l ()).toNat=L:=by omega
       have eU:(hh ()).toNat=U:=by omega
       have qF:RL H (.list E xs) (a.eval x):=hx;generalize hq:Lf.list E xs=lf at qF;generalize Q0:a.eval x=p at qF;cases qF with
       | int=>cases hq
       | bool=>cases hq
       | str=>cases hq
       | @nil _ _ aa cc hn=>
         cases hq;have h0:(xs ()).length=0:=by rw[hn]; rfl
         have wx:U=0:=by omega
         have Q1:L=0:=by omega
         refine⟨_, .slice (if cc=L then aa else aa.map (·.add (L*E.sz))) (U - L) (cc - L),hk, ?_,fun w'=> ?_⟩;rotate_left
         · have:=b_ aa cc (by omega) w';rw[h0] at this;exact this
         · show RL H _ _;rw[wx,Nat.zero_sub];exact RL.nil (by simp[hn])
       | @list _ _ bb off cc cs e fz hb iP tP ho hc=>
         cases hq;refine⟨_,_,hk, ?_,fun w'=>b_ _ _ iP w'⟩;show RL H _ _
         by_cases aR:L<U
         · rw [if_neg (by omega)];simp only[Option.map_some,dS]
           have:=RL.list (H:=H) (E:=E) (t:=fun _=>((xs ()).take (hh ()).toNat).drop (l ()).toNat) (b:=bb) (off:=off+L*E.sz) (c:=cc - L) hb (by rw[eL,eU,hlen]; omega) (by rw[eL,eU,hlen]; omega)
            (by rw[eL,eU,hlen]; have:=Nat.mul_le_mul_right E.sz (show L+(U - L)≤(xs ()).length by omega); rw[Nat.add_mul] at this; omega)
            (fun i x hi j l' hj=>by
             simp only[eL,eU,List.getElem?_drop,List.getElem?_take] at hi
             split at hi
             · have:=hc _ _ hi j l' hj;rw[Nat.add_mul] at this;rw[show off+L*E.sz+i*E.sz+j=off+(L*E.sz+i*E.sz)+j by omega];exact this
             · cases hi)
           rw[eL,eU,hlen] at this;rw[eL,eU];exact this
         · have:U - L=0:=by omega
           rw[this];exact RL.nil (List.length_eq_zero_iff.1 (by rw[eL,eU,hlen]; exact this))
     · cases h
   · cases h
 · rename_i s rN;have yU:mx=none:=by cases mx <;> simp at rN ⊢
   subst yU
   split at h
   · rename_i l hh aU hl mz;have hU:=(lI (ck hT aU)).1;obtain⟨⟨o1,o2,o3⟩,hk⟩:=h;obtain⟨hp,hm⟩:=RL.kd hx;obtain⟨L,hL⟩:=Int.eq_ofNat_of_zero_le o1;obtain⟨U,lM⟩:=Int.eq_ofNat_of_zero_le (show 0≤hh () by omega)
     have e1:(lo.map a.eval=none∧L=0)∨∃k,lo.map a.eval=some (.int k (L:Int)):=by
       rcases rM hl gS with⟨h1,h2⟩ | ⟨k,h1⟩
       · refine .inl ⟨h1, ?_⟩; rw[h2] at hL; simp at hL; omega
       · exact .inr ⟨k,by rw[h1,hL]⟩
     have e2:(hi.map a.eval=none∧U=(s ()).length)∨∃k,hi.map a.eval=some (.int k (U:Int)):=by
       rcases rM mz gS with⟨h1,h2⟩ | ⟨k,h1⟩
       · refine .inl ⟨h1, ?_⟩; rw[h2] at lM; simp at lM; omega
       · exact .inr ⟨k,by rw[h1,lM]⟩
     have eL:(l ()).toNat=L:=by omega
     have eU:(hh ()).toNat=U:=by omega
     refine⟨_,_,hk,RL.str (t:=fun _=>((s ()).take (hh ()).toNat).drop (l ()).toNat) ?_,fun w'=> ?_⟩
     · simp; omega
     · have yW:(ByteArray.mk (s ()).toArray).size=(s ()).length:=rfl;rw[hp];simp only[Instr.sliceAt,Sem.run_bind,gD w' hU,Result.andThen_ok,Instr.slice,Option.map_none,Option.isSome_none,Bool.false_eq_true,if_false,yW,Sem.run_pure];rw[wu false w' e1 e2 (by omega) (by omega)];simp only[Result.andThen_ok,eL,eU]
       congr 2
       apply ByteArray.ext;simp[ByteArray.data_extract,List.drop_take]
   · cases h
 · cases h
omit r in
theorem Jq {T:TypeId} {x y:V} {p q:Value} {K:V→Prop} (h:yR tab T K x y) (hp:RV H ρ (av σ.af) x p) (hq:RV H ρ (av σ.af) y q) :
   ∃ v z,K v∧RV H ρ (av σ.af) v z∧∀w':World,(Instr.index T p q).run P w' = .ok z w':=by
 unfold yR at h
 split at h
 · rename_i s k i
   split at h
   · rename_i aU;obtain⟨hi,hk⟩:=h;obtain⟨rfl,hm⟩:=RL.kd hp;obtain⟨rfl,_⟩:=RL.of_int hq;have hU:=(lI (ck hT aU)).1;have aR:(i ()).toNat<(s ()).length:=by omega
     refine⟨_, .int .u8 (((s ()).getD (i ()).toNat 0).toNat:Int),hk,RL.int (t:=fun _=>(((s ()).getD (i ()).toNat 0).toNat:Int)) (tH.2 ⟨by omega,by have:=((s ()).getD (i ()).toNat 0).toNat_lt; omega⟩),fun w'=> ?_⟩
     have eD:(if 0≤i () then(⟨(s ()).toArray⟩:ByteArray)[(i ()).toNat]? else none)=some ((s ()).getD (i ()).toNat 0):=by
      rw[if_pos hi.1]
      have h1:(i ()).toNat<(⟨(s ()).toArray⟩:ByteArray).size:=by
       show(i ()).toNat<(s ()).toArray.size;simpa using aR
      rw[getElem?_pos (⟨(s ()).toArray⟩:ByteArray) (i ()).toNat h1]
      congr 1
      rw[List.getD_eq_getElem?_getD,List.getElem?_eq_getElem aR];rfl
     simp only[Instr.index,asIntOf,Sem.run_bind,Sem.run_pure,Result.andThen_ok,gD w' hU,eD]
   · cases h
 · cases h
theorem yX {o:Oper} {K:V→Prop} (h:yS tab o σ K) :
   ∃ v y,K v∧RV H ρ (av σ.af) v y∧∀w',mv H ρ (oS o σ) w w'→(execOp a.eval o).run P w' = .ok (.value y) w':=by
 have ev:=iu r.e;unfold yS at h
 split at h
 · rename_i v hv;obtain⟨y,h1,h2⟩:=Jf hT r hv;exact⟨v,y,h,h1,h2⟩
 · split at h
   · rename_i c x y aQ;have hc:=ev c
     split at h
     · rename_i t ke;rw[ke] at hc;have hR:=RL.of_bool hc;obtain⟨hk⟩:=h;cases ht:t () with
       | true=>
         rw[ht] at hk hR;exact⟨_,_,hk,ev x,fun w' _=>by simp[execOp,aQ,hR,asBool]⟩
       | false=>
         rw[ht] at hk hR;exact⟨_,_,hk,ev y,fun w' _=>by simp[execOp,aQ,hR,asBool]⟩
     · cases h
   · rename_i op T x y yT aQ;obtain⟨v,z,hk,h1,h2⟩:=Jj (P:=P) (T:=T) (X:=x) (Y:=y) h (ev x) (ev y);refine⟨v,z,hk,h1,fun w' _=> ?_⟩;simp only[execOp,aQ];rw[Sem.run_bind,h2 w'];rfl
   · rename_i T x aQ;obtain⟨v,z,hk,h1,h2⟩:=Jk (P:=P) h (ev x);exact⟨v,z,hk,h1,fun w' _=>by simp[execOp,aQ,h2 w']⟩
   · rename_i T x i aQ;obtain⟨v,z,hk,h1,h2⟩:=Jl hT r h (ev x) (ev i);exact⟨v,z,hk,h1,fun w' _=>by simp[execOp,aQ,h2 w']⟩
   · rename_i T x lo hi mx aQ;obtain⟨v,z,hk,h1,h2⟩:=Jo hT r h;exact⟨v,z,hk,h1,fun w' _=>by simp[execOp,aQ,h2 w']⟩
   · rename_i T x i aQ;obtain⟨v,z,hk,h1,h2⟩:=Jq hT h (ev x) (ev i);exact⟨v,z,hk,h1,fun w' _=>by simp[execOp,aQ,h2 w']⟩
   · cases h
end
def cH (ρ:aF) (k:Nat) (p:Value × (Nat→Nat)):aF:=fun j=>if j=k then p else ρ j
theorem db (ρ:aF) (k:Nat) (p:Value × (Nat→Nat)):cH ρ k p k=p:=by simp[cH]
theorem cL {ρ:aF} {k j:Nat} {p:Value × (Nat→Nat)} (h:j≠k):cH ρ k p j=ρ j:=by simp[cH,h]
theorem jh {α:Type} {l:Array α} {i:Nat} {x:α} (h:l[i]? = some x):i<l.size:=by
 rcases Nat.lt_or_ge i l.size with h' | h'
 · exact h'
 · rw[Array.getElem?_eq_none h'] at h; cases h
theorem cD.there {h:Array Obj} {H:Hp} {ρ:aF} {D:Nat→Prop} {B:ak} {p:Value × (Nat→Nat)} (hr:cD h H ρ D B p):∀x,0<p.2 x→x<h.size:=by
 intro x hx;cases B with
 | dead=>simp only[cD] at hr; rw[hr] at hx; simp at hx
 | box cs=>
   obtain⟨b,vs,e,fz,_,h2,h3,_⟩:=hr;rw[h2] at hx;simp only[one] at hx
   split at hx
   · rename_i hb; subst hb; exact jh h3
   · simp at hx
 | own E xs l=>obtain⟨cs,e,fz,h1⟩:=bc.there (h:=h) hr x hx; exact jh h1
 | mp m=>
   obtain⟨b,es,c,_,h2,h3,_⟩:=hr;rw[h2] at hx;simp only[one] at hx
   split at hx
   · rename_i hb; subst hb; exact jh h3
   · simp at hx
 | view E xs=>rw[hr.2] at hx; simp at hx
 | bP E xs i fs=>
   obtain⟨b,o,c,cs,e,fz,S,h1,h2,h3,h4,h5,h6,h7,h8,h9⟩:=hr;rw[h2] at hx;rcases CB hx with rfl | ⟨q,j,hq,hj,bn⟩
   · exact jh h3
   · obtain⟨y,hy⟩:∃y,(xs ())[q]? = some y:=⟨_,List.getElem?_eq_getElem hq⟩;obtain⟨l,hl⟩:∃l,(bH E fun _=>y)[j]? = some l:=⟨_,List.getElem?_eq_getElem (by rw[gm]; exact hj)⟩;have gT:=h9 q y hy j l hl
     split at gT
     · rw[gT.2.2] at bn; simp at bn
     · obtain⟨cs,e,fz,yY⟩:=gT.there x bn;exact jh yY
theorem Jr {ρ:aF} {bs:List (Nat × ak)} {x:Nat} (h:0<aP ρ bs x):∃j A,(j,A)∈bs∧0<(ρ j).2 x:=by
 induction bs with
 | nil=>simp[aP] at h
 | cons q bs ih=>
   simp only[aP] at h
   by_cases h0:0<(ρ q.1).2 x
   · exact⟨q.1,q.2,List.mem_cons_self,h0⟩
   · obtain⟨j,A,h2,h3⟩:=ih (by omega); exact⟨j,A,List.mem_cons_of_mem _ h2,h3⟩
theorem aG.qG {Γ:Ctx} {H:Hp} {ρ:aF} {σ:SS} {a:Act} {w w':World} (r:aG Γ H ρ σ a w) {k:Nat} {B:ak} {p:Value × (Nat→Nat)} (hk:aL σ.af k=none)
   (Js:∀b o,H b=some o→w'.heap[b]? = w.heap[b]?) (hold:∀b,0<aP ρ σ.af b→w'.heap[b]? = w.heap[b]?) (aY:Ext w w') (dG:p.1.oneCell'=true)
   (di:∀x,0<p.2 x→H x=none∧aP ρ σ.af x=0) (hle:∀x,p.2 x≤1)
   (hB:cD w'.heap H (cH ρ k p) (av (cU σ.af k B)) B p) (tQ:B≠ .dead) :
   aG Γ H (cH ρ k p) {σ with af:=cU σ.af k B} a w':=by
 have fN:=ir hk;have hne:∀j,av σ.af j→j≠k:=fun j hj he=>fN (he▸hj);have g:iN H H ρ (cH ρ k p) (av σ.af) (av (cU σ.af k B)):=⟨fun _ _ h=>h,fun j hj=>⟨fb.2 (.inr hj),by rw[cL (hne j hj)]⟩⟩;have cM:∀j A,(j,A)∈σ.af→av σ.af j:=fun j A h=>List.mem_map.2 ⟨_,h,rfl⟩;refine⟨⟨?_,IW r.b.nd fN,r.b.h0, ?_, ?_, ?_, ?_, ?_⟩,r.e.grow g,r.d,r.n.trans aY, ?_, ?_⟩
 · intro j hj;rcases fb.1 hj with rfl | hj
   · rw[db]; exact dG
   · rw[cL (hne j hj)]; exact r.b.oc j hj
 · intro b o hb;rw[Js b o hb]; exact r.b.hh b o hb
 · intro j A hj;rcases tE.1 hj with h1 | h1
   · cases h1; rw[db]; exact hB
   · rw[cL (hne j (cM j A h1))];exact(r.b.af j A h1).mono g fun b hb=>hold b (Nat.lt_of_lt_of_le hb (lG h1 b))
 · intro x;rw[v5,db,tF (ρ:=ρ) (ρ':=cH ρ k p) (fun j hj=>cL (hne j hj))]
   by_cases hx:0<p.2 x
   · have h2:=(di x hx).2;have:=hle x;omega
   · have:=r.b.sum x; omega
 · intro j A hj x hx;rcases tE.1 hj with h1 | h1
   · cases h1;rw[db] at hx;have:=(di x hx).1;cases h0:Γ.H0 x with
     | none=>rfl
     | some o=>rw[r.b.h0 x o h0] at this; cases this
   · rw[cL (hne j (cM j A h1))] at hx;exact r.b.fresh j A h1 x hx
 · intro j A hj x hx;rcases tE.1 hj with h1 | h1
   · cases h1;rw[db] at hx;refine(di x ?_).1;cases B with
     | dead=>exact(tQ rfl).elim
     | box cs=>exact hx
     | view E xs=>exact hx.elim
     | bP E xs i fs=>exact hx
     | mp m=>exact hx
     | own E xs l=>
       cases l with
       | false=>exact hx
       | true=>
         obtain⟨o,n,c,h2⟩:=hx;have:bc w'.heap (.list E xs) p.1 p.2:=hB;rw[h2] at this;generalize hv:Value.slice (some ⟨x,o,none⟩) n c=v at this;generalize hS:p.2=S at this;cases this with
         | nil=>cases hv
         | list S' hb hf hl hm ho hc=>cases hv; exact iM _ _ _ _
   · rw[cL (hne j (cM j A h1))] at hx;exact r.b.gn j A h1 x hx
 · intro q hq;obtain⟨h1,h2⟩:=r.hd q hq;exact⟨fb.2 (.inr h1),by rw[cL (hne _ h1)]; exact h2⟩
 · intro q hq;obtain⟨h1,h2⟩:=r.hm q hq;exact⟨fb.2 (.inr h1),by rw[cL (hne _ h1)]; exact h2⟩
theorem aG.rO {Γ:Ctx} {H:Hp} {ρ:aF} {σ:SS} {a:Act} {w:World} (r:aG Γ H ρ σ a w) {x:Nat} (hx:w.heap.size≤x):H x=none∧aP ρ σ.af x=0:=by
 constructor
 · cases hH:H x with
   | none=>rfl
   | some o=>have:=jh (r.b.hh x o hH); omega
 · rcases Nat.eq_zero_or_pos (aP ρ σ.af x) with h | h
   · exact h
   · obtain⟨j,A,h3,h4⟩:=Jr h;have:=(r.b.af j A h3).there x h4;omega
theorem aG.lt {Γ:Ctx} {H:Hp} {ρ:aF} {σ:SS} {a:Act} {w:World} (r:aG Γ H ρ σ a w) {x:Nat} (h:0<aP ρ σ.af x):x<w.heap.size:=by
 rcases Nat.lt_or_ge x w.heap.size with h' | h'
 · exact h'
 · have:=(r.rO h').2; omega
theorem aG.new {Γ:Ctx} {H:Hp} {ρ:aF} {σ:SS} {a:Act} {w w':World} (r:aG Γ H ρ σ a w) {k:Nat} {B:ak} {p:Value × (Nat→Nat)} (hk:aL σ.af k=none)
  (hold:∀b,b<w.heap.size→w'.heap[b]? = w.heap[b]?) (aY:Ext w w') (dG:p.1.oneCell'=true) (di:∀x,0<p.2 x→w.heap.size≤x) (hle:∀x,p.2 x≤1)
  (hB:cD w'.heap H (cH ρ k p) (av (cU σ.af k B)) B p) (tQ:B≠ .dead) :
  aG Γ H (cH ρ k p) {σ with af:=cU σ.af k B} a w':=
 r.qG hk (fun b o hb=>hold b (jh (r.b.hh b o hb))) (fun b hb=>hold b (r.lt hb)) aY dG (fun x hx=>r.rO (di x hx)) hle hB tQ
theorem alloc_old (w:World) (o:Obj):∀b,b<w.heap.size→(w.alloc o).heap[b]? = w.heap[b]? :=fun b hb=>by
 show(w.heap.push o)[b]? = w.heap[b]?;rw[Array.getElem?_push,if_neg (Nat.ne_of_lt hb)]
theorem qH (w:World) (o:Obj):(w.alloc o).heap[w.heap.size]? = some o:=by
 show(w.heap.push o)[w.heap.size]? = some o;simp
theorem oV (w:World) (cs:Array Value) (e:TypeId):Ext w (w.alloc (.cells cs e)):=by
 refine Ext.of (by simp) rfl rfl fun a=> ?_;unfold World.frozen?;rcases Nat.lt_trichotomy a.block w.heap.size with h | h | h
 · rw[alloc_old w _ _ h]
 · rw[h,qH,Array.getElem?_eq_none (Nat.le_refl _)];simp
 · rw[Array.getElem?_eq_none (show w.heap.size≤a.block by omega),Array.getElem?_eq_none (by simp; omega)]
theorem CZ {w w':World} (h:∀b:Nat,w'.heap[b]? = w.heap[b]? ∨∃es c,w'.heap[b]? = some (.map es c)∧(w.heap[b]? = none∨∃C0 c0,w.heap[b]? = some (.map C0 c0))) (a:Addr):w'.frozen? a=w.frozen? a:=by
 unfold World.frozen?;rcases h a.block with h1 | ⟨es,c,h1,h2⟩
 · rw[h1]
 · rw[h1];rcases h2 with h2 | ⟨C0,c0,h2⟩ <;> rw[h2]
theorem Jt (w:World) (es:Array MapEntry) (c:Nat):Ext w (w.alloc (.map es c)):=by
 refine Ext.of (by simp) rfl rfl (CZ fun b=> ?_);rcases Nat.lt_trichotomy b w.heap.size with h | h | h
 · exact .inl (alloc_old w _ _ h)
 · subst h; exact .inr ⟨es,c,qH w _, .inl (Array.getElem?_eq_none (Nat.le_refl _))⟩
 · refine .inl ?_;rw[Array.getElem?_eq_none (show w.heap.size≤b by omega),Array.getElem?_eq_none (by simp; omega)]
theorem one_le (b x:Nat):one b x≤1:=by simp only[one]; split <;> omega
theorem one_pos {b x:Nat} (h:0<one b x):x=b:=by simp only[one] at h; split at h <;> first | assumption | omega
theorem kK (vs:Array Value):NF vs (0,0):= .inl (Nat.le_refl _)
theorem aG.C1 {Γ:Ctx} {H:Hp} {ρ:aF} {σ:SS} {a:Act} {w:World} (r:aG Γ H ρ σ a w) {k:Nat} (hk:aL σ.af k=none) {cs:List C} {vs:Array Value} (e:TypeId)
  (hc:cG H ρ (av σ.af) cs vs) :
  ∃ ρ',aG Γ H ρ' {σ with af:=cU σ.af k (.box cs)} a (w.alloc (.cells vs e))∧(ρ' k).1 = .pointer (some ⟨w.heap.size,0,none⟩)∧∀j,av σ.af j→ρ' j=ρ j:=by
 have fN:=ir hk;have hne:∀j,av σ.af j→j≠k:=fun j hj he=>fN (he▸hj);refine⟨cH ρ k (.pointer (some ⟨w.heap.size,0,none⟩),one w.heap.size), ?_,by rw[db],fun j hj=>cL (hne j hj)⟩;refine r.new hk (alloc_old w _) (oV w _ _) rfl (fun x hx=>by rw[one_pos hx]; exact Nat.le_refl _) (one_le _) ?_ (by simp);exact⟨w.heap.size,vs,e,(0,0),rfl,rfl,qH w _,kK _,hc.grow ⟨fun _ _ h=>h,fun j hj=>⟨fb.2 (.inr hj),by rw[cL (hne j hj)]⟩⟩⟩
theorem aG.Ju {Γ:Ctx} {H:Hp} {ρ:aF} {σ:SS} {a:Act} {w:World} (r:aG Γ H ρ σ a w) {k:Nat} (hk:aL σ.af k=none) :
  ∃ ρ',aG Γ H ρ' {σ with af:=cU σ.af k (.mp fun _=>[])} a (w.alloc (.map #[] 0))∧(ρ' k).1 = .map (some w.heap.size):=by
 refine⟨cH ρ k (.map (some w.heap.size),one w.heap.size), ?_,by rw[db]⟩;refine r.new hk (alloc_old w _) (Jt w _ _) rfl (fun x hx=>by rw[one_pos hx]; exact Nat.le_refl _) (one_le _) ?_ (by simp);exact⟨w.heap.size, #[],0,rfl,rfl,qH w _,⟨rfl,Nat.zero_le _,fun p hp=>by cases hp⟩⟩
def Cp.cO (m:Nat→Nat):Cp→Cp
 | .ptr k off=> .ptr (m k) off
 | .el E x off=> .el E x off
 | .bN ls off=> .bN ls off
def C.cO (m:Nat→Nat):C→C
 | .own k=> .own (m k)
 | .ptr k off=> .ptr (m k) off
 | .en k E i off=> .en (m k) E i off
 | .pre k n=> .pre (m k) n
 | .fn f l=> .fn f (l.map (Cp.cO m))
 | c=>c
def ji (m:Nat→Nat):List C→List C
 | []=>[]
 | c::cs=>c.cO m::ji m cs
def oW (m:Nat→Nat):List (Bool × List C)→List (Bool × List C)
 | []=>[]
 | p::ps=>(p.1,ji m p.2)::oW m ps
def V.cO (m:Nat→Nat):V→V
 | .c x=> .c (x.cO m)
 | .agg cs=> .agg (ji m cs)
 | .ba ps=> .ba (oW m ps)
theorem rP {m:Nat→Nat}:∀{cs:List C} {j:Nat} {c:C},(ji m cs)[j]? = some c→∃c0,cs[j]? = some c0∧c=c0.cO m
 | [],j,c,h=>by simp[ji] at h
 | c0::cs,0,c,h=>by simp[ji] at h; exact⟨c0,rfl,h.symm⟩
 | c0::cs,j+1,c,h=>by simp only[ji,List.getElem?_cons_succ] at h ⊢; exact rP h
theorem rQ {m:Nat→Nat}:∀{cs:List C},(ji m cs).length=cs.length
 | []=>rfl
 | c::cs=>by simp[ji,rQ (cs:=cs)]
theorem yZ {m:Nat→Nat}:∀{cs:List (Bool × List C)} {j:Nat} {p:Bool × List C},(oW m cs)[j]? = some p→∃p0,cs[j]? = some p0∧p=(p0.1,ji m p0.2)
 | [],j,p,h=>by simp[oW] at h
 | p0::cs,0,p,h=>by simp[oW] at h; exact⟨p0,rfl,h.symm⟩
 | p0::cs,j+1,p,h=>by simp only[oW,List.getElem?_cons_succ] at h ⊢; exact yZ h
theorem y0 {m:Nat→Nat}:∀{cs:List (Bool × List C)},(oW m cs).length=cs.length
 | []=>rfl
 | c::cs=>by simp[oW,y0 (cs:=cs)]
section
variable {H : Hp} {ρ ρ' : aF} {D D' : Nat → Prop} {m : Nat → Nat} (hm : ∀ k, D k → D' (m k) ∧ (ρ' (m k)).1 = (ρ k).1)
include hm
theorem dz.cO {c:Cp} {v:Value} (h:dz H ρ D c v):dz H ρ' D' (c.cO m) v:=by
 cases c with
 | ptr k off=>obtain⟨hk,b,h1,h2⟩:=h; exact⟨(hm k hk).1,b,by rw[(hm k hk).2]; exact h1,h2⟩
 | el E x off=>exact h
 | bN ls off=>exact h
theorem RC.cO {c:C} {v:Value} (h:RC H ρ D c v):RC H ρ' D' (c.cO m) v:=by
 cases c with
 | lf l=>exact h
 | bl b=>exact h
 | nil=>exact h
 | own k=>obtain⟨hk,h1⟩:=h; exact⟨(hm k hk).1,by rw[(hm k hk).2]; exact h1⟩
 | ptr k off=>exact dz.cO (H:=H) hm (c:= .ptr k off) h
 | el E x off=>exact dz.cO (H:=H) hm (c:= .el E x off) h
 | bN ls off=>exact dz.cO (H:=H) hm (c:= .bN ls off) h
 | en k E i off=>obtain⟨hk,b,o,n,c,h1,h2⟩:=h; exact⟨(hm k hk).1,b,o,n,c,by rw[(hm k hk).2]; exact h1,h2⟩
 | pre k n=>obtain⟨hk,b,o,N,c,h1,h2⟩:=h; exact⟨(hm k hk).1,b,o,N,c,by rw[(hm k hk).2]; exact h1,h2⟩
 | fn f ka=>
   obtain⟨vs,h1,h2,h3⟩:=h;refine⟨vs,h1,by simpa using h2,fun j c hj=> ?_⟩;rw[List.getElem?_map,Option.map_eq_some_iff] at hj;obtain⟨c0,hj,rfl⟩:=hj;exact(h3 j c0 hj).cO hm
 | undef=>trivial
theorem cG.cO {cs:List C} {vs:Array Value} (h:cG H ρ D cs vs):cG H ρ' D' (ji m cs) vs:=by
 refine⟨by rw[rQ]; exact h.1,fun j c hj=> ?_⟩;obtain⟨c0,h1,rfl⟩:=rP hj;exact(h.2 j c0 h1).cO hm
theorem RV.cO {c:V} {v:Value} (h:RV H ρ D c v):RV H ρ' D' (c.cO m) v:=by
 cases c with
 | c x=>exact RC.cO hm h
 | agg cs=>obtain⟨vs,h1,h2⟩:=h; exact⟨vs,h1,h2.cO hm⟩
 | ba cs=>
   obtain⟨vs,h1,h2,h3⟩:=h;refine⟨vs,h1,by rw[y0]; exact h2,fun j p hj=> ?_⟩;obtain⟨p0,h4,rfl⟩:=yZ hj;have:=h3 j p0 h4;obtain⟨b,l⟩:=p0;cases b with
   | true=>obtain⟨us,h5,h6⟩:=this; exact⟨us,h5,h6.cO hm⟩
   | false=>obtain⟨c,h5,h6⟩:=this; simp only at h5; subst h5; exact⟨_,rfl,h6.cO hm⟩
end
def C.cl:C→Bool
 | .lf (.list _ _)=>false
 | .el _ _ _=>false
 | .bN _ _=>false
 | .fn _ _=>false
 | .en _ _ _ _=>false
 | .pre _ _=>false
 | _=>true
def V.cl:V→Bool
 | .c x=>x.cl
 | .agg cs=>cs.all C.cl
 | .ba ps=>ps.all fun p=>p.2.all C.cl
theorem RC.cl {H H':Hp} {ρ:aF} {D:Nat→Prop} {c:C} {v:Value} (h:RC H ρ D c v) (hc:c.cl=true):RC H' ρ D c v:=by
 cases c with
 | lf l=>
   cases l with
   | list E t=>simp[C.cl] at hc
   | int k t=>obtain⟨rfl,h1⟩:=RL.of_int h; exact RL.int h1
   | bool t=>have:=RL.of_bool h; subst this; exact RL.bool
   | str t=>obtain⟨rfl,h1⟩:=RL.kd h; exact RL.str h1
 | bl b=>exact h
 | nil=>exact h
 | own k=>exact h
 | undef=>trivial
 | ptr k off=>exact h
 | el E x off=>simp[C.cl] at hc
 | bN ls off=>simp[C.cl] at hc
 | en k E i off=>simp[C.cl] at hc
 | pre k n=>simp[C.cl] at hc
 | fn f l=>simp[C.cl] at hc
theorem cG.cl {H H':Hp} {ρ:aF} {D:Nat→Prop} {cs:List C} {vs:Array Value} (h:cG H ρ D cs vs) (hc:cs.all C.cl=true):cG H' ρ D cs vs:=
 ⟨h.1,fun j c hj=>(h.2 j c hj).cl (List.all_eq_true.1 hc c (List.mem_of_getElem? hj))⟩
theorem RV.cl {H H':Hp} {ρ:aF} {D:Nat→Prop} {c:V} {v:Value} (h:RV H ρ D c v) (hc:c.cl=true):RV H' ρ D c v:=by
 cases c with
 | c x=>exact RC.cl h hc
 | agg cs=>obtain⟨vs,h1,h2⟩:=h; exact⟨vs,h1,h2.cl hc⟩
 | ba cs=>
   obtain⟨vs,h1,h2,h3⟩:=h;refine⟨vs,h1,h2,fun j p hj=> ?_⟩;have h4:=h3 j p hj;have h5:=List.all_eq_true.1 hc p (List.mem_of_getElem? hj);obtain⟨b,l⟩:=p;cases b with
   | true=>obtain⟨us,h6,h7⟩:=h4; exact⟨us,h6,h7.cl h5⟩
   | false=>obtain⟨c,h6,h7⟩:=h4; simp only at h6; subst h6; exact⟨c,rfl,h7.cl (by simpa using h5)⟩
def ownB:ak→Bool
 | .own _ _ _=>true
 | _=>false
def eP:Hp:=fun _=>none
def args (H:Hp) (ρ:aF) (D:Nat→Prop) (cs:List V) (vs:Array Value):Prop:=
 vs.size=cs.length∧∀j c,cs[j]? = some c→RV H ρ D c (vs.getD j Go.undef)
def num:Nat→List ak→List (Nat × ak)
 | _,[]=>[]
 | j,B::Bs=>(j,B)::num (j+1) Bs
def y4 (P : Program) (f : FuncId) : Prop := ∃ fn, P.funcs[f]? = some fn ∧ (fn.name == "runtime.NumGoroutine") = false ∧ fn.body.isNone = false
def Spec (P:Program) (f:FuncId) (as:List V) (post:V→List ak→Prop):Prop:=
 y4 P f∧∀(w:World) (vs:Array Value),args (fun b=>w.heap[b]?) (fun _=>default) (fun _=>False) as vs→
  Calls P f vs w fun e w'=>∃v r nb H' ρ',e = .returned v∧post r nb∧nb.all ownB=true∧fl w'.heap (fun b=>w.heap[b]?) H' ρ' (num 0 nb)∧RV eP ρ' (av (num 0 nb)) r v∧Ext w w'
def eI (w:World) (S:Nat→Nat):Hp:=fun b=>if S b=0 then w.heap[b]? else none
def bY (P:Program) (f:FuncId) (as:List V) (bs:List (Nat × ak)) (post:V→List (Nat × ak)→Prop):Prop:=
 y4 P f∧∀(w:World) (vs:Array Value) (ρ:aF),fl w.heap (eI w (aP ρ bs)) (eI w (aP ρ bs)) ρ bs→args (eI w (aP ρ bs)) ρ (av bs) as vs→
  Calls P f vs w fun e w'=>∃v r bX H' ρ',e = .returned v∧post r bX∧fl w'.heap (eI w (aP ρ bs)) H' ρ' bX∧RV eP ρ' (av bX) r v∧Ext w w'∧∀k,av bX k→av bs k→(ρ' k).1=(ρ k).1
def rR:C→List Nat
 | .own k=>[k]
 | .ptr k _=>[k]
 | _=>[]
def nH:List C→List Nat
 | []=>[]
 | c::cs=>rR c++nH cs
def wy:List (Bool × List C)→List Nat
 | []=>[]
 | p::ps=>nH p.2++wy ps
def dZ:V→List Nat
 | .c x=>rR x
 | .agg cs=>nH cs
 | .ba ps=>wy ps
def place:List Nat→Nat→Nat
 | [],_=>0
 | x::xs,k=>if x=k then 0 else place xs k+1
def dL:List Nat→Bool
 | []=>true
 | x::xs=> !xs.contains x && dL xs
def tR (bs:List (Nat × ak)):List Nat→Option (List ak)
 | []=>some []
 | k ::ks=>match aL bs k,tR bs ks with
   | some (.own E xs _),some r=>some (.own E xs false::r)
   | _,_=>none
def fm (bs:List (Nat × ak)):List Nat→Bool
 | []=>true
 | k::ks=>(match aL bs k with | some (.own _ _ false)=>true | _=>false) && fm bs ks
def tS (tab:aX) (σ:SS):ResultVar→Option V
 | .tmp t=>some (σ.env.getD t (.c .undef))
 | .cell t ty=>rI tab σ.af ty (σ.env.getD t (.c .undef))
def tT:V→Option (Bool × List C)
 | .c x=>some (false,[x])
 | .agg cs=>some (true,cs)
 | .ba _=>none
def oX (tab:aX) (σ:SS):List ResultVar→Option (List (Bool × List C))
 | []=>some []
 | x ::xs=>match tS tab σ x,oX tab σ xs with
   | some v,some r=>(match tT v with | some p=>some (p::r) | none=>none)
   | _,_=>none
def rS (tab:aX) (σ:SS):List ResultVar→Option V
 | [x]=>tS tab σ x
 | xs=>match oX tab σ xs with | some l=>some (.ba l) | none=>none
def fin (tab:aX) (rs:List ResultVar) (post:V→List ak→Prop) (σ:SS):Prop:=
 match rS tab σ rs with
 | some r=>
   match tR σ.af (dZ r) with
   | some nb=>if dL (dZ r)=true∧fm σ.af (dZ r)=true∧r.cl=true then post (r.cO (place (dZ r))) nb else False
   | none=>False
 | none=>False
def rT:List (Nat × ak)→Nat→List (Nat × ak)
 | [],_=>[]
 | p::r,k=>if p.1=k then r else p::rT r k
theorem C2 {ρ:aF} {bs:List (Nat × ak)} {k:Nat} (hk:av bs k) (x:Nat):aP ρ bs x=(ρ k).2 x+aP ρ (rT bs k) x:=by
 induction bs with
 | nil=>simp[av] at hk
 | cons p r ih=>
   simp only[rT,aP]
   split
   · rename_i h; subst h; rfl
   · rename_i h
     have bw:av r k:=by
      simp only[av,List.map_cons,List.mem_cons] at hk;rcases hk with hk | hk
      · exact absurd hk.symm h
      · exact hk
     rw[ih bw]; simp only[aP]; omega
theorem C3 {bs:List (Nat × ak)} {k j:Nat} (hj:av bs j) (hne:j≠k):av (rT bs k) j:=by
 induction bs with
 | nil=>simp[av] at hj
 | cons p r ih=>
   simp only[av,List.map_cons,List.mem_cons] at hj;simp only[rT]
   split
   · rename_i h;rcases hj with hj | hj
     · exact absurd (hj.trans h) hne
     · exact hj
   · rcases hj with hj | hj
     · simp only[av,List.map_cons,List.mem_cons]; exact .inl hj
     · simp only[av,List.map_cons,List.mem_cons]; exact .inr (ih hj)
def bI (ρ:aF):List Nat→Nat→Nat
 | [],_=>0
 | k::ks,x=>(ρ k).2 x+bI ρ ks x
theorem tU {k:Nat} {ks:List Nat} (h:dL (k::ks)=true):k∉ks∧dL ks=true:=by
 simpa [dL] using h
theorem kL {ρ:aF}:∀(ks:List Nat) {bs:List (Nat × ak)},dL ks=true→(∀k∈ks,av bs k)→∀x,bI ρ ks x≤aP ρ bs x
 | [],_,_,_,_=>Nat.zero_le _
 | k ::ks,bs,hn,hd,x=>by
   obtain⟨h1,h2⟩:=tU hn;have:=kL (ρ:=ρ) ks (bs:=rT bs k) h2 (fun j hj=>C3 (hd j (List.mem_cons_of_mem _ hj)) fun he=>h1 (he▸hj)) x;rw[C2 (hd k List.mem_cons_self)];simp only[bI]; omega
theorem oY {j k:Nat} {B:ak} {nb:List ak}:(k,B)∈num j nb↔j≤k∧nb[k - j]? = some B:=by
 induction nb generalizing j with
 | nil=>simp[num]
 | cons A nb ih=>
   simp only[num,List.mem_cons,ih,Prod.mk.injEq]
   constructor
   · rintro(⟨rfl,rfl⟩ | ⟨h1,h2⟩)
     · simp
     · refine⟨by omega, ?_⟩;rw[show k - j=(k - (j+1))+1 by omega];simpa using h2
   · rintro⟨h1,h2⟩
     rcases Nat.eq_or_lt_of_le h1 with rfl | h
     · simp at h2; exact .inl ⟨rfl,h2.symm⟩
     · refine .inr ⟨by omega, ?_⟩;rw[show k - j=(k - (j+1))+1 by omega] at h2;simpa using h2
theorem mA {j k:Nat} {nb:List ak}:av (num j nb) k↔j≤k∧k<j+nb.length:=by
 simp only[av,List.mem_map]
 constructor
 · rintro⟨⟨k',B⟩,h,rfl⟩
   obtain⟨h1,h2⟩:=oY.1 h;have:=bD h2;exact⟨h1,by simp only; omega⟩
 · rintro⟨h1,h2⟩
   exact⟨(k,nb[k - j]'(by omega)),oY.2 ⟨h1,List.getElem?_eq_getElem (by omega)⟩,rfl⟩
theorem y5 {j:Nat} {nb:List ak}:((num j nb).map (·.1)).Nodup:=by
 induction nb generalizing j with
 | nil=>simp[num]
 | cons B nb ih=>
   simp only[num,List.map_cons,List.nodup_cons];refine⟨fun h=> ?_,ih⟩;have:av (num (j+1) nb) j:=h;have:=mA.1 this;omega
theorem C4:∀{ks:List Nat} {bs:List (Nat × ak)} {nb:List ak},tR bs ks=some nb→nb.length=ks.length∧∀(j:Nat) B,nb[j]? = some B→∃k E xs l,ks[j]? = some k∧B = .own E xs false∧aL bs k=some (.own E xs l)
 | [],bs,nb,h=>by simp only[tR,Option.some.injEq] at h; subst h; exact⟨rfl,fun j B hj=>by simp at hj⟩
 | k ::ks,bs,nb,h=>by
   simp only[tR] at h
   split at h
   · rename_i E xs l r hk hr;cases h;obtain⟨h1,h2⟩:=C4 hr;refine⟨by simp[h1],fun j B hj=> ?_⟩;cases j with
     | zero=>simp at hj; exact⟨k,E,xs,l,rfl,hj.symm,hk⟩
     | succ j=>exact h2 j B (by simpa using hj)
   · cases h
theorem y6 {ρ ρ':aF} {x:Nat}:∀{ks:List Nat} {nb:List ak} {j:Nat},nb.length=ks.length→(∀(i k:Nat),ks[i]? = some k→ρ' (j+i)=ρ k)→aP ρ' (num j nb) x=bI ρ ks x
 | [],nb,j,h,_=>by
   have:nb = []:=by simpa using h
   subst this; rfl
 | k :: ks,nb,j,h,hk=>by
   cases nb with
   | nil=>simp at h
   | cons B nb=>
     simp only[num,aP,bI];rw[show ρ' j=ρ k from hk 0 k rfl]
     rw [y6 (ρ:=ρ) (ks:=ks) (by simpa using h) fun i k' hi=>by
      have:=hk (i+1) k' (by simpa using hi);rw[←this]; congr 1; omega]
theorem y7:∀{ks:List Nat} {k:Nat},k∈ks→ks[place ks k]? = some k
 | x ::xs,k,h=>by
   simp only[place]
   split
   · rename_i hx; subst hx; rfl
   · rename_i hx;cases h with
     | head=>exact(hx rfl).elim
     | tail _ h=>simpa using y7 h
theorem Jv {ps:List (Bool × List C)} {p:Bool × List C} {k:Nat} (h:p∈ps) (hk:k∈nH p.2):k∈wy ps:=by
 induction ps with
 | nil=>cases h
 | cons q ps ih=>
   simp only[wy,List.mem_append];cases h with
   | head=>exact .inl hk
   | tail _ h=>exact .inr (ih h)
section
variable {H H' : Hp} {ρ ρ' : aF} {D D' : Nat → Prop} {m : Nat → Nat}
theorem RC.oZ {c:C} {v:Value} (h:RC H ρ D c v) (hc:c.cl=true) (hm:∀k∈rR c,D' (m k)∧(ρ' (m k)).1=(ρ k).1):RC H' ρ' D' (c.cO m) v:=by
 cases c with
 | own k=>
   obtain⟨_,h1⟩:=h;have:=hm k (by simp[rR]);exact⟨this.1,by rw[this.2]; exact h1⟩
 | lf l=>exact RC.cl (D:=D') (ρ:=ρ') (c:= .lf l) h hc
 | bl b=>exact h
 | nil=>exact h
 | undef=>trivial
 | ptr k off=>
   obtain⟨_,b,h1,h2⟩:=h;have:=hm k (by simp[rR]);exact⟨this.1,b,by rw[this.2]; exact h1,h2⟩
 | el E x off=>simp[C.cl] at hc
 | bN ls off=>simp[C.cl] at hc
 | en k E i off=>simp[C.cl] at hc
 | pre k n=>simp[C.cl] at hc
 | fn f l=>simp[C.cl] at hc
theorem Jw {cs:List C} {c:C} (h:c∈cs):∀k∈rR c,k∈nH cs:=by
 intro k hk
 induction cs with
 | nil=>cases h
 | cons d cs ih=>
   simp only[nH,List.mem_append];cases h with
   | head=>exact .inl hk
   | tail _ h=>exact .inr (ih h)
theorem cG.oZ {cs:List C} {vs:Array Value} (h:cG H ρ D cs vs) (hc:cs.all C.cl=true) (hm:∀k∈nH cs,D' (m k)∧(ρ' (m k)).1=(ρ k).1):cG H' ρ' D' (ji m cs) vs:=by
 refine⟨by rw[rQ]; exact h.1,fun j c hj=> ?_⟩;obtain⟨c0,h1,rfl⟩:=rP hj;have cM:=List.mem_of_getElem? h1;exact(h.2 j c0 h1).oZ (List.all_eq_true.1 hc _ cM) fun k hk=>hm k (Jw cM k hk)
theorem RV.oZ {c:V} {v:Value} (h:RV H ρ D c v) (hc:c.cl=true) (hm:∀k∈dZ c,D' (m k)∧(ρ' (m k)).1=(ρ k).1):RV H' ρ' D' (c.cO m) v:=by
 cases c with
 | c x=>exact RC.oZ h hc hm
 | agg cs=>obtain⟨vs,h1,h2⟩:=h; exact⟨vs,h1,h2.oZ hc hm⟩
 | ba cs=>
   obtain⟨vs,h1,h2,h3⟩:=h;refine⟨vs,h1,by rw[y0]; exact h2,fun j p hj=> ?_⟩;obtain⟨p0,h4,rfl⟩:=yZ hj;have cM:=List.mem_of_getElem? h4;have:=h3 j p0 h4;have eJ:=List.all_eq_true.1 hc p0 cM;have tP:∀k∈nH p0.2,D' (m k)∧(ρ' (m k)).1=(ρ k).1:=fun k hk=>hm k (Jv cM hk);obtain⟨b,l⟩:=p0;cases b with
   | true=>obtain⟨us,h5,h6⟩:=this; exact⟨us,h5,h6.oZ eJ tP⟩
   | false=>
     obtain⟨c,h5,h6⟩:=this;simp only at h5; subst h5;exact⟨_,rfl,h6.oZ (by simpa using eJ) fun k hk=>tP k (by simpa [nH] using hk)⟩
end
def rU (tmps:Array Value):ResultVar→Sem Value
 | .tmp t=>pure (tmps.getD t Go.undef)
 | .cell t ty=>do loadVar ty (←asAddr (tmps.getD t Go.undef))
section
variable {P : Program} {tab : aX} (hT : eC P tab = true) {Γ : Ctx} {H : Hp} {ρ : aF} {σ : SS} {a : Act} {w : World} (r : aG Γ H ρ σ a w)
include hT r
omit hT in
theorem tV (t:Nat):RV H ρ (av σ.af) (σ.env.getD t (.c .undef)) (a.tmps.getD t Go.undef):=by
 have:=iu r.e (.tmp t);exact this
theorem C5 {x:ResultVar} {v:V} (h:tS tab σ x=some v):∃y,RV H ρ (av σ.af) v y∧(rU a.tmps x).run P w = .ok y w:=by
 cases x with
 | tmp t=>simp only[tS,Option.some.injEq] at h; subst h; exact⟨_,tV r t,rfl⟩
 | cell t ty=>
   simp only[tS] at h;obtain⟨y,h1,h2⟩:=CK hT r h (tV r t);refine⟨y,h1, ?_⟩;have h3:=h2 w (mv.refl r _);have hp:=tV r t;simp only[Instr.loadAt,Sem.run_bind] at h3;simp only[rU,Sem.run_bind];generalize hq:a.tmps.getD t Go.undef=q at *
   have:∃ad,q = .pointer (some ad):=by
    generalize σ.env.getD t (.c .undef)=c at h hp;unfold rI at h
    split at h
    · obtain⟨_,b,_,rfl⟩:=hp; exact⟨_,rfl⟩
    · obtain⟨b,o,cs,e,fz,_,rfl,_⟩:=hp; exact⟨_,rfl⟩
    · obtain⟨b,o,cs,e,fz,_,rfl,_⟩:=hp; exact⟨_,rfl⟩
    · obtain⟨_,b,o,n,c,_,_,rfl⟩:=hp; exact⟨_,rfl⟩
    · cases h
   obtain⟨ad,rfl⟩:=this;exact h3
omit hT r in
theorem Jx {v:V} {y:Value} {p:Bool × List C} (h:tT v=some p) (hv:RV H ρ (av σ.af) v y):RT H ρ (av σ.af) p y:=by
 cases v with
 | c x=>simp only[tT,Option.some.injEq] at h; subst h; exact⟨x,rfl,hv⟩
 | agg cs=>simp only[tT,Option.some.injEq] at h; subst h; exact hv
 | ba cs=>simp[tT] at h
theorem C6:∀{rs:List ResultVar} {l:List (Bool × List C)},oX tab σ rs=some l→∃vs:List Value,
     (rs.mapM (rU a.tmps)).run P w = .ok vs w∧vs.length=l.length∧∀(j:Nat) p,l[j]? = some p→RT H ρ (av σ.af) p (vs.toArray.getD j Go.undef)
 | [],l,h=>by
   simp only[oX,Option.some.injEq] at h; subst h;exact⟨[],by simp,rfl,fun j p hj=>by simp at hj⟩
 | x :: rs,l,h=>by
   simp only[oX] at h
   split at h
   · rename_i v l' hv hl
     split at h
     · rename_i p hp;cases h;obtain⟨y,h1,h2⟩:=C5 hT r hv;obtain⟨vs,h3,h4,h5⟩:=C6 hl;refine⟨y::vs,by rw[List.mapM_cons,Sem.run_bind,h2,Result.andThen_ok,Sem.run_bind,h3]; rfl,by simp[h4],fun j q hj=> ?_⟩;cases j with
       | zero=>simp at hj; subst hj; simpa using Jx hp h1
       | succ j=>simpa using h5 j q (by simpa using hj)
     · cases h
   · cases h
omit hT r in
theorem C7 (fn:Func) (tmps:Array Value):(results fn tmps).run P w=((fn.results.toList.mapM (rU tmps)).run P w).andThen fun vs w'=> .ok (if h:vs.length=1 then vs[0] else .tuple vs.toArray) w':=by
 have e:results fn tmps=(do let vs←fn.results.mapM (rU tmps); pure (if h:vs.size=1 then vs[0] else .tuple vs)):=rfl;rw[e,Sem.run_bind,Array.mapM_eq_mapM_toList,Sem.run_map];cases(fn.results.toList.mapM (rU tmps)).run P w with
 | ok vs w'=>simp
 | halt h w'=>rfl
theorem wz {fn:Func} {v:V} (h:rS tab σ fn.results.toList=some v):∃y,RV H ρ (av σ.af) v y∧(results fn a.tmps).run P w = .ok y w:=by
 unfold rS at h
 split at h
 · rename_i x hx;obtain⟨y,h1,h2⟩:=C5 hT r h;refine⟨y,h1, ?_⟩;rw[C7,hx,List.mapM_cons,Sem.run_bind,h2];simp
 · rename_i hne
   split at h
   · rename_i l hl;cases h;obtain⟨vs,h1,h2,h3⟩:=C6 hT r hl;refine⟨.tuple vs.toArray,⟨vs.toArray,rfl,by simpa using h2,h3⟩, ?_⟩;rw[C7,h1]
     have : vs.length≠1:=by
      intro h4
      have h5 :fn.results.toList.length=1:=by
       have : ∀(rs:List ResultVar) l,oX tab σ rs=some l→l.length=rs.length:=by
        intro rs
        induction rs with
        | nil=>intro l h; simp only[oX,Option.some.injEq] at h; subst h; rfl
        | cons x rs ih=>
          intro l h;simp only[oX] at h
          split at h
          · split at h
            · cases h; simp[ih _ ‹_›]
            · cases h
          · cases h
       rw[←this _ _ hl,←h2,h4]
      obtain⟨x,hx⟩:=List.length_eq_one_iff.1 h5;exact hne x hx
     simp[this]
   · cases h
theorem Jy {fn :Func} {post:V→List ak→Prop} (h:fin tab fn.results.toList post σ) :
   ∃ v,(results fn a.tmps).run P w = .ok v w∧∃rv nb H' ρ',post rv nb∧nb.all ownB=true∧fl w.heap Γ.H0 H' ρ' (num 0 nb)∧RV eP ρ' (av (num 0 nb)) rv v:=by
 unfold fin at h
 split at h
 · rename_i rv qI
   split at h
   · rename_i nb y8
     split at h
     · rename_i hc;obtain⟨kM,y9,eJ⟩:=hc;obtain⟨v,h1,h2⟩:=wz hT r qI;obtain⟨hlen,eD⟩:=C4 y8
       have wA :∀(j:Nat) B,nb[j]? = some B→∃k,(dZ rv)[j]? = some k∧(k,B)∈σ.af∧∃E xs,B = .own E xs false:=by
         intro j B hj;obtain⟨k,E,xs,l,h3,rfl,h4⟩:=eD j B hj
         have :l=false:=by
          have :∀ks,fm σ.af ks=true→∀k∈ks,∀E xs l,aL σ.af k=some (.own E xs l)→l=false:=by
           intro ks
           induction ks with
           | nil=>intro _ k hk; cases hk
           | cons x ks ih=>
             intro hu k hk E xs l hg;simp only[fm,Bool.and_eq_true] at hu;cases hk with
             | head=>rw[hg] at hu; cases l <;> simp at hu ⊢
             | tail _ hk=>exact ih hu.2 k hk E xs l hg
          exact this _ y9 k (List.mem_of_getElem? h3) E xs l h4
         subst this;exact⟨k,h3,cK h4,E,xs,rfl⟩
       have jz:∀k∈dZ rv,av σ.af k:=by
         intro k hk;obtain⟨j,hj,lN⟩:=List.getElem_of_mem hk;obtain⟨B,hB⟩:∃B,nb[j]? = some B:=⟨_,List.getElem?_eq_getElem (by omega)⟩;obtain⟨k',h3,h4,_⟩:=wA j B hB;rw[List.getElem?_eq_getElem hj,lN] at h3;cases h3;exact List.mem_map.2 ⟨_,h4,rfl⟩
       let ρ':aF:=fun j=>ρ ((dZ rv).getD j 0)
       have iw:∀(i k:Nat),(dZ rv)[i]? = some k→ρ' i=ρ k:=fun i k hi=>by
         simp only[ρ',List.getD_eq_getElem?_getD,hi,Option.getD_some]
       have cM:∀j B,(j,B)∈num 0 nb→∃k,(dZ rv)[j]? = some k∧(k,B)∈σ.af∧ρ' j=ρ k∧∃E xs,B = .own E xs false:=fun j B hj=>by
         obtain⟨_,h3⟩:=oY.1 hj;obtain⟨k,h4,h5,h6⟩:=wA j B (by simpa using h3);exact⟨k,h4,h5,iw j k h4,h6⟩
       refine⟨v,h2,_,nb,Γ.H0,ρ',h,List.all_eq_true.2 fun B hB=> ?_,⟨?_,y5,fun b o h=>h,fun b o h=>r.b.hh b o (r.b.h0 b o h), ?_, ?_, ?_, ?_⟩, ?_⟩
       · obtain⟨j,hj,tW⟩:=List.getElem_of_mem hB;obtain⟨_,_,_,E,xs,rfl⟩:=wA j B (by rw[List.getElem?_eq_getElem hj,tW]);rfl
       · intro k hk;obtain⟨_,h4⟩:=mA.1 hk;obtain⟨B,hB⟩:∃B,nb[k]? = some B:=⟨_,List.getElem?_eq_getElem (by omega)⟩;obtain⟨k',h3,h5,_⟩:=wA k B hB;rw[iw k k' h3];exact r.b.oc k' (List.mem_map.2 ⟨_,h5,rfl⟩)
       · intro k B hk;obtain⟨k',h3,h4,h5,E,xs,rfl⟩:=cM k B hk;rw[h5];exact r.b.af k' _ h4
       · intro x;rw[y6 (ρ:=ρ) hlen (fun i k hi=>by rw[Nat.zero_add]; exact iw i k hi)];exact Nat.le_trans (kL _ kM jz x) (r.b.sum x)
       · intro k B hk x hx;obtain⟨k',h3,h4,h5,_⟩:=cM k B hk;rw[h5] at hx;exact r.b.fresh k' B h4 x hx
       · intro k B hk x hx;obtain⟨k',h3,h4,h5,E,xs,rfl⟩:=cM k B hk;rw[h5] at hx;exact r.b.fresh k' _ h4 x hx
       · refine h1.oZ eJ fun k hk=> ?_;have hp:=y7 hk;refine⟨mA.2 ⟨Nat.zero_le _, ?_⟩,by rw[iw _ k hp]⟩;rw[Nat.zero_add,hlen];exact bD hp
     · cases h
   · cases h
 · cases h
end
theorem nc (n:Nat): @NatCast.natCast Int instNatCastInt n=(n:Int):=rfl
def bE {α:Type} (lt:α→α→Bool) (y:α):List α→List α
 | []=>[y]
 | a::s=>if lt a y=true then a::bE lt y s else y::a::s
def fc {α:Type} (lt:α→α→Bool) (x:α):List α→List α
 | []=>[x]
 | a::s=>if lt x a=true then x::a::s else a::fc lt x s
structure jA {α:Type} (lt:α→α→Bool):Prop where
 tr:∀a b c,lt a b=true→lt b c=true→lt a c=true
 ng:∀a b c,lt a b=false→lt b c=false→lt a c=false
 as:∀a b,lt a b=true→lt b a=false
section
variable {α : Type} {lt : α → α → Bool}
theorem C8 (h:jA lt) (x y:α):∀s:List α,bE lt y (fc lt x s)=fc lt x (bE lt y s)
 | []=>by simp only[bE,fc]
 | a ::s=>by
   have ih:=C8 h x y s;cases h1:lt x a <;> cases h2:lt a y <;> cases h3:lt x y <;> simp[bE,fc,h1,h2,h3,ih]
   · have:=h.ng _ _ _ h1 h2; rw[h3] at this; cases this
   · have:=h.tr _ _ _ h1 h2; rw[h3] at this; cases this
def cW (lt:α→α→Bool) (l:List α):List α:=l.foldl (fun s x=>fc lt x s) []
def jk (lt:α→α→Bool) (l:List α):List α:=l.foldr (fun x s=>bE lt x s) []
theorem qJ (l:List α) (x:α):cW lt (l ++ [x])=fc lt x (cW lt l):=by
 simp[cW]
theorem C9 (h:jA lt) (x:α):∀l:List α,jk lt (l ++ [x])=fc lt x (jk lt l)
 | []=>by simp[jk,bE,fc]
 | y ::l=>by
   have ih:=C9 h x l;simp only[List.cons_append,jk,List.foldr_cons] at ih ⊢;rw[ih]; exact C8 h x y _
theorem C_ (h:jA lt) (l:List α):jk lt l=cW lt l:=by
 obtain⟨n,hn⟩:∃n,l.length=n:=⟨_,rfl⟩
 induction n generalizing l with
 | zero=>
   have:l = []:=List.length_eq_zero_iff.1 hn;subst this; rfl
 | succ n ih=>
   rcases List.eq_nil_or_concat l with rfl | ⟨l',x,rfl⟩
   · rfl
   · rw[List.concat_eq_append,C9 h,qJ,ih l' (by simpa using hn)]
def o9 (lt:α→α→Bool) (l:List α):Prop:=l.Pairwise fun a b=>lt b a=false
theorem y_ {x b:α}:∀{s:List α},b∈fc lt x s↔b=x∨b∈s
 | []=>by simp[fc]
 | a :: s=>by
   simp only[fc]
   split
   · simp
   · simp only[List.mem_cons,y_ (s:=s)]
     constructor
     · rintro(h | h | h)
       · exact .inr (.inl h)
       · exact .inl h
       · exact .inr (.inr h)
     · rintro(h | h | h)
       · exact .inr (.inl h)
       · exact .inl h
       · exact .inr (.inr h)
theorem qK {x b:α}:∀{s:List α},b∈bE lt x s↔b=x∨b∈s
 | []=>by simp[bE]
 | a :: s=>by
   simp only[bE]
   split
   · simp only[List.mem_cons,qK (s:=s)]
     constructor
     · rintro(h | h | h)
       · exact .inr (.inl h)
       · exact .inl h
       · exact .inr (.inr h)
     · rintro(h | h | h)
       · exact .inr (.inl h)
       · exact .inl h
       · exact .inr (.inr h)
   · simp
theorem Da {x:α}:∀{s:List α},(fc lt x s).length=s.length+1
 | []=>rfl
 | a::s=>by simp only[fc]; split <;> simp[Da (s:=s)]
theorem tX {x:α}:∀{s:List α},(bE lt x s).length=s.length+1
 | []=>rfl
 | a::s=>by simp only[bE]; split <;> simp[tX (s:=s)]
theorem kh (l:List α):(cW lt l).length=l.length:=by
 obtain⟨n,hn⟩:∃n,l.length=n:=⟨_,rfl⟩
 induction n generalizing l with
 | zero=>
   have:l = []:=List.length_eq_zero_iff.1 hn;subst this; rfl
 | succ n ih=>
   rcases List.eq_nil_or_concat l with rfl | ⟨l',x,rfl⟩
   · rfl
   · rw[List.concat_eq_append,qJ,Da,ih l' (by simpa using hn)]; simp
theorem tY {b:α} (l:List α):b∈cW lt l↔b∈l:=by
 obtain⟨n,hn⟩:∃n,l.length=n:=⟨_,rfl⟩
 induction n generalizing l with
 | zero=>
   have:l = []:=List.length_eq_zero_iff.1 hn;subst this; rfl
 | succ n ih=>
   rcases List.eq_nil_or_concat l with rfl | ⟨l',x,rfl⟩
   · rfl
   · rw[List.concat_eq_append,qJ,y_,ih l' (by simpa using hn)];simp only[List.mem_append,List.mem_singleton];exact⟨fun h=>h.elim .inr .inl,fun h=>h.elim .inr .inl⟩
theorem Db (h:jA lt) {x:α}:∀{s:List α},o9 lt s→o9 lt (fc lt x s)
 | [],_=>by simp[fc,o9]
 | a :: s,hs=>by
   obtain⟨h1,h2⟩:=List.pairwise_cons.1 hs;simp only[fc]
   split
   · rename_i hx;refine List.pairwise_cons.2 ⟨fun b hb=> ?_,hs⟩;cases hb with
     | head=>exact h.as _ _ hx
     | tail _ hb=>
       have h3:=h1 b hb;cases h4:lt b x with
       | false=>rfl
       | true=>have:=h.tr _ _ _ h4 hx; rw[h3] at this; cases this
   · rename_i hx;refine List.pairwise_cons.2 ⟨fun b hb=> ?_,Db h h2⟩;rcases y_.1 hb with rfl | hb
     · simpa using hx
     · exact h1 b hb
theorem wB (h:jA lt) (l:List α):o9 lt (cW lt l):=by
 obtain⟨n,hn⟩:∃n,l.length=n:=⟨_,rfl⟩
 induction n generalizing l with
 | zero=>
   have:l = []:=List.length_eq_zero_iff.1 hn;subst this; exact List.Pairwise.nil
 | succ n ih=>
   rcases List.eq_nil_or_concat l with rfl | ⟨l',x,rfl⟩
   · exact List.Pairwise.nil
   · rw[List.concat_eq_append,qJ];exact Db h (ih l' (by simpa using hn))
theorem za (x:α):∀{p q:List α},(∀b∈p,lt x b=false)→(∀b,q.head? = some b→lt x b=true)→fc lt x (p++q)=p++x::q
 | [],[],_,_=>rfl
 | [],b::q,_,hq=>by simp[fc,hq b rfl]
 | a ::p,q,hp,hq=>by
   simp only[List.cons_append,fc];rw[if_neg (by rw[hp a List.mem_cons_self]; simp),za x (fun b hb=>hp b (List.mem_cons_of_mem _ hb)) hq]
theorem Dc (h:jA lt) {x a:α} {p:List α} (hs:o9 lt (p ++ [a])) (ha:lt x a=false):∀b∈p ++ [a],lt x b=false:=by
 intro b hb;rcases List.mem_append.1 hb with hb | hb
 · have:=(List.pairwise_append.1 hs).2.2 b hb a (by simp);exact h.ng _ _ _ ha this
 · cases List.mem_singleton.1 hb; exact ha
theorem Dd (x:α):∀{p q:List α},(∀b∈p,lt b x=true)→(∀b,q.head? = some b→lt b x=false)→bE lt x (p++q)=p++x::q
 | [],[],_,_=>rfl
 | [],b::q,_,hq=>by simp[bE,hq b rfl]
 | a ::p,q,hp,hq=>by
   simp only[List.cons_append,bE];rw[if_pos (hp a List.mem_cons_self),Dd x (fun b hb=>hp b (List.mem_cons_of_mem _ hb)) hq]
theorem zb {x:α} {l:List α} {k:Nat} (hp:∀j b,j<k→l[j]? = some b→lt b x=true) (hq:∀b,l[k]? = some b→lt b x=false) :
  bE lt x l=l.take k++x::l.drop k:=by
 have:=Dd (lt:=lt) x (p:=l.take k) (q:=l.drop k) (fun b hb=>by
  obtain⟨j,hj⟩:=List.mem_iff_getElem?.1 hb;rw[List.getElem?_take] at hj
  split at hj
  · exact hp j b (by assumption) hj
  · cases hj) (fun b hb=>hq b (by rw[List.head?_drop] at hb; exact hb))
 rwa [List.take_append_drop] at this
theorem De (h:jA lt) (ha:∀a b,lt a b=false→lt b a=false→a=b) {x:α}:∀{s:List α},o9 lt s→bE lt x s=fc lt x s
 | [],_=>rfl
 | a :: s, hs=>by
   obtain⟨h1,h2⟩:=List.pairwise_cons.1 hs;have ih:=De h ha (x:=x) h2;simp only[bE,fc];cases h3:lt a x with
   | true=>rw[if_pos rfl,if_neg (by rw[h.as _ _ h3]; simp),ih]
   | false =>
     rw[if_neg (by simp)];cases h4:lt x a with
     | true=>rw[if_pos rfl]
     | false=>
       obtain rfl:=ha _ _ h3 h4;rw[if_neg (by simp),←ih];cases s with
       | nil=>rfl
       | cons b s=>
         simp only[bE];rw[if_neg (by rw[h1 b List.mem_cons_self]; simp)]
def gU (lt:α→α→Bool) (l:List α):List α:=l.foldl (fun s x=>bE lt x s) []
theorem zc (l:List α) (x:α):gU lt (l ++ [x])=bE lt x (gU lt l):=by simp[gU]
theorem wC (h:jA lt) (ha:∀a b,lt a b=false→lt b a=false→a=b) (l:List α):gU lt l=cW lt l:=by
 obtain⟨n,hn⟩:∃n,l.length=n:=⟨_,rfl⟩
 induction n generalizing l with
 | zero=>
   have:l = []:=List.length_eq_zero_iff.1 hn;subst this; rfl
 | succ n ih=>
   rcases List.eq_nil_or_concat l with rfl | ⟨l',x,rfl⟩
   · rfl
   · rw[List.concat_eq_append,zc,qJ,ih l' (by simpa using hn),De h ha (wB h l')]
end
def slt {α:Type} (p:List α) (x:α) (rest:List α) (j:Nat):List α:=p.take j++x::(p.drop j++rest)
section
variable {α : Type} {p rest : List α} {x d : α} {j : Nat}
theorem Df (hj:j≤p.length):(slt p x rest j).length=p.length+1+rest.length:=by simp[slt]; omega
theorem Dg (hj:j≤p.length):(slt p x rest j)[j]? = some x:=by
 rw[slt,List.getElem?_append_right (by rw[List.length_take]; omega),List.length_take,Nat.min_eq_left hj,Nat.sub_self]; rfl
theorem Dh (hj:j≤p.length) (h0:0<j):(slt p x rest j)[j - 1]? = p[j - 1]? :=by
 rw[slt,List.getElem?_append_left (by rw[List.length_take]; omega),List.getElem?_take,if_pos (by omega)]
theorem zd (hj:j≤p.length) (h0:0<j) {y:α} (hy:p[j - 1]? = some y):((slt p x rest j).set j y).set (j - 1) x=slt p x rest (j - 1):=by
 obtain⟨k,rfl⟩:∃k,j=k+1:=⟨j - 1,by omega⟩;simp only[Nat.add_sub_cancel] at *;have h1:p.take (k+1)=p.take k ++ [y]:=by rw[List.take_add_one,hy]; rfl
 have h2:p.drop k=y::p.drop (k+1):=by
  have hk:k<p.length:=by omega
  rw[List.drop_eq_getElem_cons hk];rw[List.getElem?_eq_getElem hk] at hy;cases hy; rfl
 have hl:(p.take k).length=k:=by rw[List.length_take]; omega
 rw[slt,slt,h1,h2,List.append_assoc];rw[List.set_append_right _ _ (by omega),hl,show k+1 - k=1 by omega];rw[List.set_append_right _ _ (by omega),hl,Nat.sub_self];rfl
theorem Di (hj:j≤p.length) (h0:0<j) {y:α} (hy:p[j - 1]? = some y):((slt p x rest j).set (j - 1) x).set j y=slt p x rest (j - 1):=by
 rw[List.set_comm _ _ (by omega)]; exact zd hj h0 hy
end
theorem Dj {α:Type} (lt:α→α→Bool) (xs:List α):cW lt (xs.take 1)++xs.drop 1=xs:=by
 cases xs with
 | nil=>rfl
 | cons a xs=>simp[cW,fc]
theorem Dk {α:Type} {lt:α→α→Bool} (xs:List α) {i:Nat} (hi:i<xs.length):cW lt (xs.take (i+1))=fc lt xs[i] (cW lt (xs.take i)):=by
 rw[List.take_add_one,List.getElem?_eq_getElem hi]; exact qJ _ _
theorem Dl {α:Type} {lt:α→α→Bool} {x y:α}:((if lt x y=true then(-1:Int) else if lt y x=true then 1 else 0)<0)↔lt x y=true:=by
 cases lt x y <;> cases lt y x <;> simp
def bd (a b:Entry):Bool:=decide (a.lvl<b.lvl) || (a.lvl == b.lvl && decide (a.az<b.az))
def bf (a b:ay):Bool:=decide (a.tm<b.tm) || (a.tm == b.tm && decide (a.pid<b.pid))
theorem nI:jA bd where
 tr a b c h1 h2:=by simp only[bd,Bool.or_eq_true,Bool.and_eq_true,decide_eq_true_eq,beq_iff_eq] at *; omega
 ng a b c h1 h2:=by
  simp only[bd,Bool.or_eq_false_iff,Bool.and_eq_false_iff,decide_eq_false_iff_not,beq_eq_false_iff_ne] at *; omega
 as a b h1:=by
  simp only[bd,Bool.or_eq_false_iff,Bool.and_eq_false_iff,decide_eq_false_iff_not,beq_eq_false_iff_ne,Bool.or_eq_true,Bool.and_eq_true,decide_eq_true_eq,beq_iff_eq] at *; omega
theorem jl:jA bf where
 tr a b c h1 h2:=by simp only[bf,Bool.or_eq_true,Bool.and_eq_true,decide_eq_true_eq,beq_iff_eq] at *; omega
 ng a b c h1 h2:=by
  simp only[bf,Bool.or_eq_false_iff,Bool.and_eq_false_iff,decide_eq_false_iff_not,beq_eq_false_iff_ne] at *; omega
 as a b h1:=by
  simp only[bf,Bool.or_eq_false_iff,Bool.and_eq_false_iff,decide_eq_false_iff_not,beq_eq_false_iff_ne,Bool.or_eq_true,Bool.and_eq_true,decide_eq_true_eq,beq_iff_eq] at *; omega
theorem tZ (a b:ay) (h1:bf a b=false) (h2:bf b a=false):a=b:=by
 simp only[bf,Bool.or_eq_false_iff,Bool.and_eq_false_iff,decide_eq_false_iff_not,beq_eq_false_iff_ne] at *;have h3:a.tm=b.tm:=by omega
 have h4:a.pid=b.pid:=by omega
 cases a; cases b; cases h3; cases h4; rfl
end Go.Proofs.YtpklefhdkkegiaaGreat

