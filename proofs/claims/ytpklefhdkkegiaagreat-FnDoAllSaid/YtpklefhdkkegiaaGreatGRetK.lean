/- Parts of a proof. No conditions. -/

import Derived.Test.YtpklefhdkkegiaaGreatG04
set_option linter.unusedSimpArgs false
set_option linter.unusedVariables false
namespace Go.Proofs.YtpklefhdkkegiaaGreat
open Go
def kA:List (Nat × dQ)→List (Nat × dQ)
 | []=>[]
 | p::r=>match Nat.blt p.1 100 with | true=>p::kA r | false=>kA r
def qC (kp:List (Nat × dQ)):List Nat→List Nat
 | []=>[]
 | k::ks=>if(kp.map (·.1)).contains k then qC kp ks else k::qC kp ks
theorem Qd {kp:List (Nat × dQ)} {p:Nat × dQ} (h:p∈kp) (hl:p.1<100):p∈kA kp:=by
 induction kp with
 | nil=>cases h
 | cons q kp ih=>
   simp only[kA];rcases List.mem_cons.1 h with rfl | h
   · rw[show Nat.blt p.1 100=true by simpa [Nat.blt_eq] using hl]; exact List.mem_cons_self
   · split
     · exact List.mem_cons_of_mem _ (ih h)
     · exact ih h
def xL (tab :bh) (rs:List ResultVar) (v0:V) (kp:List (Nat × dQ)) (σ:SS):Prop:=
 match uM tab σ rs with
 | some r0 =>
   match r_ (.c .any) r0 9000000 with
   | (r', l)=>
     match m0 l (closeAll (σ.ah.map (·.1)) σ.ah) with
     | some bs=>
       match oX bs (iQ (iP (kA kp)) (ib (qC kp (fm r')) 100)) (iQ (iP (kA kp)) (ib (qC kp (fm r')) 100)) with
       | some out=>
         if eX ((iQ (iP (kA kp)) (ib (qC kp (fm r')) 100)).map (·.1))=true∧eX ((iQ (iP (kA kp)) (ib (qC kp (fm r')) 100)).map (·.2))=true∧(r'.sg (iQ (iP (kA kp)) (ib (qC kp (fm r')) 100))).cl=true then
          nM out (jR kp) (mV (r'.sg (iQ (iP (kA kp)) (ib (qC kp (fm r')) 100))) (v0) True)
         else False
       | none=>False
     | none=>False
 | none=>False
section
variable {P : Program} {tab : bh} (hT : fy P tab = true) {Γ : Ctx} {H : Hp} {ρ : aK} {σ : SS} {a : Act} {w : World} (r : aM Γ H ρ σ a w)
include hT r
theorem Qe (bT:Γ.hd = []) {fn:Func} {v0:V} {kp:List (Nat × dQ)} (h:xL tab fn.results.toList v0 kp σ) :
   ∃ v,(results fn a.tmps).run P w = .ok v w∧∃H' ρ',gw w.heap Γ.H0 H' ρ' (jR kp)∧RV fX ρ' (ay (jR kp)) (v0) v∧∀p∈kA kp,ay σ.ah p.1→(ρ' p.1).1=(ρ p.1).1:=by
 unfold xL at h
 split at h
 · rename_i rv tq;obtain⟨v,hv,sb⟩:=zq hT r tq;cases hm:r_ (.c .any) rv 9000000 with
   | mk xz l=>
   rw[hm] at h;simp only at h
   split at h
   · rename_i bs qz
     split at h
     · rename_i out xA
       split at h
       · rename_i hc;obtain⟨lJ,vA,fA⟩:=hc;obtain⟨ρ1,r1,f1,f2⟩:=r.closeAll bT (ks:=σ.ah.map (·.1));obtain⟨ρ2,r2,f3,f4⟩:=aM.m0 (σ:={σ with ah:=Go.Proofs.YtpklefhdkkegiaaGreat.closeAll (σ.ah.map (·.1)) σ.ah}) r1 qz
         have hg:∀k,ay σ.ah k→ay bs k∧(ρ2 k).1=(ρ k).1:=fun k hk=>by
           obtain⟨q1,q2⟩:=f3 k (by show ay (Go.Proofs.YtpklefhdkkegiaaGreat.closeAll (σ.ah.map (·.1)) σ.ah) k; rw[f2]; exact hk);exact⟨q1,by rw[q2,f1]⟩
         have ml:=DM hg hm f4 hv;obtain⟨rb,xB,gL⟩:=gw.iv xA lJ vA r2.b;have xC:=RV.sg xB ml;obtain⟨xD,oT,hX⟩:=qA h;obtain⟨_,xE⟩:=Ai xD;have lr:ay (jR kp)=ay out:=by funext k; simp only[ay,oT]
         refine⟨v,sb,H,_,rb.as oT hX, ?_,fun p hp=> ?_⟩
         · rw[lr];exact xE (xC.cl fA)
         · have cA:=DN (l:=ib (qC kp (fm xz)) 100) p hp;obtain⟨q1,q2⟩:=gL _ _ cA;intro hd;show(ρ2 (inv _ p.1)).1=_;rw[q2,(hg _ hd).2]
       · cases h
     · cases h
   · cases h
 · cases h
end
def Ap (tab:bh) (rs:List ResultVar) (X:Type) (φ:X→Prop) (s:X→V) (kp:X→List (Nat × dQ)) (σ:SS):Prop:=∃x:X,φ x∧xL tab rs (s x) (kp x) σ
theorem Qf {P : Program} {tab : bh} (hT : fy P tab = true) {f : FuncId} {fn : Func} {c : Code} (hf : P.funcs[f]? = some fn) (hb : fn.body = some c) (fB : (fn.name == "runtime.NumGoroutine") = false) {fr : Bool} (eZ : fr = true → gF c = true)
  {as:List V} {bs:List (Nat × an)} {X:Type} {φ:X→Prop} {s:X→V} {kp:X→List (Nat × dQ)} {pk:List Nat} (iu:∀x,(kA (kp x)).map (·.1)=pk) (jl:pk.all (fun k=>(bs.map (·.1)).contains k)=true)
  (aQ:(bs.map (·.1)).all (fun k=>decide (k<100))=true)
  (h:ky as→lK bs→pd P tab fr fn c as bs pk (Ap tab fn.results.toList X φ s kp)):bJ P f as bs fun r b=>∃x,φ x∧r=s x∧b=jR (kp x):=by
 refine⟨⟨fn,hf,fB,by rw[hb]; rfl⟩,fun w vs ρ sd dN=> ?_⟩;refine calls_of_wp hf hb ?_
 have xF:∀k∈pk,ay bs k:=fun k hk=>by
  have:=List.all_eq_true.1 jl k hk;have:k∈bs.map (·.1):=List.contains_iff_mem.1 this;exact this
 let Γ:Ctx:=⟨fQ w (aT ρ bs),[],w,pk.map fun k=>(k,(ρ k).1)⟩
 have r :Rel Γ (pc as bs fn.ntmps) {tmps:=vs++Array.replicate (fn.ntmps - vs.size) Go.undef,defers:=[]} w:=by
  refine⟨fQ w (aT ρ bs),ρ,⟨sd,⟨by simp[pc,dN.1],fun j c hj=> ?_⟩,rfl,Ext.refl _,(fun p hp=>by cases hp),fun p hp=> ?_⟩⟩
  · simp only[pc] at hj;rcases Nat.lt_or_ge j as.length with aQ | k_
    · rw[List.getElem?_append_left aQ] at hj;have:=dN.2 j c hj;rw[Array.getD_eq_getD_getElem?,Array.getElem?_append_left (by rw[dN.1]; exact aQ),←Array.getD_eq_getD_getElem?];exact this
    · rw[List.getElem?_append_right k_,List.getElem?_replicate] at hj
      split at hj
      · cases hj; trivial
      · cases hj
  · obtain⟨k,hk,rfl⟩:=List.mem_map.1 hp;exact⟨xF k hk,rfl⟩
 refine z_ hT rfl (pk:=pk) (fun p hp=>by obtain⟨k,hk,rfl⟩:=List.mem_map.1 hp; exact hk) c eZ (h (Ad dN.2) (DO fun k B hk=>sd.ah k B hk)) r fun e az a' w' h' r'=> ?_
 have done:Ap tab fn.results.toList X φ s kp az→∃v,(results fn a'.tmps).run P w' = .ok v w'∧∃v' r cm H' ρ',Ending.returned v = .returned v'∧(∃x,φ x∧r=s x∧cm=jR (kp x))∧gw w'.heap (fQ w (aT ρ bs)) H' ρ' cm∧
    RV fX ρ' (ay cm) r v'∧Ext w w'∧∀k,ay cm k→ay bs k→(ρ' k).1=(ρ k).1:=fun hf=>by
  obtain⟨x,hx,hf⟩:=hf;obtain⟨H,ρ1,r'⟩:=r';obtain⟨v,h1,H',ρ',h2,h3,h4⟩:=Qe hT r' rfl (fn:=fn) hf;refine⟨v,h1,v,_,_,H',ρ',rfl,⟨x,hx,rfl,rfl⟩,h2,h3,r'.n,fun k hk qi=> ?_⟩
  have cA :∃q∈kp x,q.1=k:=by
    have bL:k∈(jR (kp x)).map (·.1):=hk
    have key:∀(l:List (Nat × dQ)),k∈(jR l).map (·.1)→∃q∈l,q.1=k:=by
      intro l
      induction l with
      | nil=>intro h; cases h
      | cons q l ih=>
        intro h;simp only[jR,List.map_cons,List.mem_cons] at h;rcases h with h | h
        · exact⟨q,List.mem_cons_self,h.symm⟩
        · obtain⟨q',h1,h2⟩:=ih h;exact⟨q',List.mem_cons_of_mem _ h1,h2⟩
    exact key _ bL
  obtain⟨q,hq,rfl⟩:=cA
  have Qg:q.1<100:=by
    obtain⟨B,hB⟩:=PT qi;have:=List.all_eq_true.1 aQ q.1 (List.mem_map.2 ⟨_,hB,rfl⟩);simpa using this
  have hq:=Qd hq Qg;have xG:q.1∈pk:=by rw[←iu x]; exact List.mem_map.2 ⟨q,hq,rfl⟩
  have se:=r'.hm (q.1,(ρ q.1).1) (List.mem_map.2 ⟨q.1,xG,rfl⟩);rw[h4 q hq se.1];exact se.2
 have nL:a'.defers = []:=by obtain⟨H,ρ,r'⟩:=r'; exact r'.d
 cases e with
 | normal=>obtain⟨v,h1,h2⟩:=done h'; exact⟨nL,v,h1,h2⟩
 | ret=>obtain⟨v,h1,h2⟩:=done h'; exact⟨nL,v,h1,h2⟩
 | exit id=>cases h'
 | goto l=>cases h'
 | panic ch=>cases h'
 | outgrown=>cases h'
def Aq (v0:V) (kp:List (Nat × dQ)) (r:V) (b:List (Nat × an)):Prop:=r=v0∧b=jR kp
theorem Jq {P : Program} {tab : bh} (hT : fy P tab = true) {f : FuncId} {fn : Func} {c : Code} (hf : P.funcs[f]? = some fn) (hb : fn.body = some c) (fB : (fn.name == "runtime.NumGoroutine") = false) {fr : Bool} (eZ : fr = true → gF c = true)
  {as:List V} {bs:List (Nat × an)} {v0:V} {kp:List (Nat × dQ)} (jl:((kA kp).map (·.1)).all (fun k=>(bs.map (·.1)).contains k)=true) (aQ:(bs.map (·.1)).all (fun k=>decide (k<100))=true)
  (h:∀P',P'=P→ky as→lK bs→pd P' tab fr fn c as bs ((kA kp).map (·.1)) (xL tab fn.results.toList v0 kp)):bJ P f as bs (Aq v0 kp):=by
 have h1:ky as→lK bs→pd P tab fr fn c as bs ((kA kp).map (·.1)) (Ap tab fn.results.toList Unit (fun _=>True) (fun _=>v0) (fun _=>kp)):=by
  intro hA hB;have h0:=h P rfl hA hB
  have e:Ap tab fn.results.toList Unit (fun _=>True) (fun _=>v0) (fun _=>kp)=xL tab fn.results.toList v0 kp:=by
   funext σ
   exact propext ⟨fun⟨_,_,h⟩=>h,fun h=>⟨(),trivial,h⟩⟩
  rw[e]; exact h0
 have h2:=Qf hT hf hb fB eZ (X:=Unit) (φ:=fun _=>True) (s:=fun _=>v0) (kp:=fun _=>kp) (pk:=(kA kp).map (·.1)) (fun _=>rfl) jl aQ h1;refine⟨h2.1,fun w vs ρ g1 g2=>(h2.2 w vs ρ g1 g2).mono fun e w' he=> ?_⟩;obtain⟨v,r,cm,H',ρ',q1,⟨_,_,q2,q3⟩,q4⟩:=he;exact⟨v,r,cm,H',ρ',q1,⟨q2,q3⟩,q4⟩
theorem aD.vE {P P0:Program} {f:FuncId} {as:List V} {bs:List (Nat × an)} {K:V→List (Nat × an)→Prop} {v0:V} {kp:List (Nat × dQ)} (hP:P=P0) (h:bJ P0 f as bs (Aq v0 kp)) (hk:K v0 (jR kp)):aD P f as bs K:=by
 subst hP;exact⟨_,h,fun r b ⟨h1,h2⟩=>by rw[h1,h2]; exact hk⟩
end Go.Proofs.YtpklefhdkkegiaaGreat

