/- Parts of a proof. No conditions. -/

import Derived.Test.YtpklefhdkkegiaaGreatG04
set_option linter.unusedSimpArgs false
set_option linter.unusedVariables false
namespace Go.Proofs.YtpklefhdkkegiaaGreat
open Go
def iW:List (Nat × dw)→List (Nat × dw)
 | []=>[]
 | p::r=>match Nat.blt p.1 100 with | true=>p::iW r | false=>iW r
def oA (kp:List (Nat × dw)):List Nat→List Nat
 | []=>[]
 | k::ks=>if(kp.map (·.1)).contains k then oA kp ks else k::oA kp ks
theorem L7 {kp:List (Nat × dw)} {p:Nat × dw} (h:p∈kp) (hl:p.1<100):p∈iW kp:=by
 induction kp with
 | nil=>cases h
 | cons q kp ih=>
   simp only[iW];rcases List.mem_cons.1 h with rfl | h
   · rw[show Nat.blt p.1 100=true by simpa [Nat.blt_eq] using hl]; exact List.mem_cons_self
   · split
     · exact List.mem_cons_of_mem _ (ih h)
     · exact ih h
def uZ (tab :aX) (rs:List ResultVar) (v0:V) (kp:List (Nat × dw)) (σ:SS):Prop:=
 match rS tab σ rs with
 | some r0 =>
   match pO (.c .any) r0 9000000 with
   | (r', l)=>
     match la l (closeAll (σ.af.map (·.1)) σ.af) with
     | some bs=>
       match mR bs (gJ (gI (iW kp)) (gl (oA kp (dZ r')) 100)) (gJ (gI (iW kp)) (gl (oA kp (dZ r')) 100)) with
       | some out=>
         if dL ((gJ (gI (iW kp)) (gl (oA kp (dZ r')) 100)).map (·.1))=true∧dL ((gJ (gI (iW kp)) (gl (oA kp (dZ r')) 100)).map (·.2))=true∧(r'.pV (gJ (gI (iW kp)) (gl (oA kp (dZ r')) 100))).cl=true then
          l8 out (iz kp) (mV (r'.pV (gJ (gI (iW kp)) (gl (oA kp (dZ r')) 100))) (v0) True)
         else False
       | none=>False
     | none=>False
 | none=>False
section
variable {P : Program} {tab : aX} (hT : eC P tab = true) {Γ : Ctx} {H : Hp} {ρ : aF} {σ : SS} {a : Act} {w : World} (r : aG Γ H ρ σ a w)
include hT r
theorem L8 (bC:Γ.hd = []) {fn:Func} {v0:V} {kp:List (Nat × dw)} (h:uZ tab fn.results.toList v0 kp σ) :
   ∃ v,(results fn a.tmps).run P w = .ok v w∧∃H' ρ',fl w.heap Γ.H0 H' ρ' (iz kp)∧RV eP ρ' (av (iz kp)) (v0) v∧∀p∈iW kp,av σ.af p.1→(ρ' p.1).1=(ρ p.1).1:=by
 unfold uZ at h
 split at h
 · rename_i rv qI;obtain⟨v,hv,pQ⟩:=wz hT r qI;cases hm:pO (.c .any) rv 9000000 with
   | mk uP l=>
   rw[hm] at h;simp only at h
   split at h
   · rename_i bs oy
     split at h
     · rename_i out uQ
       split at h
       · rename_i hc;obtain⟨jM,uR,eJ⟩:=hc;obtain⟨ρ1,r1,f1,f2⟩:=r.closeAll bC (ks:=σ.af.map (·.1));obtain⟨ρ2,r2,f3,f4⟩:=aG.la (σ:={σ with af:=Go.Proofs.YtpklefhdkkegiaaGreat.closeAll (σ.af.map (·.1)) σ.af}) r1 oy
         have hg:∀k,av σ.af k→av bs k∧(ρ2 k).1=(ρ k).1:=fun k hk=>by
           obtain⟨q1,q2⟩:=f3 k (by show av (Go.Proofs.YtpklefhdkkegiaaGreat.closeAll (σ.af.map (·.1)) σ.af) k; rw[f2]; exact hk);exact⟨q1,by rw[q2,f1]⟩
         have gq:=AH hg hm f4 hv;obtain⟨rb,uS,fH⟩:=fl.mJ uQ jM uR r2.b;have uT:=RV.pV uS gq;obtain⟨uU,mO,gb⟩:=oz h;obtain⟨_,uV⟩:=xt uU;have jz:av (iz kp)=av out:=by funext k; simp only[av,mO]
         refine⟨v,pQ,H,_,rb.as mO gb, ?_,fun p hp=> ?_⟩
         · rw[jz];exact uV (uT.cl eJ)
         · have cM:=AI (l:=gl (oA kp (dZ uP)) 100) p hp;obtain⟨q1,q2⟩:=fH _ _ cM;intro hd;show(ρ2 (inv _ p.1)).1=_;rw[q2,(hg _ hd).2]
       · cases h
     · cases h
   · cases h
 · cases h
end
def xz (tab:aX) (rs:List ResultVar) (X:Type) (φ:X→Prop) (s:X→V) (kp:X→List (Nat × dw)) (σ:SS):Prop:=∃x:X,φ x∧uZ tab rs (s x) (kp x) σ
theorem L9 {P : Program} {tab : aX} (hT : eC P tab = true) {f : FuncId} {fn : Func} {c : Code} (hf : P.funcs[f]? = some fn) (hb : fn.body = some c) (eM : (fn.name == "runtime.NumGoroutine") = false) {fr : Bool} (d_ : fr = true → fG c = true)
  {as:List V} {bs:List (Nat × ak)} {X:Type} {φ:X→Prop} {s:X→V} {kp:X→List (Nat × dw)} {pk:List Nat} (fP:∀x,(iW (kp x)).map (·.1)=pk) (ix:pk.all (fun k=>(bs.map (·.1)).contains k)=true)
  (aR:(bs.map (·.1)).all (fun k=>decide (k<100))=true)
  (h:jK as→lg bs→pR P tab fr fn c as bs pk (xz tab fn.results.toList X φ s kp)):bY P f as bs fun r b=>∃x,φ x∧r=s x∧b=iz (kp x):=by
 refine⟨⟨fn,hf,eM,by rw[hb]; rfl⟩,fun w vs ρ pS du=> ?_⟩;refine calls_of_wp hf hb ?_
 have uW:∀k∈pk,av bs k:=fun k hk=>by
  have:=List.all_eq_true.1 ix k hk;have:k∈bs.map (·.1):=List.contains_iff_mem.1 this;exact this
 let Γ:Ctx:=⟨eI w (aP ρ bs),[],w,pk.map fun k=>(k,(ρ k).1)⟩
 have r :Rel Γ (m0 as bs fn.ntmps) {tmps:=vs++Array.replicate (fn.ntmps - vs.size) Go.undef,defers:=[]} w:=by
  refine⟨eI w (aP ρ bs),ρ,⟨pS,⟨by simp[m0,du.1],fun j c hj=> ?_⟩,rfl,Ext.refl _,(fun p hp=>by cases hp),fun p hp=> ?_⟩⟩
  · simp only[m0] at hj;rcases Nat.lt_or_ge j as.length with aR | ku
    · rw[List.getElem?_append_left aR] at hj;have:=du.2 j c hj;rw[Array.getD_eq_getD_getElem?,Array.getElem?_append_left (by rw[du.1]; exact aR),←Array.getD_eq_getD_getElem?];exact this
    · rw[List.getElem?_append_right ku,List.getElem?_replicate] at hj
      split at hj
      · cases hj; trivial
      · cases hj
  · obtain⟨k,hk,rfl⟩:=List.mem_map.1 hp;exact⟨uW k hk,rfl⟩
 refine xj hT rfl (pk:=pk) (fun p hp=>by obtain⟨k,hk,rfl⟩:=List.mem_map.1 hp; exact hk) c d_ (h (xn du.2) (AJ fun k B hk=>pS.af k B hk)) r fun e aw a' w' h' r'=> ?_
 have done:xz tab fn.results.toList X φ s kp aw→∃v,(results fn a'.tmps).run P w' = .ok v w'∧∃v' r bX H' ρ',Ending.returned v = .returned v'∧(∃x,φ x∧r=s x∧bX=iz (kp x))∧fl w'.heap (eI w (aP ρ bs)) H' ρ' bX∧
    RV eP ρ' (av bX) r v'∧Ext w w'∧∀k,av bX k→av bs k→(ρ' k).1=(ρ k).1:=fun hf=>by
  obtain⟨x,hx,hf⟩:=hf;obtain⟨H,ρ1,r'⟩:=r';obtain⟨v,h1,H',ρ',h2,h3,h4⟩:=L8 hT r' rfl (fn:=fn) hf;refine⟨v,h1,v,_,_,H',ρ',rfl,⟨x,hx,rfl,rfl⟩,h2,h3,r'.n,fun k hk nW=> ?_⟩
  have cM :∃q∈kp x,q.1=k:=by
    have bw:k∈(iz (kp x)).map (·.1):=hk
    have key:∀(l:List (Nat × dw)),k∈(iz l).map (·.1)→∃q∈l,q.1=k:=by
      intro l
      induction l with
      | nil=>intro h; cases h
      | cons q l ih=>
        intro h;simp only[iz,List.map_cons,List.mem_cons] at h;rcases h with h | h
        · exact⟨q,List.mem_cons_self,h.symm⟩
        · obtain⟨q',h1,h2⟩:=ih h;exact⟨q',List.mem_cons_of_mem _ h1,h2⟩
    exact key _ bw
  obtain⟨q,hq,rfl⟩:=cM
  have L_:q.1<100:=by
    obtain⟨B,hB⟩:=LI nW;have:=List.all_eq_true.1 aR q.1 (List.mem_map.2 ⟨_,hB,rfl⟩);simpa using this
  have hq:=L7 hq L_;have uX:q.1∈pk:=by rw[←fP x]; exact List.mem_map.2 ⟨q,hq,rfl⟩
  have pT:=r'.hm (q.1,(ρ q.1).1) (List.mem_map.2 ⟨q.1,uX,rfl⟩);rw[h4 q hq pT.1];exact pT.2
 have l7:a'.defers = []:=by obtain⟨H,ρ,r'⟩:=r'; exact r'.d
 cases e with
 | normal=>obtain⟨v,h1,h2⟩:=done h'; exact⟨l7,v,h1,h2⟩
 | ret=>obtain⟨v,h1,h2⟩:=done h'; exact⟨l7,v,h1,h2⟩
 | exit id=>cases h'
 | goto l=>cases h'
 | panic ch=>cases h'
 | outgrown=>cases h'
def AV (v0:V) (kp:List (Nat × dw)) (r:V) (b:List (Nat × ak)):Prop:=r=v0∧b=iz kp
theorem Ma {P : Program} {tab : aX} (hT : eC P tab = true) {f : FuncId} {fn : Func} {c : Code} (hf : P.funcs[f]? = some fn) (hb : fn.body = some c) (eM : (fn.name == "runtime.NumGoroutine") = false) {fr : Bool} (d_ : fr = true → fG c = true)
  {as:List V} {bs:List (Nat × ak)} {v0:V} {kp:List (Nat × dw)} (ix:((iW kp).map (·.1)).all (fun k=>(bs.map (·.1)).contains k)=true) (aR:(bs.map (·.1)).all (fun k=>decide (k<100))=true)
  (h:∀P',P'=P→jK as→lg bs→pR P' tab fr fn c as bs ((iW kp).map (·.1)) (uZ tab fn.results.toList v0 kp)):bY P f as bs (AV v0 kp):=by
 have h1:jK as→lg bs→pR P tab fr fn c as bs ((iW kp).map (·.1)) (xz tab fn.results.toList Unit (fun _=>True) (fun _=>v0) (fun _=>kp)):=by
  intro hA hB;have h0:=h P rfl hA hB
  have e:xz tab fn.results.toList Unit (fun _=>True) (fun _=>v0) (fun _=>kp)=uZ tab fn.results.toList v0 kp:=by
   funext σ
   exact propext ⟨fun⟨_,_,h⟩=>h,fun h=>⟨(),trivial,h⟩⟩
  rw[e]; exact h0
 have h2:=L9 hT hf hb eM d_ (X:=Unit) (φ:=fun _=>True) (s:=fun _=>v0) (kp:=fun _=>kp) (pk:=(iW kp).map (·.1)) (fun _=>rfl) ix aR h1;refine⟨h2.1,fun w vs ρ g1 g2=>(h2.2 w vs ρ g1 g2).mono fun e w' he=> ?_⟩;obtain⟨v,r,bX,H',ρ',q1,⟨_,_,q2,q3⟩,q4⟩:=he;exact⟨v,r,bX,H',ρ',q1,⟨q2,q3⟩,q4⟩
theorem aJ.Mb {P P0:Program} {f:FuncId} {as:List V} {bs:List (Nat × ak)} {K:V→List (Nat × ak)→Prop} {v0:V} {kp:List (Nat × dw)} (hP:P=P0) (h:bY P0 f as bs (AV v0 kp)) (hk:K v0 (iz kp)):aJ P f as bs K:=by
 subst hP;exact⟨_,h,fun r b ⟨h1,h2⟩=>by rw[h1,h2]; exact hk⟩
end Go.Proofs.YtpklefhdkkegiaaGreat

