/- Parts of a proof. No conditions. -/

import Derived.Test.YtpklefhdkkegiaaGreatG08
set_option linter.unusedSimpArgs false
set_option linter.unusedVariables false
namespace Go.Proofs.YtpklefhdkkegiaaGreat
open Go
set_option maxRecDepth 100000
def ie {α:Type} (p:α→Bool) (l:List α):Int:=match l.findIdx? p with | some i=>(i:Int) | none=> -1
section
variable {α : Type} {p : α → Bool} {l : List α}
theorem nh {i:Nat} (hi:i<l.length) (h:p l[i]=true) (hn:∀(j:Nat) x,j<i→l[j]? = some x→p x=false):ie p l=(i:Int):=by
 have:l.findIdx? p=some i:=by
  rw[List.findIdx?_eq_some_iff_getElem];refine⟨hi,h,fun j hj=> ?_⟩;rw[hn j _ hj (List.getElem?_eq_getElem (by omega))]; simp
 simp[ie,this]
theorem ni (hn:∀(j:Nat) x,l[j]? = some x→p x=false):ie p l = -1:=by
 have:l.findIdx? p=none:=by
  rw[List.findIdx?_eq_none_iff];intro x hx;obtain⟨j,hj⟩:=List.mem_iff_getElem?.1 hx;exact hn j x hj
 simp[ie,this]
theorem iC (p:α→Bool) (l:List α):(ie p l = -1∧∀x∈l,p x=false)∨∃i,∃h:i<l.length,ie p l=(i:Int)∧p l[i]=true∧∀(j:Nat) x,j<i→l[j]? = some x→p x=false:=by
 cases h:l.findIdx? p with
 | none=>exact .inl ⟨by simp[ie,h],List.findIdx?_eq_none_iff.1 h⟩
 | some i=>
   obtain⟨h1,h2,h3⟩:=List.findIdx?_eq_some_iff_getElem.1 h;refine .inr ⟨i,h1,by simp[ie,h],h2,fun j x hj hx=> ?_⟩;have aQ:=bC hx;rw[List.getElem?_eq_getElem aQ] at hx;cases hx;have:=h3 j hj;simpa using this
theorem gN {q:α→Prop} {i:Nat} (hi:i<l.length) (hn:∀(j:Nat) x,j<i→l[j]? = some x→q x) (h:q l[i]):∀(j:Nat) x,j<i+1→l[j]? = some x→q x:=by
 intro j x hj hx;rcases Nat.lt_or_ge j i with h1 | h1
 · exact hn j x h1 hx
 · obtain rfl:j=i:=by omega
   rw[List.getElem?_eq_getElem hi] at hx;cases hx; exact h
theorem mn {q:α→Prop} {i:Nat} (hi:l.length≤i) (hn:∀(j:Nat) x,j<i→l[j]? = some x→q x):∀(j:Nat) x,l[j]? = some x→q x:=
 fun j x hx=>hn j x (Nat.lt_of_lt_of_le (bC hx) hi) hx
end
theorem Eh {α:Type} (p:α→Bool) (l:List α): -1≤ie p l∧ie p l<l.length:=by
 rcases iC p l with⟨h,_⟩ | ⟨i,hi,h,_⟩ <;> rw[h] <;> omega
def cU (l:List Entry) (id:Int):Int:=ie (fun e=>e.aZ == id) l
def br (l:List ax) (id:Int):Int:=ie (fun e=>e.id == id) l
theorem Ei (a:List Entry) (id:Int) (x:Int) (hx:x=cU a id):Spec Tryz.prog 209 [lA .aJ a,iA id] (aG (iR fun _=>x)):=by
 refine aF au Tryz.func209 rfl rfl (fr:=true) (fun _=>by kernel_rfl) fun P hP hA=> ?_;obtain⟨⟨ha,_⟩,_⟩:=hA;have ha:a.length≤9223372036854775807:=ha;cbv;refine aR.by (X:=Nat) (fun i=>[(0,lA .aJ a),(1,iA id),(5,nT fun _=>i)]) (fun _=>[]) (fun i=>i≤a.length∧∀(j:Nat) y,j<i→a[j]? = some y→(y.aZ == id)=false) (fun i _=>a.length - i) 0 ⟨Nat.zero_le _,fun j y hj=>by omega⟩ ?_ ?_
 · cbv
   repeat' first | exact trivial | refine⟨rfl, ?_⟩ | fail
 · intro i ⟨hi,hn⟩;cbv;refine Br.dec (fun h2=> ?_) (fun h2=> ?_) <;> cbv
   · have h2:i<a.length:=by simpa using h2
     refine⟨a[i],by simp,get_cast a h2, ?_⟩;cbv;refine Br.split (fun h3=> ?_) (fun h3=> ?_) <;> cbv
     · refine⟨?_,trivial⟩;exact(hx.trans (nh h2 h3 hn)).symm
     · refine Ar.exact (by(try simp only[nc] at *); omega) (by(try simp only[nc] at *); omega) ?_;cbv;refine aL.by (i+1) ?_ ?_ ?_
       · show a.length - (i+1)<a.length - i;omega
       · exact⟨h2,gN h2 hn h3⟩
       · cbv
         repeat' first | exact trivial | refine⟨rfl, ?_⟩ | fail
   · have h2:a.length≤i:=by simp at h2; omega
     refine⟨?_,trivial⟩;exact(hx.trans (ni (mn h2 hn))).symm
theorem AE (a:List ax) (id:Int) (x:Int) (hx:x=br a id):Spec Tryz.prog 171 [lA .aE a,iA id] (aG (iR fun _=>x)):=by
 refine aF au Tryz.func171 rfl rfl (fr:=true) (fun _=>by kernel_rfl) fun P hP hA=> ?_;obtain⟨⟨ha,_⟩,_⟩:=hA;have ha:a.length≤9223372036854775807:=ha;cbv;refine aR.by (X:=Nat) (fun i=>[(0,lA .aE a),(1,iA id),(5,nT fun _=>i)]) (fun _=>[]) (fun i=>i≤a.length∧∀(j:Nat) y,j<i→a[j]? = some y→(y.id == id)=false) (fun i _=>a.length - i) 0 ⟨Nat.zero_le _,fun j y hj=>by omega⟩ ?_ ?_
 · cbv
   repeat' first | exact trivial | refine⟨rfl, ?_⟩ | fail
 · intro i ⟨hi,hn⟩;cbv;refine Br.dec (fun h2=> ?_) (fun h2=> ?_) <;> cbv
   · have h2:i<a.length:=by simpa using h2
     refine⟨a[i],by simp,get_cast a h2, ?_⟩;cbv;refine Br.split (fun h3=> ?_) (fun h3=> ?_) <;> cbv
     · refine⟨?_,trivial⟩;exact(hx.trans (nh h2 h3 hn)).symm
     · refine Ar.exact (by(try simp only[nc] at *); omega) (by(try simp only[nc] at *); omega) ?_;cbv;refine aL.by (i+1) ?_ ?_ ?_
       · show a.length - (i+1)<a.length - i;omega
       · exact⟨h2,gN h2 hn h3⟩
       · cbv
         repeat' first | exact trivial | refine⟨rfl, ?_⟩ | fail
   · have h2:a.length≤i:=by simp at h2; omega
     refine⟨?_,trivial⟩;exact(hx.trans (ni (mn h2 hn))).symm
theorem QW (e:Entry) (id:Int):Spec Tryz.prog 247 [eA .aJ e, .c (.cg [.int .i64 fun _=>id] 0)] (aG (bR fun _=>e.aZ == id)):=by
 refine aF au Tryz.func247 rfl rfl (fr:=true) (fun _=>by kernel_rfl) fun P hP hA=> ?_;cbv
 repeat' first | exact trivial | refine⟨rfl, ?_⟩ | fail
theorem QX (e:ax) (id:Int):Spec Tryz.prog 210 [eA .aE e, .c (.cg [.int .i64 fun _=>id] 0)] (aG (bR fun _=>e.id == id)):=by
 refine aF au Tryz.func210 rfl rfl (fr:=true) (fun _=>by kernel_rfl) fun P hP hA=> ?_;cbv
 repeat' first | exact trivial | refine⟨rfl, ?_⟩ | fail
theorem QY (a:List Entry) (id:Int) (x:Int) (hx:x=cU a id):Spec Tryz.prog 138 [lA .aJ a, .c (.fn 247 [.cg [.int .i64 fun _=>id] 0])] (aG (iR fun _=>x)):=by
 refine aF au Tryz.func138 rfl rfl (fr:=true) (fun _=>by kernel_rfl) fun P hP hA=> ?_;obtain⟨⟨ha,_⟩,_⟩:=hA;have ha:a.length≤9223372036854775807:=ha;cbv;refine aR.by (X:=Nat) (fun i=>[(0,lA .aJ a),(1, .c (.fn 247 [.cg [.int .i64 fun _=>id] 0])),(7,nT fun _=>a.length),(8,nT fun _=>i)]) (fun _=>[]) (fun i=>i≤a.length∧∀(j:Nat) y,j<i→a[j]? = some y→(y.aZ == id)=false) (fun i _=>a.length - i) 0 ⟨Nat.zero_le _,fun j y hj=>by omega⟩ ?_ ?_
 · cbv
   repeat' first | exact trivial | refine⟨rfl, ?_⟩ | fail
 · intro i ⟨hi,hn⟩;cbv;refine Br.dec (fun h2=> ?_) (fun h2=> ?_) <;> cbv
   · have h2:i<a.length:=by simpa using h2
     refine⟨a[i],by simp,get_cast a h2, ?_⟩;cbv;refine af.by hP (QW a[i] id) ?_;cbv;refine Br.split (fun h3=> ?_) (fun h3=> ?_) <;> cbv
     · refine⟨?_,trivial⟩;exact(hx.trans (nh h2 h3 hn)).symm
     · refine Ar.exact (by(try simp only[nc] at *); omega) (by(try simp only[nc] at *); omega) ?_;cbv;refine aL.by (i+1) ?_ ?_ ?_
       · show a.length - (i+1)<a.length - i;omega
       · exact⟨h2,gN h2 hn h3⟩
       · cbv
         repeat' first | exact trivial | refine⟨rfl, ?_⟩ | fail
   · have h2:a.length≤i:=by simp at h2; omega
     refine⟨?_,trivial⟩;exact(hx.trans (ni (mn h2 hn))).symm
theorem QZ (a:List ax) (id:Int) (x:Int) (hx:x=br a id):Spec Tryz.prog 195 [lA .aE a, .c (.fn 210 [.cg [.int .i64 fun _=>id] 0])] (aG (iR fun _=>x)):=by
 refine aF au Tryz.func195 rfl rfl (fr:=true) (fun _=>by kernel_rfl) fun P hP hA=> ?_;obtain⟨⟨ha,_⟩,_⟩:=hA;have ha:a.length≤9223372036854775807:=ha;cbv;refine aR.by (X:=Nat) (fun i=>[(0,lA .aE a),(1, .c (.fn 210 [.cg [.int .i64 fun _=>id] 0])),(7,nT fun _=>a.length),(8,nT fun _=>i)]) (fun _=>[]) (fun i=>i≤a.length∧∀(j:Nat) y,j<i→a[j]? = some y→(y.id == id)=false) (fun i _=>a.length - i) 0 ⟨Nat.zero_le _,fun j y hj=>by omega⟩ ?_ ?_
 · cbv
   repeat' first | exact trivial | refine⟨rfl, ?_⟩ | fail
 · intro i ⟨hi,hn⟩;cbv;refine Br.dec (fun h2=> ?_) (fun h2=> ?_) <;> cbv
   · have h2:i<a.length:=by simpa using h2
     refine⟨a[i],by simp,get_cast a h2, ?_⟩;cbv;refine af.by hP (QX a[i] id) ?_;cbv;refine Br.split (fun h3=> ?_) (fun h3=> ?_) <;> cbv
     · refine⟨?_,trivial⟩;exact(hx.trans (nh h2 h3 hn)).symm
     · refine Ar.exact (by(try simp only[nc] at *); omega) (by(try simp only[nc] at *); omega) ?_;cbv;refine aL.by (i+1) ?_ ?_ ?_
       · show a.length - (i+1)<a.length - i;omega
       · exact⟨h2,gN h2 hn h3⟩
       · cbv
         repeat' first | exact trivial | refine⟨rfl, ?_⟩ | fail
   · have h2:a.length≤i:=by simp at h2; omega
     refine⟨?_,trivial⟩;exact(hx.trans (ni (mn h2 hn))).symm
theorem Ej (a:List Entry) (id:Int) (x:Int) (hx:x=cU a id):Spec Tryz.prog 193 [lA .aJ a,iA id] (aG (iR fun _=>x)):=by
 refine aF au Tryz.func193 rfl rfl (fr:=true) (fun _=>by kernel_rfl) fun P hP hA=> ?_;cbv;refine af.by hP (QY a id x hx) ?_;cbv
 repeat' first | exact trivial | refine⟨rfl, ?_⟩ | fail
theorem Ek (a:List ax) (id:Int) (x:Int) (hx:x=br a id):Spec Tryz.prog 149 [lA .aE a,iA id] (aG (iR fun _=>x)):=by
 refine aF au Tryz.func149 rfl rfl (fr:=true) (fun _=>by kernel_rfl) fun P hP hA=> ?_;cbv;refine af.by hP (QZ a id x hx) ?_;cbv
 repeat' first | exact trivial | refine⟨rfl, ?_⟩ | fail
theorem nV (h:ai) (id:Int) (x:Int) (hx:x=br h.ae id):Spec Tryz.prog 80 [cG h,iA id] (aG (iR fun _=>x)):=by
 refine aF au Tryz.func80 rfl rfl (fr:=true) (fun _=>by kernel_rfl) fun P hP hA=> ?_;cbv;refine af.by hP (Ek h.ae id x hx) ?_;cbv
 repeat' first | exact trivial | refine⟨rfl, ?_⟩ | fail
theorem sw (h:ai) (id:Int) (x:Int) (hx:x=br h.ae id):Spec Tryz.prog 96 [cG h,iA id] (aG (iR fun _=>x)):=by
 refine aF au Tryz.func96 rfl rfl (fr:=true) (fun _=>by kernel_rfl) fun P hP hA=> ?_;cbv;refine af.by hP (AE h.ae id x hx) ?_;cbv
 repeat' first | exact trivial | refine⟨rfl, ?_⟩ | fail
def gm (e:Entry):Bool:=ak e.lvl 0 4 && (ak e.aA 1 1000000 && (ak e.aZ 1 999 && ak e.aj 1 6))
structure gO (l:List Entry):Prop where
 ok:∀e∈l,gm e=true
 lt:l.Pairwise fun a b=>bd a b=true
 ne:l.Pairwise fun a b=>a.aZ≠b.aZ
instance (l:List Entry):Decidable (gO l):=
 decidable_of_iff ((∀e∈l,gm e=true)∧(l.Pairwise fun a b=>bd a b=true)∧l.Pairwise fun a b=>a.aZ≠b.aZ) ⟨fun⟨a,b,c⟩=>⟨a,b,c⟩,fun⟨a,b,c⟩=>⟨a,b,c⟩⟩
def dJ (l:List Entry):Bool:=decide (l.length≤10) && decide (gO l)
theorem gO.nil:gO []:=⟨fun e he=>(by cases he),List.Pairwise.nil,List.Pairwise.nil⟩
theorem gO.snoc {l:List Entry} {i:Nat} (hi:i<l.length) (h:gO (l.take i)) (ok:gm l[i]=true) (lt:0<i→bd (l[i - 1]'(by omega)) l[i]=true) (ne:∀(j:Nat) x,j<i→l[j]? = some x→(x.aZ == l[i].aZ)=false):gO (l.take (i+1)):=by
 have e:l.take (i+1)=l.take i ++ [l[i]]:=by rw[List.take_add_one,List.getElem?_eq_getElem hi]; rfl
 have get:∀x∈l.take i,∃j,j<i∧l[j]? = some x:=fun x hx=>by
   obtain⟨j,hj⟩:=List.mem_iff_getElem?.1 hx;rw[List.getElem?_take] at hj
   split at hj
   · exact⟨j,by assumption,hj⟩
   · cases hj
 refine⟨fun x hx=> ?_, ?_, ?_⟩
 · rw[e,List.mem_append] at hx;rcases hx with hx | hx
   · exact h.ok x hx
   · cases List.mem_singleton.1 hx; exact ok
 · rw [e,List.pairwise_append];refine⟨h.lt,List.pairwise_singleton _ _,fun a ha b hb=> ?_⟩;cases List.mem_singleton.1 hb;obtain⟨j,hj,hx⟩:=get a ha;have hl:=lt (by omega);rcases Nat.lt_or_ge j (i - 1) with h1 | h1
   · have h2:=(List.pairwise_iff_getElem.1 h.lt) j (i - 1) (by rw[List.length_take]; omega) (by rw[List.length_take]; omega) h1;simp only[List.getElem_take] at h2;rw[List.getElem?_eq_getElem (by omega)] at hx;cases hx;exact oJ.tr _ _ _ h2 hl
   · obtain rfl:j=i - 1:=by omega
     rw[List.getElem?_eq_getElem (by omega)] at hx;cases hx; exact hl
 · rw[e,List.pairwise_append];refine⟨h.ne,List.pairwise_singleton _ _,fun a ha b hb=> ?_⟩;cases List.mem_singleton.1 hb;obtain⟨j,hj,hx⟩:=get a ha;have:=ne j a hj hx;simpa using this
theorem gO.at_ {l:List Entry} (h:gO l) {i:Nat} (hi:i<l.length):gm l[i]=true∧(0<i→bd (l[i - 1]'(by omega)) l[i]=true)∧∀(j:Nat) x,j<i→l[j]? = some x→(x.aZ == l[i].aZ)=false:=by
 refine⟨h.ok _ (List.getElem_mem hi),fun h0=> ?_,fun j x hj hx=> ?_⟩
 · exact(List.pairwise_iff_getElem.1 h.lt) (i - 1) i (by omega) hi (by omega)
 · have:=(List.pairwise_iff_getElem.1 h.ne) j i (by omega) hi hj;rw[List.getElem?_eq_getElem (by omega)] at hx;cases hx;simpa using this
theorem AF {l:List Entry} {i:Nat} (hi:i<l.length):(cU l l[i].aZ=(i:Int))↔∀(j:Nat) x,j<i→l[j]? = some x→(x.aZ == l[i].aZ)=false:=by
 constructor
 · intro h j x hj hx;rcases iC (fun e:Entry=>e.aZ == l[i].aZ) l with⟨h1,_⟩ | ⟨k,hk,h1,h2,h3⟩
   · have:cU l l[i].aZ = -1:=h1;omega
   · have:cU l l[i].aZ=(k:Int):=h1;exact h3 j x (by omega) hx
 · exact fun h=>nh hi (by simp) h
theorem AG {l:List Entry} {i:Nat} (hi:i<l.length):(cU (l.take i) l[i].aZ<0)↔∀(j:Nat) x,j<i→l[j]? = some x→(x.aZ == l[i].aZ)=false:=by
 constructor
 · intro h j x hj hx;rcases iC (fun e:Entry=>e.aZ == l[i].aZ) (l.take i) with⟨_,h1⟩ | ⟨k,hk,h1,_⟩
   · exact h1 x (List.mem_iff_getElem?.2 ⟨j,by rw[List.getElem?_take,if_pos hj]; exact hx⟩)
   · have:cU (l.take i) l[i].aZ=(k:Int):=h1;omega
 · intro h
   have:cU (l.take i) l[i].aZ = -1:=ni fun j x hx=>by
     rw[List.getElem?_take] at hx
     split at hx
     · exact h j x (by assumption) hx
     · cases hx
   omega
theorem JT {l:List Entry} (h:¬gO l):dJ l=false:=by simp[dJ,h]
theorem JU {l:List Entry} (h:10<l.length):dJ l=false:=by
 unfold dJ; rw[decide_eq_false (by omega:¬l.length≤10)]; rfl
theorem xT {l:List Entry} (h:l.length≤10) (hq:gO l):dJ l=true:=by simp[dJ,h,hq]
theorem El (a:List Entry) (b:Bool) (hb:b=dJ a):Spec Tryz.prog 176 [lA .aJ a] (aG (bR fun _=>b)):=by
 refine aF au Tryz.func176 rfl rfl (fr:=true) (fun _=>by kernel_rfl) fun P hP hA=> ?_;obtain⟨⟨ha,_⟩,_⟩:=hA;have ha:a.length≤9223372036854775807:=ha;cbv;refine Br.dec (fun h0=> ?_) (fun h0=> ?_) <;> cbv
 · have h0:(a.length:Int)>10:=h0;refine⟨?_,trivial⟩;exact(hb.trans (JU (by omega))).symm
 have h0:¬(a.length:Int)>10:=h0;refine aR.by (X:=Nat) (fun i=>[(0,lA .aJ a),(3,nT fun _=>i)]) (fun _=>[]) (fun i=>i≤a.length∧gO (a.take i)) (fun i _=>a.length - i) 0 ⟨Nat.zero_le _,by rw[List.take_zero]; exact gO.nil⟩ ?_ ?_
 · cbv
   repeat' first | exact trivial | refine⟨rfl, ?_⟩ | fail
 · intro i ⟨hi,hn⟩;cbv;refine Br.dec (fun h2=> ?_) (fun h2=> ?_) <;> cbv
   rotate_left
   · have h2:a.length≤i:=by simp at h2; omega
     refine⟨?_,trivial⟩;rw[List.take_of_length_le h2] at hn;simp only[nc] at *;exact(hb.trans (xT (by omega) hn)).symm
   have h2:i<a.length:=by simpa using h2
   have no:∀{c:Prop},(gO a→c)→¬c→b=false:=fun h1 h2=>hb.trans (JT fun h=>h2 (h1 h));refine⟨a[i],by simp,get_cast a h2, ?_⟩;cbv;refine af.by hP (dn a[i].lvl 0 4) ?_;cbv;refine Br.split (fun k0=> ?_) (fun k0=> ?_) <;> cbv
   · refine⟨?_,trivial⟩;exact(no (fun h=>(h.at_ h2).1) (by simp_all [gm])).symm
   refine af.by hP (dn a[i].aA 1 1000000) ?_;cbv;refine Br.split (fun k1=> ?_) (fun k1=> ?_) <;> cbv
   · refine⟨?_,trivial⟩;exact(no (fun h=>(h.at_ h2).1) (by simp_all [gm])).symm
   refine af.by hP (dn a[i].aZ 1 999) ?_;cbv;refine Br.split (fun k2=> ?_) (fun k2=> ?_) <;> cbv
   · refine⟨?_,trivial⟩;exact(no (fun h=>(h.at_ h2).1) (by simp_all [gm])).symm
   refine af.by hP (dn a[i].aj 1 6) ?_;cbv;refine Br.split (fun k3=> ?_) (fun k3=> ?_) <;> cbv
   · refine⟨?_,trivial⟩;exact(no (fun h=>(h.at_ h2).1) (by simp_all [gm])).symm
   have ok:gm a[i]=true:=by simp_all [gm]
   clear k0 k1 k2 k3;refine Br.dec (fun k4=> ?_) (fun k4=> ?_) <;> cbv
   · have k4:(i:Int)>0:=k4;have h3:i - 1<a.length:=by omega
     have hc:((i:Int) - 1).toNat=i - 1:=by omega
     refine Ar.exact (by(try simp only[nc] at *); omega) (by(try simp only[nc] at *); omega) ?_;cbv;refine⟨a[i - 1],by(try simp only[nc] at *); omega,by simp only[nc]; rw[hc]; exact List.getElem?_eq_getElem h3, ?_⟩;cbv;refine af.by hP (JJ a[i - 1] a[i]) ?_;cbv;refine Br.split (fun k5=> ?_) (fun k5=> ?_) <;> cbv
     · refine⟨?_,trivial⟩;exact(no (fun h=>(h.at_ h2).2.1 (by simp only[nc] at *; omega)) (by simpa using k5)).symm
     have k5:bd a[i - 1] a[i]=true:=by simpa using k5
     refine af.by hP (Ei a a[i].aZ (cU a a[i].aZ) rfl) ?_;cbv;refine Br.split (fun k6=> ?_) (fun k6=> ?_) <;> cbv
     · refine⟨?_,trivial⟩;have k6:(cU a a[i].aZ != (i:Int))=true:=k6;exact(no (fun h=>(AF h2).2 (h.at_ h2).2.2) (by simpa using k6)).symm
     have k6:(cU a a[i].aZ != (i:Int))=false:=k6;have k6:cU a a[i].aZ=(i:Int):=by simpa using k6
     refine Ar.exact (by(try simp only[nc] at *); omega) (by(try simp only[nc] at *); omega) ?_;cbv;refine aL.by (i+1) ?_ ?_ ?_
     · show a.length - (i+1)<a.length - i;omega
     · exact⟨h2,hn.snoc h2 ok (fun _=>k5) ((AF h2).1 k6)⟩
     · cbv
       repeat' first | exact trivial | refine⟨rfl, ?_⟩ | fail
   · have k4:¬(i:Int)>0:=k4;refine af.by hP (Ei a a[i].aZ (cU a a[i].aZ) rfl) ?_;cbv;refine Br.split (fun k6=> ?_) (fun k6=> ?_) <;> cbv
     · refine⟨?_,trivial⟩;have k6:(cU a a[i].aZ != (i:Int))=true:=k6;exact(no (fun h=>(AF h2).2 (h.at_ h2).2.2) (by simpa using k6)).symm
     have k6:(cU a a[i].aZ != (i:Int))=false:=k6;have k6:cU a a[i].aZ=(i:Int):=by simpa using k6
     refine Ar.exact (by(try simp only[nc] at *); omega) (by(try simp only[nc] at *); omega) ?_;cbv;refine aL.by (i+1) ?_ ?_ ?_
     · show a.length - (i+1)<a.length - i;omega
     · exact⟨h2,hn.snoc h2 ok (fun h=>absurd h (by simp only[nc] at *; omega)) ((AF h2).1 k6)⟩
     · cbv
       repeat' first | exact trivial | refine⟨rfl, ?_⟩ | fail
theorem xU (a:List Entry) (b:Bool) (hb:b=dJ a):Spec Tryz.prog 182 [lA .aJ a] (aG (bR fun _=>b)):=by
 refine aF au Tryz.func182 rfl rfl (fr:=true) (fun _=>by kernel_rfl) fun P hP hA=> ?_;obtain⟨⟨ha,_⟩,_⟩:=hA;have ha:a.length≤9223372036854775807:=ha;cbv;refine Br.dec (fun h0=> ?_) (fun h0=> ?_) <;> cbv
 · have h0:(a.length:Int)>10:=h0;refine⟨?_,trivial⟩;exact(hb.trans (JU (by omega))).symm
 have h0:¬(a.length:Int)>10:=h0;refine aR.by (X:=Nat) (fun i=>[(0,lA .aJ a),(8,lA .aJ a),(9,nT fun _=>a.length),(10,nT fun _=>i)]) (fun _=>[]) (fun i=>i≤a.length∧gO (a.take i)) (fun i _=>a.length - i) 0 ⟨Nat.zero_le _,by rw[List.take_zero]; exact gO.nil⟩ ?_ ?_
 · cbv
   repeat' first | exact trivial | refine⟨rfl, ?_⟩ | fail
 · intro i ⟨hi,hn⟩;cbv;refine Br.dec (fun h2=> ?_) (fun h2=> ?_) <;> cbv
   rotate_left
   · have h2:a.length≤i:=by simp at h2; omega
     refine⟨?_,trivial⟩;rw[List.take_of_length_le h2] at hn;simp only[nc] at *;exact(hb.trans (xT (by omega) hn)).symm
   have h2:i<a.length:=by simpa using h2
   have no:∀{c:Prop},(gO a→c)→¬c→b=false:=fun h1 h2=>hb.trans (JT fun h=>h2 (h1 h));refine⟨a[i],by simp,get_cast a h2, ?_⟩;cbv;have tk:cU ((a.take ((i:Int)).toNat).drop ((0:Int)).toNat) a[i].aZ=cU (a.take i) a[i].aZ:=by simp
   refine Br.dec (fun k4=> ?_) (fun k4=> ?_) <;> cbv
   · have k4:(i:Int)>0:=k4;have h3:i - 1<a.length:=by omega
     have hc:((i:Int) - 1).toNat=i - 1:=by omega
     refine Ar.exact (by(try simp only[nc] at *); omega) (by(try simp only[nc] at *); omega) ?_;cbv;refine⟨a[i - 1],by(try simp only[nc] at *); omega,by simp only[nc]; rw[hc]; exact List.getElem?_eq_getElem h3, ?_⟩;cbv;refine af.by hP (JL a[i - 1] a[i]) ?_;cbv;refine Br.split (fun k5=> ?_) (fun k5=> ?_) <;> cbv
     · refine⟨?_,trivial⟩;exact(no (fun h=>(h.at_ h2).2.1 (by simp only[nc] at *; omega)) (by simpa using k5)).symm
     have k5:bd a[i - 1] a[i]=true:=by simpa using k5
     refine⟨⟨by simp,by simp only[nc] at *; omega,by simp only[nc] at *; omega⟩, ?_⟩;cbv;refine af.by hP (Ej ((a.take ((i:Int)).toNat).drop ((0:Int)).toNat) a[i].aZ (cU (a.take i) a[i].aZ) tk.symm) ?_;cbv;refine Br.dec (fun k6=> ?_) (fun k6=> ?_) <;> cbv
     · refine⟨?_,trivial⟩;have k6:cU (a.take i) a[i].aZ≥0:=k6;exact(no (fun h=>(AG h2).2 (h.at_ h2).2.2) (by omega)).symm
     have k6:¬cU (a.take i) a[i].aZ≥0:=k6;have k6:=(AG h2).1 (by omega);refine af.by hP (pq a[i].lvl 5 (by omega) (by omega)) ?_;cbv;refine Br.split (fun q0=> ?_) (fun q0=> ?_) <;> cbv
     · refine⟨?_,trivial⟩;exact(no (fun h=>(h.at_ h2).1) (by simp_all [gm])).symm
     refine af.by hP (di a[i].aA 1 1000000) ?_;cbv;refine Br.split (fun q1=> ?_) (fun q1=> ?_) <;> cbv
     · refine⟨?_,trivial⟩;exact(no (fun h=>(h.at_ h2).1) (by simp_all [gm])).symm
     refine af.by hP (di a[i].aZ 1 999) ?_;cbv;refine Br.split (fun q2=> ?_) (fun q2=> ?_) <;> cbv
     · refine⟨?_,trivial⟩;exact(no (fun h=>(h.at_ h2).1) (by simp_all [gm])).symm
     refine af.by hP (di a[i].aj 1 6) ?_;cbv;refine Br.split (fun q3=> ?_) (fun q3=> ?_) <;> cbv
     · refine⟨?_,trivial⟩;exact(no (fun h=>(h.at_ h2).1) (by simp_all [gm])).symm
     have ok:gm a[i]=true:=by simp_all [gm]
     clear q0 q1 q2 q3;refine Ar.exact (by(try simp only[nc] at *); omega) (by(try simp only[nc] at *); omega) ?_;cbv;refine aL.by (i+1) ?_ ?_ ?_
     · show a.length - (i+1)<a.length - i;omega
     · exact⟨h2,hn.snoc h2 ok (fun _=>k5) k6⟩
     · cbv
       repeat' first | exact trivial | refine⟨rfl, ?_⟩ | fail
   · have k4:¬(i:Int)>0:=k4;refine⟨⟨by simp,by simp only[nc] at *; omega,by simp only[nc] at *; omega⟩, ?_⟩;cbv;refine af.by hP (Ej ((a.take ((i:Int)).toNat).drop ((0:Int)).toNat) a[i].aZ (cU (a.take i) a[i].aZ) tk.symm) ?_;cbv;refine Br.dec (fun k6=> ?_) (fun k6=> ?_) <;> cbv
     · refine⟨?_,trivial⟩;have k6:cU (a.take i) a[i].aZ≥0:=k6;exact(no (fun h=>(AG h2).2 (h.at_ h2).2.2) (by omega)).symm
     have k6:¬cU (a.take i) a[i].aZ≥0:=k6;have k6:=(AG h2).1 (by omega);refine af.by hP (pq a[i].lvl 5 (by omega) (by omega)) ?_;cbv;refine Br.split (fun q0=> ?_) (fun q0=> ?_) <;> cbv
     · refine⟨?_,trivial⟩;exact(no (fun h=>(h.at_ h2).1) (by simp_all [gm])).symm
     refine af.by hP (di a[i].aA 1 1000000) ?_;cbv;refine Br.split (fun q1=> ?_) (fun q1=> ?_) <;> cbv
     · refine⟨?_,trivial⟩;exact(no (fun h=>(h.at_ h2).1) (by simp_all [gm])).symm
     refine af.by hP (di a[i].aZ 1 999) ?_;cbv;refine Br.split (fun q2=> ?_) (fun q2=> ?_) <;> cbv
     · refine⟨?_,trivial⟩;exact(no (fun h=>(h.at_ h2).1) (by simp_all [gm])).symm
     refine af.by hP (di a[i].aj 1 6) ?_;cbv;refine Br.split (fun q3=> ?_) (fun q3=> ?_) <;> cbv
     · refine⟨?_,trivial⟩;exact(no (fun h=>(h.at_ h2).1) (by simp_all [gm])).symm
     have ok:gm a[i]=true:=by simp_all [gm]
     clear q0 q1 q2 q3;refine Ar.exact (by(try simp only[nc] at *); omega) (by(try simp only[nc] at *); omega) ?_;cbv;refine aL.by (i+1) ?_ ?_ ?_
     · show a.length - (i+1)<a.length - i;omega
     · exact⟨h2,hn.snoc h2 ok (fun h=>absurd h (by simp only[nc] at *; omega)) k6⟩
     · cbv
       repeat' first | exact trivial | refine⟨rfl, ?_⟩ | fail
theorem Em {a b:Entry} (Wr:a.lvl=b.lvl) (Q0:a.aA=b.aA) (Ws:a.aZ=b.aZ) (Q1:a.aj=b.aj):a=b:=by
 cases a; cases b; simp_all
theorem JV {a b:aC} (Wt:a.tm=b.tm) (Wu:a.pid=b.pid):a=b:=by
 cases a; cases b; simp_all
theorem JW {a b:ax} (fI:a.id=b.id) (vJ:a.ag=b.ag) (Wv:a.al=b.al) (Q1:a.aj=b.aj) (Ww:a.aO=b.aO) (Wx:a.since=b.since) (Q0:a.aA=b.aA) (mc:a.st=b.st) (Wy:a.dH=b.dH) (Wz:a.asked=b.asked):a=b:=by
 cases a; cases b; simp_all
theorem JX (a b:List Entry):Spec Tryz.prog 115 [lA .aJ a,lA .aJ b] (aG (bR fun _=>decide (a=b))):=by
 refine aF au Tryz.func115 rfl rfl (fr:=true) (fun _=>by kernel_rfl) fun P hP hA=> ?_;obtain⟨⟨ha,_⟩,_⟩:=hA;have ha:a.length≤9223372036854775807:=ha;cbv;refine Br.split (fun h1=> ?_) (fun h1=> ?_) <;> cbv
 · refine⟨?_,trivial⟩;have:=m7 (a:=a) (b:=b) h1;simp[this]
 have h1:=m6 (a:=a) (b:=b) h1;refine aR.by (X:=Nat) (fun i=>[(0,lA .aJ a),(1,lA .aJ b),(5,nT fun _=>i)]) (fun _=>[]) (fun i=>i≤a.length∧a.take i=b.take i) (fun i _=>a.length - i) 0 ⟨Nat.zero_le _,by simp⟩ ?_ ?_
 · cbv
   repeat' first | exact trivial | refine⟨rfl, ?_⟩ | fail
 · intro i ⟨hi,ht⟩;cbv;refine Br.dec (fun h2=> ?_) (fun h2=> ?_) <;> cbv
   · have h2:i<a.length:=by simpa using h2
     have dR:i<b.length:=h1▸h2;refine⟨a[i],by simp,get_cast a h2, ?_⟩;cbv;refine⟨b[i],by simp,get_cast b dR, ?_⟩;cbv;refine Br.split (fun h3=> ?_) (fun h3=> ?_) <;> cbv
     · refine⟨?_,trivial⟩;have:=nP h2 dR (fun he=>by rw[he] at h3; simp at h3);simp[this]
     · refine Ar.exact (by(try simp only[nc] at *); omega) (by(try simp only[nc] at *); omega) ?_;cbv;refine aL.by (i+1) ?_ ?_ ?_
       · show a.length - (i+1)<a.length - i;omega
       · refine⟨h2,nO ht h2 dR ?_⟩;simp only[Bool.not_eq_false',Bool.and_eq_true,beq_iff_eq,Bool.and_true] at h3;exact(by obtain⟨g0,g1,g2,g3⟩:=h3; exact Em g0 g1 g2 g3)
       · cbv
         repeat' first | exact trivial | refine⟨rfl, ?_⟩ | fail
   · refine⟨?_,trivial⟩;have h2:a.length≤i:=by simp at h2; omega
     simp[nQ h1 h2 ht]
theorem JY (a b:List aC):Spec Tryz.prog 117 [lA .aI a,lA .aI b] (aG (bR fun _=>decide (a=b))):=by
 refine aF au Tryz.func117 rfl rfl (fr:=true) (fun _=>by kernel_rfl) fun P hP hA=> ?_;obtain⟨⟨ha,_⟩,_⟩:=hA;have ha:a.length≤9223372036854775807:=ha;cbv;refine Br.split (fun h1=> ?_) (fun h1=> ?_) <;> cbv
 · refine⟨?_,trivial⟩;have:=m7 (a:=a) (b:=b) h1;simp[this]
 have h1:=m6 (a:=a) (b:=b) h1;refine aR.by (X:=Nat) (fun i=>[(0,lA .aI a),(1,lA .aI b),(5,nT fun _=>i)]) (fun _=>[]) (fun i=>i≤a.length∧a.take i=b.take i) (fun i _=>a.length - i) 0 ⟨Nat.zero_le _,by simp⟩ ?_ ?_
 · cbv
   repeat' first | exact trivial | refine⟨rfl, ?_⟩ | fail
 · intro i ⟨hi,ht⟩;cbv;refine Br.dec (fun h2=> ?_) (fun h2=> ?_) <;> cbv
   · have h2:i<a.length:=by simpa using h2
     have dR:i<b.length:=h1▸h2;refine⟨a[i],by simp,get_cast a h2, ?_⟩;cbv;refine⟨b[i],by simp,get_cast b dR, ?_⟩;cbv;refine Br.split (fun h3=> ?_) (fun h3=> ?_) <;> cbv
     · refine⟨?_,trivial⟩;have:=nP h2 dR (fun he=>by rw[he] at h3; simp at h3);simp[this]
     · refine Ar.exact (by(try simp only[nc] at *); omega) (by(try simp only[nc] at *); omega) ?_;cbv;refine aL.by (i+1) ?_ ?_ ?_
       · show a.length - (i+1)<a.length - i;omega
       · refine⟨h2,nO ht h2 dR ?_⟩;simp only[Bool.not_eq_false',Bool.and_eq_true,beq_iff_eq,Bool.and_true] at h3;exact(by obtain⟨g0,g1⟩:=h3; exact JV g0 g1)
       · cbv
         repeat' first | exact trivial | refine⟨rfl, ?_⟩ | fail
   · refine⟨?_,trivial⟩;have h2:a.length≤i:=by simp at h2; omega
     simp[nQ h1 h2 ht]
theorem JZ (a b:List Entry):Spec Tryz.prog 123 [lA .aJ a,lA .aJ b] (aG (bR fun _=>decide (a=b))):=by
 refine aF au Tryz.func123 rfl rfl (fr:=true) (fun _=>by kernel_rfl) fun P hP hA=> ?_;obtain⟨⟨ha,_⟩,_⟩:=hA;have ha:a.length≤9223372036854775807:=ha;cbv;refine Br.split (fun h1=> ?_) (fun h1=> ?_) <;> cbv
 · refine⟨?_,trivial⟩;have:=m7 (a:=a) (b:=b) h1;simp[this]
 have h1:=m6 (a:=a) (b:=b) h1;refine aR.by (X:=Nat) (fun i=>[(0,lA .aJ a),(1,lA .aJ b),(12,nT fun _=>a.length),(13,nT fun _=>i)]) (fun _=>[]) (fun i=>i≤a.length∧a.take i=b.take i) (fun i _=>a.length - i) 0 ⟨Nat.zero_le _,by simp⟩ ?_ ?_
 · cbv
   repeat' first | exact trivial | refine⟨rfl, ?_⟩ | fail
 · intro i ⟨hi,ht⟩;cbv;refine Br.dec (fun h2=> ?_) (fun h2=> ?_) <;> cbv
   · have h2:i<a.length:=by simpa using h2
     have dR:i<b.length:=h1▸h2;refine⟨a[i],by simp,get_cast a h2, ?_⟩;cbv;refine⟨b[i],by simp,get_cast b dR, ?_⟩;cbv;refine Br.split (fun h3=> ?_) (fun h3=> ?_) <;> cbv
     · refine⟨?_,trivial⟩;have:=nP h2 dR (fun he=>by rw[he] at h3; simp at h3);simp[this]
     · refine Ar.exact (by(try simp only[nc] at *); omega) (by(try simp only[nc] at *); omega) ?_;cbv;refine aL.by (i+1) ?_ ?_ ?_
       · show a.length - (i+1)<a.length - i;omega
       · refine⟨h2,nO ht h2 dR ?_⟩;simp only[Bool.not_eq_false',Bool.and_eq_true,beq_iff_eq,Bool.and_true] at h3;exact(by obtain⟨g0,g1,g2,g3⟩:=h3; exact Em g0 g1 g2 g3)
       · cbv
         repeat' first | exact trivial | refine⟨rfl, ?_⟩ | fail
   · refine⟨?_,trivial⟩;have h2:a.length≤i:=by simp at h2; omega
     simp[nQ h1 h2 ht]
theorem J0 (a b:List aC):Spec Tryz.prog 125 [lA .aI a,lA .aI b] (aG (bR fun _=>decide (a=b))):=by
 refine aF au Tryz.func125 rfl rfl (fr:=true) (fun _=>by kernel_rfl) fun P hP hA=> ?_;obtain⟨⟨ha,_⟩,_⟩:=hA;have ha:a.length≤9223372036854775807:=ha;cbv;refine Br.split (fun h1=> ?_) (fun h1=> ?_) <;> cbv
 · refine⟨?_,trivial⟩;have:=m7 (a:=a) (b:=b) h1;simp[this]
 have h1:=m6 (a:=a) (b:=b) h1;refine aR.by (X:=Nat) (fun i=>[(0,lA .aI a),(1,lA .aI b),(12,nT fun _=>a.length),(13,nT fun _=>i)]) (fun _=>[]) (fun i=>i≤a.length∧a.take i=b.take i) (fun i _=>a.length - i) 0 ⟨Nat.zero_le _,by simp⟩ ?_ ?_
 · cbv
   repeat' first | exact trivial | refine⟨rfl, ?_⟩ | fail
 · intro i ⟨hi,ht⟩;cbv;refine Br.dec (fun h2=> ?_) (fun h2=> ?_) <;> cbv
   · have h2:i<a.length:=by simpa using h2
     have dR:i<b.length:=h1▸h2;refine⟨a[i],by simp,get_cast a h2, ?_⟩;cbv;refine⟨b[i],by simp,get_cast b dR, ?_⟩;cbv;refine Br.split (fun h3=> ?_) (fun h3=> ?_) <;> cbv
     · refine⟨?_,trivial⟩;have:=nP h2 dR (fun he=>by rw[he] at h3; simp at h3);simp[this]
     · refine Ar.exact (by(try simp only[nc] at *); omega) (by(try simp only[nc] at *); omega) ?_;cbv;refine aL.by (i+1) ?_ ?_ ?_
       · show a.length - (i+1)<a.length - i;omega
       · refine⟨h2,nO ht h2 dR ?_⟩;simp only[Bool.not_eq_false',Bool.and_eq_true,beq_iff_eq,Bool.and_true] at h3;exact(by obtain⟨g0,g1⟩:=h3; exact JV g0 g1)
       · cbv
         repeat' first | exact trivial | refine⟨rfl, ?_⟩ | fail
   · refine⟨?_,trivial⟩;have h2:a.length≤i:=by simp at h2; omega
     simp[nQ h1 h2 ht]
theorem Q2 (a b:List ax):Spec Tryz.prog 61 [lA .aE a,lA .aE b] (aG (bR fun _=>decide (a=b))):=by
 refine aF au Tryz.func61 rfl rfl (fr:=true) (fun _=>by kernel_rfl) fun P hP hA=> ?_;obtain⟨⟨ha,_⟩,_⟩:=hA;have ha:a.length≤9223372036854775807:=ha;cbv;refine Br.split (fun h1=> ?_) (fun h1=> ?_) <;> cbv
 · refine⟨?_,trivial⟩;have:=m7 (a:=a) (b:=b) h1;simp[this]
 have h1:=m6 (a:=a) (b:=b) h1;refine aR.by (X:=Nat) (fun i=>[(0,lA .aE a),(1,lA .aE b),(12,nT fun _=>a.length),(13,nT fun _=>i)]) (fun _=>[]) (fun i=>i≤a.length∧a.take i=b.take i) (fun i _=>a.length - i) 0 ⟨Nat.zero_le _,by simp⟩ ?_ ?_
 · cbv
   repeat' first | exact trivial | refine⟨rfl, ?_⟩ | fail
 · intro i ⟨hi,ht⟩;cbv;refine Br.dec (fun h2=> ?_) (fun h2=> ?_) <;> cbv
   · have h2:i<a.length:=by simpa using h2
     have dR:i<b.length:=h1▸h2;refine⟨a[i],by simp,get_cast a h2, ?_⟩;cbv;refine⟨b[i],by simp,get_cast b dR, ?_⟩;cbv;refine Br.split (fun h3=> ?_) (fun h3=> ?_) <;> cbv
     · refine⟨?_,trivial⟩;have:=nP h2 dR (fun he=>by rw[he] at h3; simp at h3);simp[this]
     · refine Ar.exact (by(try simp only[nc] at *); omega) (by(try simp only[nc] at *); omega) ?_;cbv;refine aL.by (i+1) ?_ ?_ ?_
       · show a.length - (i+1)<a.length - i;omega
       · refine⟨h2,nO ht h2 dR ?_⟩;simp only[Bool.not_eq_false',Bool.and_eq_true,beq_iff_eq,Bool.and_true] at h3;exact(by obtain⟨g0,g1,g2,g3,g4,g5,g6,g7,g8,g9⟩:=h3; exact JW g0 g1 g2 g3 g4 g5 g6 g7 g8 g9)
       · cbv
         repeat' first | exact trivial | refine⟨rfl, ?_⟩ | fail
   · refine⟨?_,trivial⟩;have h2:a.length≤i:=by simp at h2; omega
     simp[nQ h1 h2 ht]
theorem vK (a:List Entry) (hn:a.length≤aN):Spec Tryz.prog 201 [lA .aJ a] (aG (lR .aJ fun _=>a)):=by
 refine aF au Tryz.func201 rfl rfl (fr:=true) (fun _=>by kernel_rfl) fun P hP hA=> ?_;have hn:a.length≤1048576:=hn;cbv;refine⟨by show(0+a.length)*32≤140737488355328; omega, ?_⟩;cbv
 repeat' first | exact trivial | refine⟨rfl, ?_⟩ | fail
theorem AH {α:Type} {lt:α→α→Bool} {l:List α} {e:α} {i:Nat} (hn:∀(j:Nat) y,j<i→l[j]? = some y→lt y e=true) (h:∀y,l[i]? = some y→lt y e=false):l.take i ++ [e]++l.drop i=bP lt e l:=by
 rw[Cr hn h]; simp
theorem En (a:List Entry) (e:Entry) (hn:a.length≤aN):Spec Tryz.prog 179 [lA .aJ a,eA .aJ e] (aG (lR .aJ fun _=>bP bd e a)):=by
 refine aF au Tryz.func179 rfl rfl (fr:=true) (fun _=>by kernel_rfl) fun P hP hA=> ?_;have hs:a.length≤1048576:=hn;cbv;refine aR.by (X:=Nat) (fun i=>[(0,lA .aJ a),(3,pN 0),(5,nT fun _=>i)]) (fun _=>[(0, .box ((bY .aJ fun _=>e).map .lf))]) (fun i=>i≤a.length∧∀(j:Nat) y,j<i→a[j]? = some y→bd y e=true) (fun i _=>a.length - i) 0 ⟨Nat.zero_le _,fun j y hj=>by omega⟩ ?_ ?_
 · cbv
   repeat' first | exact trivial | refine⟨rfl, ?_⟩ | fail
 · intro i ⟨hi,hx⟩;cbv;refine Br.dec (fun h2=> ?_) (fun h2=> ?_) <;> cbv
   · have h2:i<a.length:=by simpa using h2
     refine⟨a[i],by simp,get_cast a h2, ?_⟩;cbv;refine af.by hP (JJ a[i] e) ?_;cbv;refine Br.split (fun h3=> ?_) (fun h3=> ?_) <;> cbv
     · refine Ar.exact (by(try simp only[nc] at *); omega) (by(try simp only[nc] at *); omega) ?_;cbv;refine aL.by (i+1) ?_ ?_ ?_
       · show a.length - (i+1)<a.length - i;omega
       · exact⟨h2,gN h2 hx h3⟩
       · cbv
         repeat' first | exact trivial | refine⟨rfl, ?_⟩ | fail
     · have hf:∀y,a[i]? = some y→bd y e=false:=fun y hy=>by
         rw[List.getElem?_eq_getElem h2] at hy; cases hy; exact h3
       have pA:i≤a.length:=hi;refine⟨⟨by simp,by simp only[nc] at *; omega,by simp only[nc] at *; omega⟩, ?_⟩;cbv;have tk:(a.take ((i:Int)).toNat).drop ((0:Int)).toNat=a.take i:=by simp
       have dp:(a.take (a.length:Int).toNat).drop ((i:Int)).toNat=a.drop i:=by simp
       have o1:(List.length ((a.take ((i:Int)).toNat).drop ((0:Int)).toNat)+1)*32≤140737488355328:=by rw[tk,List.length_take]; omega
       have o2:(List.length ((a.take ((i:Int)).toNat).drop ((0:Int)).toNat ++ [e])+List.length ((a.take (a.length:Int).toNat).drop ((i:Int)).toNat))*32≤140737488355328:=by rw[tk,dp,List.length_append,List.length_take,List.length_drop]; simp; omega
       have fin:(a.take ((i:Int)).toNat).drop ((0:Int)).toNat ++ [e]++(a.take (a.length:Int).toNat).drop ((i:Int)).toNat=bP bd e a:=by rw[tk,dp]; exact AH hx hf
       have os:0≤(i:Int)∧(i:Int)≤(a.length:Int)∧(a.length:Int)≤(a.length:Int):=⟨by omega,by omega,by omega⟩
       repeat' first
         | (refine af.by hP (vK ((a.take ((i:Int)).toNat).drop ((0:Int)).toNat) (by rw[tk,List.length_take]; show _≤1048576; omega)) ?_; cbv)
         | (refine Ob.mk (by first | exact o1 | exact o2 | exact os) ?_; cbv)
         | refine And.intro ?_ ?_
         | exact⟨fin,trivial⟩
         | fail
   · have h2:a.length≤i:=by simp at h2; omega
     have pA:i≤a.length:=hi
     have hf:∀y,a[i]? = some y→bd y e=false:=fun y hy=>by
       rw[List.getElem?_eq_none h2] at hy; cases hy
     refine⟨⟨by simp,by simp only[nc] at *; omega,by simp only[nc] at *; omega⟩, ?_⟩;cbv;have tk:(a.take ((i:Int)).toNat).drop ((0:Int)).toNat=a.take i:=by simp
     have dp:(a.take (a.length:Int).toNat).drop ((i:Int)).toNat=a.drop i:=by simp
     have o1:(List.length ((a.take ((i:Int)).toNat).drop ((0:Int)).toNat)+1)*32≤140737488355328:=by rw[tk,List.length_take]; omega
     have o2:(List.length ((a.take ((i:Int)).toNat).drop ((0:Int)).toNat ++ [e])+List.length ((a.take (a.length:Int).toNat).drop ((i:Int)).toNat))*32≤140737488355328:=by rw[tk,dp,List.length_append,List.length_take,List.length_drop]; simp; omega
     have fin:(a.take ((i:Int)).toNat).drop ((0:Int)).toNat ++ [e]++(a.take (a.length:Int).toNat).drop ((i:Int)).toNat=bP bd e a:=by rw[tk,dp]; exact AH hx hf
     have os:0≤(i:Int)∧(i:Int)≤(a.length:Int)∧(a.length:Int)≤(a.length:Int):=⟨by omega,by omega,by omega⟩
     repeat' first
       | (refine af.by hP (vK ((a.take ((i:Int)).toNat).drop ((0:Int)).toNat) (by rw[tk,List.length_take]; show _≤1048576; omega)) ?_; cbv)
       | (refine Ob.mk (by first | exact o1 | exact o2 | exact os) ?_; cbv)
       | refine And.intro ?_ ?_
       | exact⟨fin,trivial⟩
       | fail
theorem Eo (a:List aC) (e:aC) (hn:a.length≤aN):Spec Tryz.prog 181 [lA .aI a,eA .aI e] (aG (lR .aI fun _=>bP bu e a)):=by
 refine aF au Tryz.func181 rfl rfl (fr:=true) (fun _=>by kernel_rfl) fun P hP hA=> ?_;have hs:a.length≤1048576:=hn;cbv;refine aR.by (X:=Nat) (fun i=>[(0,lA .aI a),(3,pN 0),(5,nT fun _=>i)]) (fun _=>[(0, .box ((bY .aI fun _=>e).map .lf))]) (fun i=>i≤a.length∧∀(j:Nat) y,j<i→a[j]? = some y→bu y e=true) (fun i _=>a.length - i) 0 ⟨Nat.zero_le _,fun j y hj=>by omega⟩ ?_ ?_
 · cbv
   repeat' first | exact trivial | refine⟨rfl, ?_⟩ | fail
 · intro i ⟨hi,hx⟩;cbv;refine Br.dec (fun h2=> ?_) (fun h2=> ?_) <;> cbv
   · have h2:i<a.length:=by simpa using h2
     refine⟨a[i],by simp,get_cast a h2, ?_⟩;cbv;refine af.by hP (JM a[i] e) ?_;cbv;refine Br.split (fun h3=> ?_) (fun h3=> ?_) <;> cbv
     · refine Ar.exact (by(try simp only[nc] at *); omega) (by(try simp only[nc] at *); omega) ?_;cbv;refine aL.by (i+1) ?_ ?_ ?_
       · show a.length - (i+1)<a.length - i;omega
       · exact⟨h2,gN h2 hx h3⟩
       · cbv
         repeat' first | exact trivial | refine⟨rfl, ?_⟩ | fail
     · have hf:∀y,a[i]? = some y→bu y e=false:=fun y hy=>by
         rw[List.getElem?_eq_getElem h2] at hy; cases hy; exact h3
       have pA:i≤a.length:=hi;refine⟨⟨by simp,by simp only[nc] at *; omega,by simp only[nc] at *; omega⟩, ?_⟩;cbv;have tk:(a.take ((i:Int)).toNat).drop ((0:Int)).toNat=a.take i:=by simp
       refine⟨by show(0+List.length ((a.take ((i:Int)).toNat).drop ((0:Int)).toNat))*16≤140737488355328; rw[tk,List.length_take]; omega, ?_⟩;cbv;refine⟨by show(List.length ([]++(a.take ((i:Int)).toNat).drop ((0:Int)).toNat)+1)*16≤140737488355328; rw[tk,List.nil_append,List.length_take]; omega, ?_⟩;cbv;refine⟨⟨by simp,by simp only[nc] at *; omega,by simp⟩, ?_⟩;cbv;have dp:(a.take (a.length:Int).toNat).drop ((i:Int)).toNat=a.drop i:=by simp
       refine⟨by show(List.length ([]++(a.take ((i:Int)).toNat).drop ((0:Int)).toNat ++ [e])+List.length ((a.take (a.length:Int).toNat).drop ((i:Int)).toNat))*16≤140737488355328; rw[tk,dp,List.nil_append,List.length_append,List.length_take,List.length_drop]; simp; omega, ?_⟩;cbv;refine⟨?_,trivial⟩;show[]++(a.take ((i:Int)).toNat).drop ((0:Int)).toNat ++ [e]++(a.take (a.length:Int).toNat).drop ((i:Int)).toNat=bP bu e a;rw[tk,dp,List.nil_append];exact AH hx hf
   · have h2:a.length≤i:=by simp at h2; omega
     have pA:i≤a.length:=hi
     have hf:∀y,a[i]? = some y→bu y e=false:=fun y hy=>by
       rw[List.getElem?_eq_none h2] at hy; cases hy
     refine⟨⟨by simp,by simp only[nc] at *; omega,by simp only[nc] at *; omega⟩, ?_⟩;cbv;have tk:(a.take ((i:Int)).toNat).drop ((0:Int)).toNat=a.take i:=by simp
     refine⟨by show(0+List.length ((a.take ((i:Int)).toNat).drop ((0:Int)).toNat))*16≤140737488355328; rw[tk,List.length_take]; omega, ?_⟩;cbv;refine⟨by show(List.length ([]++(a.take ((i:Int)).toNat).drop ((0:Int)).toNat)+1)*16≤140737488355328; rw[tk,List.nil_append,List.length_take]; omega, ?_⟩;cbv;refine⟨⟨by simp,by simp only[nc] at *; omega,by simp⟩, ?_⟩;cbv;have dp:(a.take (a.length:Int).toNat).drop ((i:Int)).toNat=a.drop i:=by simp
     refine⟨by show(List.length ([]++(a.take ((i:Int)).toNat).drop ((0:Int)).toNat ++ [e])+List.length ((a.take (a.length:Int).toNat).drop ((i:Int)).toNat))*16≤140737488355328; rw[tk,dp,List.nil_append,List.length_append,List.length_take,List.length_drop]; simp; omega, ?_⟩;cbv;refine⟨?_,trivial⟩;show[]++(a.take ((i:Int)).toNat).drop ((0:Int)).toNat ++ [e]++(a.take (a.length:Int).toNat).drop ((i:Int)).toNat=bP bu e a;rw[tk,dp,List.nil_append];exact AH hx hf
end Go.Proofs.YtpklefhdkkegiaaGreat

