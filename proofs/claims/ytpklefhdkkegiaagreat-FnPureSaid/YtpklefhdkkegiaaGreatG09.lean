/- Parts of a proof. No conditions. -/

import Derived.Test.YtpklefhdkkegiaaGreatG08
set_option linter.unusedSimpArgs false
set_option linter.unusedVariables false
namespace Go.Proofs.YtpklefhdkkegiaaGreat
open Go
set_option maxRecDepth 100000
def ie {α:Type} (p:α→Bool) (l:List α):Int:=match l.findIdx? p with | some i=>(i:Int) | none=> -1
section
variable {α : Type} {p : α → Bool} {l : List α}
theorem m7 {i:Nat} (hi:i<l.length) (h:p l[i]=true) (hn:∀(j:Nat) x,j<i→l[j]? = some x→p x=false):ie p l=(i:Int):=by
 have:l.findIdx? p=some i:=by
  rw[List.findIdx?_eq_some_iff_getElem];refine⟨hi,h,fun j hj=> ?_⟩;rw[hn j _ hj (List.getElem?_eq_getElem (by omega))]; simp
 simp[ie,this]
theorem m8 (hn:∀(j:Nat) x,l[j]? = some x→p x=false):ie p l = -1:=by
 have:l.findIdx? p=none:=by
  rw[List.findIdx?_eq_none_iff];intro x hx;obtain⟨j,hj⟩:=List.mem_iff_getElem?.1 hx;exact hn j x hj
 simp[ie,this]
theorem iC (p:α→Bool) (l:List α):(ie p l = -1∧∀x∈l,p x=false)∨∃i,∃h:i<l.length,ie p l=(i:Int)∧p l[i]=true∧∀(j:Nat) x,j<i→l[j]? = some x→p x=false:=by
 cases h:l.findIdx? p with
 | none=>exact .inl ⟨by simp[ie,h],List.findIdx?_eq_none_iff.1 h⟩
 | some i=>
   obtain⟨h1,h2,h3⟩:=List.findIdx?_eq_some_iff_getElem.1 h;refine .inr ⟨i,h1,by simp[ie,h],h2,fun j x hj hx=> ?_⟩;have aR:=bD hx;rw[List.getElem?_eq_getElem aR] at hx;cases hx;have:=h3 j hj;simpa using this
theorem gy {q:α→Prop} {i:Nat} (hi:i<l.length) (hn:∀(j:Nat) x,j<i→l[j]? = some x→q x) (h:q l[i]):∀(j:Nat) x,j<i+1→l[j]? = some x→q x:=by
 intro j x hj hx;rcases Nat.lt_or_ge j i with h1 | h1
 · exact hn j x h1 hx
 · obtain rfl:j=i:=by omega
   rw[List.getElem?_eq_getElem hi] at hx;cases hx; exact h
theorem ma {q:α→Prop} {i:Nat} (hi:l.length≤i) (hn:∀(j:Nat) x,j<i→l[j]? = some x→q x):∀(j:Nat) x,l[j]? = some x→q x:=
 fun j x hx=>hn j x (Nat.lt_of_lt_of_le (bD hx) hi) hx
end
theorem Bc {α:Type} (p:α→Bool) (l:List α): -1≤ie p l∧ie p l<l.length:=by
 rcases iC p l with⟨h,_⟩ | ⟨i,hi,h,_⟩ <;> rw[h] <;> omega
def dx (l:List Entry) (id:Int):Int:=ie (fun e=>e.bm == id) l
def bq (l:List ax) (id:Int):Int:=ie (fun e=>e.id == id) l
theorem Gf (a:List Entry) (id:Int) (x:Int) (hx:x=dx a id):Spec Tryz.prog 209 [lA .aH a,iA id] (aM (iR fun _=>x)):=by
 refine aN aD Tryz.func209 rfl rfl (fr:=true) (fun _=>by kernel_rfl) fun P hP hA=> ?_;obtain⟨⟨ha,_⟩,_⟩:=hA;have ha:a.length≤9223372036854775807:=ha;cbv;refine aW.by (X:=Nat) (fun i=>[(0,lA .aH a),(1,iA id),(5,nT fun _=>i)]) (fun _=>[]) (fun i=>i≤a.length∧∀(j:Nat) y,j<i→a[j]? = some y→(y.bm == id)=false) (fun i _=>a.length - i) 0 ⟨Nat.zero_le _,fun j y hj=>by omega⟩ ?_ ?_
 · cbv
   repeat' first | exact trivial | refine⟨rfl, ?_⟩ | fail
 · intro i ⟨hi,hn⟩;cbv;refine Br.dec (fun h2=> ?_) (fun h2=> ?_) <;> cbv
   · have h2:i<a.length:=by simpa using h2
     refine⟨a[i],by simp,get_cast a h2, ?_⟩;cbv;refine Br.split (fun h3=> ?_) (fun h3=> ?_) <;> cbv
     · refine⟨?_,trivial⟩;exact(hx.trans (m7 h2 h3 hn)).symm
     · refine Ar.exact (by(try simp only[nc] at *); omega) (by(try simp only[nc] at *); omega) ?_;cbv;refine aO.by (i+1) ?_ ?_ ?_
       · show a.length - (i+1)<a.length - i;omega
       · exact⟨h2,gy h2 hn h3⟩
       · cbv
         repeat' first | exact trivial | refine⟨rfl, ?_⟩ | fail
   · have h2:a.length≤i:=by simp at h2; omega
     refine⟨?_,trivial⟩;exact(hx.trans (m8 (ma h2 hn))).symm
theorem Bd (a:List ax) (id:Int) (x:Int) (hx:x=bq a id):Spec Tryz.prog 171 [lA .aB a,iA id] (aM (iR fun _=>x)):=by
 refine aN aD Tryz.func171 rfl rfl (fr:=true) (fun _=>by kernel_rfl) fun P hP hA=> ?_;obtain⟨⟨ha,_⟩,_⟩:=hA;have ha:a.length≤9223372036854775807:=ha;cbv;refine aW.by (X:=Nat) (fun i=>[(0,lA .aB a),(1,iA id),(5,nT fun _=>i)]) (fun _=>[]) (fun i=>i≤a.length∧∀(j:Nat) y,j<i→a[j]? = some y→(y.id == id)=false) (fun i _=>a.length - i) 0 ⟨Nat.zero_le _,fun j y hj=>by omega⟩ ?_ ?_
 · cbv
   repeat' first | exact trivial | refine⟨rfl, ?_⟩ | fail
 · intro i ⟨hi,hn⟩;cbv;refine Br.dec (fun h2=> ?_) (fun h2=> ?_) <;> cbv
   · have h2:i<a.length:=by simpa using h2
     refine⟨a[i],by simp,get_cast a h2, ?_⟩;cbv;refine Br.split (fun h3=> ?_) (fun h3=> ?_) <;> cbv
     · refine⟨?_,trivial⟩;exact(hx.trans (m7 h2 h3 hn)).symm
     · refine Ar.exact (by(try simp only[nc] at *); omega) (by(try simp only[nc] at *); omega) ?_;cbv;refine aO.by (i+1) ?_ ?_ ?_
       · show a.length - (i+1)<a.length - i;omega
       · exact⟨h2,gy h2 hn h3⟩
       · cbv
         repeat' first | exact trivial | refine⟨rfl, ?_⟩ | fail
   · have h2:a.length≤i:=by simp at h2; omega
     refine⟨?_,trivial⟩;exact(hx.trans (m8 (ma h2 hn))).symm
theorem MR (e:Entry) (id:Int):Spec Tryz.prog 247 [eA .aH e, .c (.bN [.int .i64 fun _=>id] 0)] (aM (bR fun _=>e.bm == id)):=by
 refine aN aD Tryz.func247 rfl rfl (fr:=true) (fun _=>by kernel_rfl) fun P hP hA=> ?_;cbv
 repeat' first | exact trivial | refine⟨rfl, ?_⟩ | fail
theorem MS (e:ax) (id:Int):Spec Tryz.prog 210 [eA .aB e, .c (.bN [.int .i64 fun _=>id] 0)] (aM (bR fun _=>e.id == id)):=by
 refine aN aD Tryz.func210 rfl rfl (fr:=true) (fun _=>by kernel_rfl) fun P hP hA=> ?_;cbv
 repeat' first | exact trivial | refine⟨rfl, ?_⟩ | fail
theorem MT (a:List Entry) (id:Int) (x:Int) (hx:x=dx a id):Spec Tryz.prog 138 [lA .aH a, .c (.fn 247 [.bN [.int .i64 fun _=>id] 0])] (aM (iR fun _=>x)):=by
 refine aN aD Tryz.func138 rfl rfl (fr:=true) (fun _=>by kernel_rfl) fun P hP hA=> ?_;obtain⟨⟨ha,_⟩,_⟩:=hA;have ha:a.length≤9223372036854775807:=ha;cbv;refine aW.by (X:=Nat) (fun i=>[(0,lA .aH a),(1, .c (.fn 247 [.bN [.int .i64 fun _=>id] 0])),(7,nT fun _=>a.length),(8,nT fun _=>i)]) (fun _=>[]) (fun i=>i≤a.length∧∀(j:Nat) y,j<i→a[j]? = some y→(y.bm == id)=false) (fun i _=>a.length - i) 0 ⟨Nat.zero_le _,fun j y hj=>by omega⟩ ?_ ?_
 · cbv
   repeat' first | exact trivial | refine⟨rfl, ?_⟩ | fail
 · intro i ⟨hi,hn⟩;cbv;refine Br.dec (fun h2=> ?_) (fun h2=> ?_) <;> cbv
   · have h2:i<a.length:=by simpa using h2
     refine⟨a[i],by simp,get_cast a h2, ?_⟩;cbv;refine ag.by hP (MR a[i] id) ?_;cbv;refine Br.split (fun h3=> ?_) (fun h3=> ?_) <;> cbv
     · refine⟨?_,trivial⟩;exact(hx.trans (m7 h2 h3 hn)).symm
     · refine Ar.exact (by(try simp only[nc] at *); omega) (by(try simp only[nc] at *); omega) ?_;cbv;refine aO.by (i+1) ?_ ?_ ?_
       · show a.length - (i+1)<a.length - i;omega
       · exact⟨h2,gy h2 hn h3⟩
       · cbv
         repeat' first | exact trivial | refine⟨rfl, ?_⟩ | fail
   · have h2:a.length≤i:=by simp at h2; omega
     refine⟨?_,trivial⟩;exact(hx.trans (m8 (ma h2 hn))).symm
theorem MU (a:List ax) (id:Int) (x:Int) (hx:x=bq a id):Spec Tryz.prog 195 [lA .aB a, .c (.fn 210 [.bN [.int .i64 fun _=>id] 0])] (aM (iR fun _=>x)):=by
 refine aN aD Tryz.func195 rfl rfl (fr:=true) (fun _=>by kernel_rfl) fun P hP hA=> ?_;obtain⟨⟨ha,_⟩,_⟩:=hA;have ha:a.length≤9223372036854775807:=ha;cbv;refine aW.by (X:=Nat) (fun i=>[(0,lA .aB a),(1, .c (.fn 210 [.bN [.int .i64 fun _=>id] 0])),(7,nT fun _=>a.length),(8,nT fun _=>i)]) (fun _=>[]) (fun i=>i≤a.length∧∀(j:Nat) y,j<i→a[j]? = some y→(y.id == id)=false) (fun i _=>a.length - i) 0 ⟨Nat.zero_le _,fun j y hj=>by omega⟩ ?_ ?_
 · cbv
   repeat' first | exact trivial | refine⟨rfl, ?_⟩ | fail
 · intro i ⟨hi,hn⟩;cbv;refine Br.dec (fun h2=> ?_) (fun h2=> ?_) <;> cbv
   · have h2:i<a.length:=by simpa using h2
     refine⟨a[i],by simp,get_cast a h2, ?_⟩;cbv;refine ag.by hP (MS a[i] id) ?_;cbv;refine Br.split (fun h3=> ?_) (fun h3=> ?_) <;> cbv
     · refine⟨?_,trivial⟩;exact(hx.trans (m7 h2 h3 hn)).symm
     · refine Ar.exact (by(try simp only[nc] at *); omega) (by(try simp only[nc] at *); omega) ?_;cbv;refine aO.by (i+1) ?_ ?_ ?_
       · show a.length - (i+1)<a.length - i;omega
       · exact⟨h2,gy h2 hn h3⟩
       · cbv
         repeat' first | exact trivial | refine⟨rfl, ?_⟩ | fail
   · have h2:a.length≤i:=by simp at h2; omega
     refine⟨?_,trivial⟩;exact(hx.trans (m8 (ma h2 hn))).symm
theorem Be (a:List Entry) (id:Int) (x:Int) (hx:x=dx a id):Spec Tryz.prog 193 [lA .aH a,iA id] (aM (iR fun _=>x)):=by
 refine aN aD Tryz.func193 rfl rfl (fr:=true) (fun _=>by kernel_rfl) fun P hP hA=> ?_;cbv;refine ag.by hP (MT a id x hx) ?_;cbv
 repeat' first | exact trivial | refine⟨rfl, ?_⟩ | fail
theorem Bf (a:List ax) (id:Int) (x:Int) (hx:x=bq a id):Spec Tryz.prog 149 [lA .aB a,iA id] (aM (iR fun _=>x)):=by
 refine aN aD Tryz.func149 rfl rfl (fr:=true) (fun _=>by kernel_rfl) fun P hP hA=> ?_;cbv;refine ag.by hP (MU a id x hx) ?_;cbv
 repeat' first | exact trivial | refine⟨rfl, ?_⟩ | fail
theorem m9 (h:al) (id:Int) (x:Int) (hx:x=bq h.ae id):Spec Tryz.prog 80 [dV h,iA id] (aM (iR fun _=>x)):=by
 refine aN aD Tryz.func80 rfl rfl (fr:=true) (fun _=>by kernel_rfl) fun P hP hA=> ?_;cbv;refine ag.by hP (Bf h.ae id x hx) ?_;cbv
 repeat' first | exact trivial | refine⟨rfl, ?_⟩ | fail
theorem Bg (h:al) (id:Int) (x:Int) (hx:x=bq h.ae id):Spec Tryz.prog 96 [dV h,iA id] (aM (iR fun _=>x)):=by
 refine aN aD Tryz.func96 rfl rfl (fr:=true) (fun _=>by kernel_rfl) fun P hP hA=> ?_;cbv;refine ag.by hP (Bd h.ae id x hx) ?_;cbv
 repeat' first | exact trivial | refine⟨rfl, ?_⟩ | fail
def ff (e:Entry):Bool:=aj e.lvl 0 4 && (aj e.az 1 1000000 && (aj e.bm 1 999 && aj e.au 1 6))
structure fI (l:List Entry):Prop where
 ok:∀e∈l,ff e=true
 lt:l.Pairwise fun a b=>bd a b=true
 ne:l.Pairwise fun a b=>a.bm≠b.bm
instance (l:List Entry):Decidable (fI l):=
 decidable_of_iff ((∀e∈l,ff e=true)∧(l.Pairwise fun a b=>bd a b=true)∧l.Pairwise fun a b=>a.bm≠b.bm) ⟨fun⟨a,b,c⟩=>⟨a,b,c⟩,fun⟨a,b,c⟩=>⟨a,b,c⟩⟩
def dg (l:List Entry):Bool:=decide (l.length≤10) && decide (fI l)
theorem fI.nil:fI []:=⟨fun e he=>(by cases he),List.Pairwise.nil,List.Pairwise.nil⟩
theorem fI.snoc {l:List Entry} {i:Nat} (hi:i<l.length) (h:fI (l.take i)) (ok:ff l[i]=true) (lt:0<i→bd (l[i - 1]'(by omega)) l[i]=true) (ne:∀(j:Nat) x,j<i→l[j]? = some x→(x.bm == l[i].bm)=false):fI (l.take (i+1)):=by
 have e:l.take (i+1)=l.take i ++ [l[i]]:=by rw[List.take_add_one,List.getElem?_eq_getElem hi]; rfl
 have get:∀x∈l.take i,∃j,j<i∧l[j]? = some x:=fun x hx=>by
   obtain⟨j,hj⟩:=List.mem_iff_getElem?.1 hx;rw[List.getElem?_take] at hj
   split at hj
   · exact⟨j,by assumption,hj⟩
   · cases hj
 refine⟨fun x hx=> ?_, ?_, ?_⟩
 · rw[e,List.mem_append] at hx;rcases hx with hx | hx
   · exact h.ok x hx
   · cases List.mem_singleton.1 hx; exact ok
 · rw [e,List.pairwise_append];refine⟨h.lt,List.pairwise_singleton _ _,fun a ha b hb=> ?_⟩;cases List.mem_singleton.1 hb;obtain⟨j,hj,hx⟩:=get a ha;have hl:=lt (by omega);rcases Nat.lt_or_ge j (i - 1) with h1 | h1
   · have h2:=(List.pairwise_iff_getElem.1 h.lt) j (i - 1) (by rw[List.length_take]; omega) (by rw[List.length_take]; omega) h1;simp only[List.getElem_take] at h2;rw[List.getElem?_eq_getElem (by omega)] at hx;cases hx;exact nI.tr _ _ _ h2 hl
   · obtain rfl:j=i - 1:=by omega
     rw[List.getElem?_eq_getElem (by omega)] at hx;cases hx; exact hl
 · rw[e,List.pairwise_append];refine⟨h.ne,List.pairwise_singleton _ _,fun a ha b hb=> ?_⟩;cases List.mem_singleton.1 hb;obtain⟨j,hj,hx⟩:=get a ha;have:=ne j a hj hx;simpa using this
theorem fI.at_ {l:List Entry} (h:fI l) {i:Nat} (hi:i<l.length):ff l[i]=true∧(0<i→bd (l[i - 1]'(by omega)) l[i]=true)∧∀(j:Nat) x,j<i→l[j]? = some x→(x.bm == l[i].bm)=false:=by
 refine⟨h.ok _ (List.getElem_mem hi),fun h0=> ?_,fun j x hj hx=> ?_⟩
 · exact(List.pairwise_iff_getElem.1 h.lt) (i - 1) i (by omega) hi (by omega)
 · have:=(List.pairwise_iff_getElem.1 h.ne) j i (by omega) hi hj;rw[List.getElem?_eq_getElem (by omega)] at hx;cases hx;simpa using this
theorem xG {l:List Entry} {i:Nat} (hi:i<l.length):(dx l l[i].bm=(i:Int))↔∀(j:Nat) x,j<i→l[j]? = some x→(x.bm == l[i].bm)=false:=by
 constructor
 · intro h j x hj hx;rcases iC (fun e:Entry=>e.bm == l[i].bm) l with⟨h1,_⟩ | ⟨k,hk,h1,h2,h3⟩
   · have:dx l l[i].bm = -1:=h1;omega
   · have:dx l l[i].bm=(k:Int):=h1;exact h3 j x (by omega) hx
 · exact fun h=>m7 hi (by simp) h
theorem xH {l:List Entry} {i:Nat} (hi:i<l.length):(dx (l.take i) l[i].bm<0)↔∀(j:Nat) x,j<i→l[j]? = some x→(x.bm == l[i].bm)=false:=by
 constructor
 · intro h j x hj hx;rcases iC (fun e:Entry=>e.bm == l[i].bm) (l.take i) with⟨_,h1⟩ | ⟨k,hk,h1,_⟩
   · exact h1 x (List.mem_iff_getElem?.2 ⟨j,by rw[List.getElem?_take,if_pos hj]; exact hx⟩)
   · have:dx (l.take i) l[i].bm=(k:Int):=h1;omega
 · intro h
   have:dx (l.take i) l[i].bm = -1:=m8 fun j x hx=>by
     rw[List.getElem?_take] at hx
     split at hx
     · exact h j x (by assumption) hx
     · cases hx
   omega
theorem Gg {l:List Entry} (h:¬fI l):dg l=false:=by simp[dg,h]
theorem Gh {l:List Entry} (h:10<l.length):dg l=false:=by
 unfold dg; rw[decide_eq_false (by omega:¬l.length≤10)]; rfl
theorem vi {l:List Entry} (h:l.length≤10) (hq:fI l):dg l=true:=by simp[dg,h,hq]
theorem Bh (a:List Entry) (b:Bool) (hb:b=dg a):Spec Tryz.prog 176 [lA .aH a] (aM (bR fun _=>b)):=by
 refine aN aD Tryz.func176 rfl rfl (fr:=true) (fun _=>by kernel_rfl) fun P hP hA=> ?_;obtain⟨⟨ha,_⟩,_⟩:=hA;have ha:a.length≤9223372036854775807:=ha;cbv;refine Br.dec (fun h0=> ?_) (fun h0=> ?_) <;> cbv
 · have h0:(a.length:Int)>10:=h0;refine⟨?_,trivial⟩;exact(hb.trans (Gh (by omega))).symm
 have h0:¬(a.length:Int)>10:=h0;refine aW.by (X:=Nat) (fun i=>[(0,lA .aH a),(3,nT fun _=>i)]) (fun _=>[]) (fun i=>i≤a.length∧fI (a.take i)) (fun i _=>a.length - i) 0 ⟨Nat.zero_le _,by rw[List.take_zero]; exact fI.nil⟩ ?_ ?_
 · cbv
   repeat' first | exact trivial | refine⟨rfl, ?_⟩ | fail
 · intro i ⟨hi,hn⟩;cbv;refine Br.dec (fun h2=> ?_) (fun h2=> ?_) <;> cbv
   rotate_left
   · have h2:a.length≤i:=by simp at h2; omega
     refine⟨?_,trivial⟩;rw[List.take_of_length_le h2] at hn;simp only[nc] at *;exact(hb.trans (vi (by omega) hn)).symm
   have h2:i<a.length:=by simpa using h2
   have no:∀{c:Prop},(fI a→c)→¬c→b=false:=fun h1 h2=>hb.trans (Gg fun h=>h2 (h1 h));refine⟨a[i],by simp,get_cast a h2, ?_⟩;cbv;refine ag.by hP (cT a[i].lvl 0 4) ?_;cbv;refine Br.split (fun k0=> ?_) (fun k0=> ?_) <;> cbv
   · refine⟨?_,trivial⟩;exact(no (fun h=>(h.at_ h2).1) (by simp_all [ff])).symm
   refine ag.by hP (cT a[i].az 1 1000000) ?_;cbv;refine Br.split (fun k1=> ?_) (fun k1=> ?_) <;> cbv
   · refine⟨?_,trivial⟩;exact(no (fun h=>(h.at_ h2).1) (by simp_all [ff])).symm
   refine ag.by hP (cT a[i].bm 1 999) ?_;cbv;refine Br.split (fun k2=> ?_) (fun k2=> ?_) <;> cbv
   · refine⟨?_,trivial⟩;exact(no (fun h=>(h.at_ h2).1) (by simp_all [ff])).symm
   refine ag.by hP (cT a[i].au 1 6) ?_;cbv;refine Br.split (fun k3=> ?_) (fun k3=> ?_) <;> cbv
   · refine⟨?_,trivial⟩;exact(no (fun h=>(h.at_ h2).1) (by simp_all [ff])).symm
   have ok:ff a[i]=true:=by simp_all [ff]
   clear k0 k1 k2 k3;refine Br.dec (fun k4=> ?_) (fun k4=> ?_) <;> cbv
   · have k4:(i:Int)>0:=k4;have h3:i - 1<a.length:=by omega
     have hc:((i:Int) - 1).toNat=i - 1:=by omega
     refine Ar.exact (by(try simp only[nc] at *); omega) (by(try simp only[nc] at *); omega) ?_;cbv;refine⟨a[i - 1],by(try simp only[nc] at *); omega,by simp only[nc]; rw[hc]; exact List.getElem?_eq_getElem h3, ?_⟩;cbv;refine ag.by hP (F3 a[i - 1] a[i]) ?_;cbv;refine Br.split (fun k5=> ?_) (fun k5=> ?_) <;> cbv
     · refine⟨?_,trivial⟩;exact(no (fun h=>(h.at_ h2).2.1 (by simp only[nc] at *; omega)) (by simpa using k5)).symm
     have k5:bd a[i - 1] a[i]=true:=by simpa using k5
     refine ag.by hP (Gf a a[i].bm (dx a a[i].bm) rfl) ?_;cbv;refine Br.split (fun k6=> ?_) (fun k6=> ?_) <;> cbv
     · refine⟨?_,trivial⟩;have k6:(dx a a[i].bm != (i:Int))=true:=k6;exact(no (fun h=>(xG h2).2 (h.at_ h2).2.2) (by simpa using k6)).symm
     have k6:(dx a a[i].bm != (i:Int))=false:=k6;have k6:dx a a[i].bm=(i:Int):=by simpa using k6
     refine Ar.exact (by(try simp only[nc] at *); omega) (by(try simp only[nc] at *); omega) ?_;cbv;refine aO.by (i+1) ?_ ?_ ?_
     · show a.length - (i+1)<a.length - i;omega
     · exact⟨h2,hn.snoc h2 ok (fun _=>k5) ((xG h2).1 k6)⟩
     · cbv
       repeat' first | exact trivial | refine⟨rfl, ?_⟩ | fail
   · have k4:¬(i:Int)>0:=k4;refine ag.by hP (Gf a a[i].bm (dx a a[i].bm) rfl) ?_;cbv;refine Br.split (fun k6=> ?_) (fun k6=> ?_) <;> cbv
     · refine⟨?_,trivial⟩;have k6:(dx a a[i].bm != (i:Int))=true:=k6;exact(no (fun h=>(xG h2).2 (h.at_ h2).2.2) (by simpa using k6)).symm
     have k6:(dx a a[i].bm != (i:Int))=false:=k6;have k6:dx a a[i].bm=(i:Int):=by simpa using k6
     refine Ar.exact (by(try simp only[nc] at *); omega) (by(try simp only[nc] at *); omega) ?_;cbv;refine aO.by (i+1) ?_ ?_ ?_
     · show a.length - (i+1)<a.length - i;omega
     · exact⟨h2,hn.snoc h2 ok (fun h=>absurd h (by simp only[nc] at *; omega)) ((xG h2).1 k6)⟩
     · cbv
       repeat' first | exact trivial | refine⟨rfl, ?_⟩ | fail
theorem vj (a:List Entry) (b:Bool) (hb:b=dg a):Spec Tryz.prog 182 [lA .aH a] (aM (bR fun _=>b)):=by
 refine aN aD Tryz.func182 rfl rfl (fr:=true) (fun _=>by kernel_rfl) fun P hP hA=> ?_;obtain⟨⟨ha,_⟩,_⟩:=hA;have ha:a.length≤9223372036854775807:=ha;cbv;refine Br.dec (fun h0=> ?_) (fun h0=> ?_) <;> cbv
 · have h0:(a.length:Int)>10:=h0;refine⟨?_,trivial⟩;exact(hb.trans (Gh (by omega))).symm
 have h0:¬(a.length:Int)>10:=h0;refine aW.by (X:=Nat) (fun i=>[(0,lA .aH a),(8,lA .aH a),(9,nT fun _=>a.length),(10,nT fun _=>i)]) (fun _=>[]) (fun i=>i≤a.length∧fI (a.take i)) (fun i _=>a.length - i) 0 ⟨Nat.zero_le _,by rw[List.take_zero]; exact fI.nil⟩ ?_ ?_
 · cbv
   repeat' first | exact trivial | refine⟨rfl, ?_⟩ | fail
 · intro i ⟨hi,hn⟩;cbv;refine Br.dec (fun h2=> ?_) (fun h2=> ?_) <;> cbv
   rotate_left
   · have h2:a.length≤i:=by simp at h2; omega
     refine⟨?_,trivial⟩;rw[List.take_of_length_le h2] at hn;simp only[nc] at *;exact(hb.trans (vi (by omega) hn)).symm
   have h2:i<a.length:=by simpa using h2
   have no:∀{c:Prop},(fI a→c)→¬c→b=false:=fun h1 h2=>hb.trans (Gg fun h=>h2 (h1 h));refine⟨a[i],by simp,get_cast a h2, ?_⟩;cbv;have tk:dx ((a.take ((i:Int)).toNat).drop ((0:Int)).toNat) a[i].bm=dx (a.take i) a[i].bm:=by simp
   refine Br.dec (fun k4=> ?_) (fun k4=> ?_) <;> cbv
   · have k4:(i:Int)>0:=k4;have h3:i - 1<a.length:=by omega
     have hc:((i:Int) - 1).toNat=i - 1:=by omega
     refine Ar.exact (by(try simp only[nc] at *); omega) (by(try simp only[nc] at *); omega) ?_;cbv;refine⟨a[i - 1],by(try simp only[nc] at *); omega,by simp only[nc]; rw[hc]; exact List.getElem?_eq_getElem h3, ?_⟩;cbv;refine ag.by hP (F5 a[i - 1] a[i]) ?_;cbv;refine Br.split (fun k5=> ?_) (fun k5=> ?_) <;> cbv
     · refine⟨?_,trivial⟩;exact(no (fun h=>(h.at_ h2).2.1 (by simp only[nc] at *; omega)) (by simpa using k5)).symm
     have k5:bd a[i - 1] a[i]=true:=by simpa using k5
     refine⟨⟨by simp,by simp only[nc] at *; omega,by simp only[nc] at *; omega⟩, ?_⟩;cbv;refine ag.by hP (Be ((a.take ((i:Int)).toNat).drop ((0:Int)).toNat) a[i].bm (dx (a.take i) a[i].bm) tk.symm) ?_;cbv;refine Br.dec (fun k6=> ?_) (fun k6=> ?_) <;> cbv
     · refine⟨?_,trivial⟩;have k6:dx (a.take i) a[i].bm≥0:=k6;exact(no (fun h=>(xH h2).2 (h.at_ h2).2.2) (by omega)).symm
     have k6:¬dx (a.take i) a[i].bm≥0:=k6;have k6:=(xH h2).1 (by omega);refine ag.by hP (m6 a[i].lvl 5 (by omega) (by omega)) ?_;cbv;refine Br.split (fun q0=> ?_) (fun q0=> ?_) <;> cbv
     · refine⟨?_,trivial⟩;exact(no (fun h=>(h.at_ h2).1) (by simp_all [ff])).symm
     refine ag.by hP (cI a[i].az 1 1000000) ?_;cbv;refine Br.split (fun q1=> ?_) (fun q1=> ?_) <;> cbv
     · refine⟨?_,trivial⟩;exact(no (fun h=>(h.at_ h2).1) (by simp_all [ff])).symm
     refine ag.by hP (cI a[i].bm 1 999) ?_;cbv;refine Br.split (fun q2=> ?_) (fun q2=> ?_) <;> cbv
     · refine⟨?_,trivial⟩;exact(no (fun h=>(h.at_ h2).1) (by simp_all [ff])).symm
     refine ag.by hP (cI a[i].au 1 6) ?_;cbv;refine Br.split (fun q3=> ?_) (fun q3=> ?_) <;> cbv
     · refine⟨?_,trivial⟩;exact(no (fun h=>(h.at_ h2).1) (by simp_all [ff])).symm
     have ok:ff a[i]=true:=by simp_all [ff]
     clear q0 q1 q2 q3;refine Ar.exact (by(try simp only[nc] at *); omega) (by(try simp only[nc] at *); omega) ?_;cbv;refine aO.by (i+1) ?_ ?_ ?_
     · show a.length - (i+1)<a.length - i;omega
     · exact⟨h2,hn.snoc h2 ok (fun _=>k5) k6⟩
     · cbv
       repeat' first | exact trivial | refine⟨rfl, ?_⟩ | fail
   · have k4:¬(i:Int)>0:=k4;refine⟨⟨by simp,by simp only[nc] at *; omega,by simp only[nc] at *; omega⟩, ?_⟩;cbv;refine ag.by hP (Be ((a.take ((i:Int)).toNat).drop ((0:Int)).toNat) a[i].bm (dx (a.take i) a[i].bm) tk.symm) ?_;cbv;refine Br.dec (fun k6=> ?_) (fun k6=> ?_) <;> cbv
     · refine⟨?_,trivial⟩;have k6:dx (a.take i) a[i].bm≥0:=k6;exact(no (fun h=>(xH h2).2 (h.at_ h2).2.2) (by omega)).symm
     have k6:¬dx (a.take i) a[i].bm≥0:=k6;have k6:=(xH h2).1 (by omega);refine ag.by hP (m6 a[i].lvl 5 (by omega) (by omega)) ?_;cbv;refine Br.split (fun q0=> ?_) (fun q0=> ?_) <;> cbv
     · refine⟨?_,trivial⟩;exact(no (fun h=>(h.at_ h2).1) (by simp_all [ff])).symm
     refine ag.by hP (cI a[i].az 1 1000000) ?_;cbv;refine Br.split (fun q1=> ?_) (fun q1=> ?_) <;> cbv
     · refine⟨?_,trivial⟩;exact(no (fun h=>(h.at_ h2).1) (by simp_all [ff])).symm
     refine ag.by hP (cI a[i].bm 1 999) ?_;cbv;refine Br.split (fun q2=> ?_) (fun q2=> ?_) <;> cbv
     · refine⟨?_,trivial⟩;exact(no (fun h=>(h.at_ h2).1) (by simp_all [ff])).symm
     refine ag.by hP (cI a[i].au 1 6) ?_;cbv;refine Br.split (fun q3=> ?_) (fun q3=> ?_) <;> cbv
     · refine⟨?_,trivial⟩;exact(no (fun h=>(h.at_ h2).1) (by simp_all [ff])).symm
     have ok:ff a[i]=true:=by simp_all [ff]
     clear q0 q1 q2 q3;refine Ar.exact (by(try simp only[nc] at *); omega) (by(try simp only[nc] at *); omega) ?_;cbv;refine aO.by (i+1) ?_ ?_ ?_
     · show a.length - (i+1)<a.length - i;omega
     · exact⟨h2,hn.snoc h2 ok (fun h=>absurd h (by simp only[nc] at *; omega)) k6⟩
     · cbv
       repeat' first | exact trivial | refine⟨rfl, ?_⟩ | fail
theorem Gi {a b:Entry} (Rf:a.lvl=b.lvl) (Rg:a.az=b.az) (Rh:a.bm=b.bm) (Ri:a.au=b.au):a=b:=by
 cases a; cases b; simp_all
theorem Gj {a b:ay} (Rj:a.tm=b.tm) (Rk:a.pid=b.pid):a=b:=by
 cases a; cases b; simp_all
theorem MV (a b:List Entry):Spec Tryz.prog 115 [lA .aH a,lA .aH b] (aM (bR fun _=>decide (a=b))):=by
 refine aN aD Tryz.func115 rfl rfl (fr:=true) (fun _=>by kernel_rfl) fun P hP hA=> ?_;obtain⟨⟨ha,_⟩,_⟩:=hA;have ha:a.length≤9223372036854775807:=ha;cbv;refine Br.split (fun h1=> ?_) (fun h1=> ?_) <;> cbv
 · refine⟨?_,trivial⟩;have:=vf (a:=a) (b:=b) h1;simp[this]
 have h1:=ve (a:=a) (b:=b) h1;refine aW.by (X:=Nat) (fun i=>[(0,lA .aH a),(1,lA .aH b),(5,nT fun _=>i)]) (fun _=>[]) (fun i=>i≤a.length∧a.take i=b.take i) (fun i _=>a.length - i) 0 ⟨Nat.zero_le _,by simp⟩ ?_ ?_
 · cbv
   repeat' first | exact trivial | refine⟨rfl, ?_⟩ | fail
 · intro i ⟨hi,ht⟩;cbv;refine Br.dec (fun h2=> ?_) (fun h2=> ?_) <;> cbv
   · have h2:i<a.length:=by simpa using h2
     have ig:i<b.length:=h1▸h2;refine⟨a[i],by simp,get_cast a h2, ?_⟩;cbv;refine⟨b[i],by simp,get_cast b ig, ?_⟩;cbv;refine Br.split (fun h3=> ?_) (fun h3=> ?_) <;> cbv
     · refine⟨?_,trivial⟩;have:=va h2 ig (fun he=>by rw[he] at h3; simp at h3);simp[this]
     · refine Ar.exact (by(try simp only[nc] at *); omega) (by(try simp only[nc] at *); omega) ?_;cbv;refine aO.by (i+1) ?_ ?_ ?_
       · show a.length - (i+1)<a.length - i;omega
       · refine⟨h2,u_ ht h2 ig ?_⟩;simp only[Bool.not_eq_false',Bool.and_eq_true,beq_iff_eq,Bool.and_true] at h3;exact(by obtain⟨g0,g1,g2,g3⟩:=h3; exact Gi g0 g1 g2 g3)
       · cbv
         repeat' first | exact trivial | refine⟨rfl, ?_⟩ | fail
   · refine⟨?_,trivial⟩;have h2:a.length≤i:=by simp at h2; omega
     simp[vd h1 h2 ht]
theorem MW (a b:List ay):Spec Tryz.prog 117 [lA .aI a,lA .aI b] (aM (bR fun _=>decide (a=b))):=by
 refine aN aD Tryz.func117 rfl rfl (fr:=true) (fun _=>by kernel_rfl) fun P hP hA=> ?_;obtain⟨⟨ha,_⟩,_⟩:=hA;have ha:a.length≤9223372036854775807:=ha;cbv;refine Br.split (fun h1=> ?_) (fun h1=> ?_) <;> cbv
 · refine⟨?_,trivial⟩;have:=vf (a:=a) (b:=b) h1;simp[this]
 have h1:=ve (a:=a) (b:=b) h1;refine aW.by (X:=Nat) (fun i=>[(0,lA .aI a),(1,lA .aI b),(5,nT fun _=>i)]) (fun _=>[]) (fun i=>i≤a.length∧a.take i=b.take i) (fun i _=>a.length - i) 0 ⟨Nat.zero_le _,by simp⟩ ?_ ?_
 · cbv
   repeat' first | exact trivial | refine⟨rfl, ?_⟩ | fail
 · intro i ⟨hi,ht⟩;cbv;refine Br.dec (fun h2=> ?_) (fun h2=> ?_) <;> cbv
   · have h2:i<a.length:=by simpa using h2
     have ig:i<b.length:=h1▸h2;refine⟨a[i],by simp,get_cast a h2, ?_⟩;cbv;refine⟨b[i],by simp,get_cast b ig, ?_⟩;cbv;refine Br.split (fun h3=> ?_) (fun h3=> ?_) <;> cbv
     · refine⟨?_,trivial⟩;have:=va h2 ig (fun he=>by rw[he] at h3; simp at h3);simp[this]
     · refine Ar.exact (by(try simp only[nc] at *); omega) (by(try simp only[nc] at *); omega) ?_;cbv;refine aO.by (i+1) ?_ ?_ ?_
       · show a.length - (i+1)<a.length - i;omega
       · refine⟨h2,u_ ht h2 ig ?_⟩;simp only[Bool.not_eq_false',Bool.and_eq_true,beq_iff_eq,Bool.and_true] at h3;exact(by obtain⟨g0,g1⟩:=h3; exact Gj g0 g1)
       · cbv
         repeat' first | exact trivial | refine⟨rfl, ?_⟩ | fail
   · refine⟨?_,trivial⟩;have h2:a.length≤i:=by simp at h2; omega
     simp[vd h1 h2 ht]
theorem MX (a b:List Entry):Spec Tryz.prog 123 [lA .aH a,lA .aH b] (aM (bR fun _=>decide (a=b))):=by
 refine aN aD Tryz.func123 rfl rfl (fr:=true) (fun _=>by kernel_rfl) fun P hP hA=> ?_;obtain⟨⟨ha,_⟩,_⟩:=hA;have ha:a.length≤9223372036854775807:=ha;cbv;refine Br.split (fun h1=> ?_) (fun h1=> ?_) <;> cbv
 · refine⟨?_,trivial⟩;have:=vf (a:=a) (b:=b) h1;simp[this]
 have h1:=ve (a:=a) (b:=b) h1;refine aW.by (X:=Nat) (fun i=>[(0,lA .aH a),(1,lA .aH b),(12,nT fun _=>a.length),(13,nT fun _=>i)]) (fun _=>[]) (fun i=>i≤a.length∧a.take i=b.take i) (fun i _=>a.length - i) 0 ⟨Nat.zero_le _,by simp⟩ ?_ ?_
 · cbv
   repeat' first | exact trivial | refine⟨rfl, ?_⟩ | fail
 · intro i ⟨hi,ht⟩;cbv;refine Br.dec (fun h2=> ?_) (fun h2=> ?_) <;> cbv
   · have h2:i<a.length:=by simpa using h2
     have ig:i<b.length:=h1▸h2;refine⟨a[i],by simp,get_cast a h2, ?_⟩;cbv;refine⟨b[i],by simp,get_cast b ig, ?_⟩;cbv;refine Br.split (fun h3=> ?_) (fun h3=> ?_) <;> cbv
     · refine⟨?_,trivial⟩;have:=va h2 ig (fun he=>by rw[he] at h3; simp at h3);simp[this]
     · refine Ar.exact (by(try simp only[nc] at *); omega) (by(try simp only[nc] at *); omega) ?_;cbv;refine aO.by (i+1) ?_ ?_ ?_
       · show a.length - (i+1)<a.length - i;omega
       · refine⟨h2,u_ ht h2 ig ?_⟩;simp only[Bool.not_eq_false',Bool.and_eq_true,beq_iff_eq,Bool.and_true] at h3;exact(by obtain⟨g0,g1,g2,g3⟩:=h3; exact Gi g0 g1 g2 g3)
       · cbv
         repeat' first | exact trivial | refine⟨rfl, ?_⟩ | fail
   · refine⟨?_,trivial⟩;have h2:a.length≤i:=by simp at h2; omega
     simp[vd h1 h2 ht]
theorem MY (a b:List ay):Spec Tryz.prog 125 [lA .aI a,lA .aI b] (aM (bR fun _=>decide (a=b))):=by
 refine aN aD Tryz.func125 rfl rfl (fr:=true) (fun _=>by kernel_rfl) fun P hP hA=> ?_;obtain⟨⟨ha,_⟩,_⟩:=hA;have ha:a.length≤9223372036854775807:=ha;cbv;refine Br.split (fun h1=> ?_) (fun h1=> ?_) <;> cbv
 · refine⟨?_,trivial⟩;have:=vf (a:=a) (b:=b) h1;simp[this]
 have h1:=ve (a:=a) (b:=b) h1;refine aW.by (X:=Nat) (fun i=>[(0,lA .aI a),(1,lA .aI b),(12,nT fun _=>a.length),(13,nT fun _=>i)]) (fun _=>[]) (fun i=>i≤a.length∧a.take i=b.take i) (fun i _=>a.length - i) 0 ⟨Nat.zero_le _,by simp⟩ ?_ ?_
 · cbv
   repeat' first | exact trivial | refine⟨rfl, ?_⟩ | fail
 · intro i ⟨hi,ht⟩;cbv;refine Br.dec (fun h2=> ?_) (fun h2=> ?_) <;> cbv
   · have h2:i<a.length:=by simpa using h2
     have ig:i<b.length:=h1▸h2;refine⟨a[i],by simp,get_cast a h2, ?_⟩;cbv;refine⟨b[i],by simp,get_cast b ig, ?_⟩;cbv;refine Br.split (fun h3=> ?_) (fun h3=> ?_) <;> cbv
     · refine⟨?_,trivial⟩;have:=va h2 ig (fun he=>by rw[he] at h3; simp at h3);simp[this]
     · refine Ar.exact (by(try simp only[nc] at *); omega) (by(try simp only[nc] at *); omega) ?_;cbv;refine aO.by (i+1) ?_ ?_ ?_
       · show a.length - (i+1)<a.length - i;omega
       · refine⟨h2,u_ ht h2 ig ?_⟩;simp only[Bool.not_eq_false',Bool.and_eq_true,beq_iff_eq,Bool.and_true] at h3;exact(by obtain⟨g0,g1⟩:=h3; exact Gj g0 g1)
       · cbv
         repeat' first | exact trivial | refine⟨rfl, ?_⟩ | fail
   · refine⟨?_,trivial⟩;have h2:a.length≤i:=by simp at h2; omega
     simp[vd h1 h2 ht]
theorem Bi (a:List Entry) (hn:a.length≤aS):Spec Tryz.prog 201 [lA .aH a] (aM (lR .aH fun _=>a)):=by
 refine aN aD Tryz.func201 rfl rfl (fr:=true) (fun _=>by kernel_rfl) fun P hP hA=> ?_;have hn:a.length≤1048576:=hn;cbv;refine⟨by show(0+a.length)*32≤140737488355328; omega, ?_⟩;cbv
 repeat' first | exact trivial | refine⟨rfl, ?_⟩ | fail
theorem xI {α:Type} {lt:α→α→Bool} {l:List α} {e:α} {i:Nat} (hn:∀(j:Nat) y,j<i→l[j]? = some y→lt y e=true) (h:∀y,l[i]? = some y→lt y e=false):l.take i ++ [e]++l.drop i=bE lt e l:=by
 rw[zb hn h]; simp
theorem Gk (a:List Entry) (e:Entry) (hn:a.length≤aS):Spec Tryz.prog 179 [lA .aH a,eA .aH e] (aM (lR .aH fun _=>bE bd e a)):=by
 refine aN aD Tryz.func179 rfl rfl (fr:=true) (fun _=>by kernel_rfl) fun P hP hA=> ?_;have hs:a.length≤1048576:=hn;cbv;refine aW.by (X:=Nat) (fun i=>[(0,lA .aH a),(3,pN 0),(5,nT fun _=>i)]) (fun _=>[(0, .box ((bH .aH fun _=>e).map .lf))]) (fun i=>i≤a.length∧∀(j:Nat) y,j<i→a[j]? = some y→bd y e=true) (fun i _=>a.length - i) 0 ⟨Nat.zero_le _,fun j y hj=>by omega⟩ ?_ ?_
 · cbv
   repeat' first | exact trivial | refine⟨rfl, ?_⟩ | fail
 · intro i ⟨hi,hx⟩;cbv;refine Br.dec (fun h2=> ?_) (fun h2=> ?_) <;> cbv
   · have h2:i<a.length:=by simpa using h2
     refine⟨a[i],by simp,get_cast a h2, ?_⟩;cbv;refine ag.by hP (F3 a[i] e) ?_;cbv;refine Br.split (fun h3=> ?_) (fun h3=> ?_) <;> cbv
     · refine Ar.exact (by(try simp only[nc] at *); omega) (by(try simp only[nc] at *); omega) ?_;cbv;refine aO.by (i+1) ?_ ?_ ?_
       · show a.length - (i+1)<a.length - i;omega
       · exact⟨h2,gy h2 hx h3⟩
       · cbv
         repeat' first | exact trivial | refine⟨rfl, ?_⟩ | fail
     · have hf:∀y,a[i]? = some y→bd y e=false:=fun y hy=>by
         rw[List.getElem?_eq_getElem h2] at hy; cases hy; exact h3
       have m_:i≤a.length:=hi;refine⟨⟨by simp,by simp only[nc] at *; omega,by simp only[nc] at *; omega⟩, ?_⟩;cbv;have tk:(a.take ((i:Int)).toNat).drop ((0:Int)).toNat=a.take i:=by simp
       have dp:(a.take (a.length:Int).toNat).drop ((i:Int)).toNat=a.drop i:=by simp
       have o1:(List.length ((a.take ((i:Int)).toNat).drop ((0:Int)).toNat)+1)*32≤140737488355328:=by rw[tk,List.length_take]; omega
       have o2:(List.length ((a.take ((i:Int)).toNat).drop ((0:Int)).toNat ++ [e])+List.length ((a.take (a.length:Int).toNat).drop ((i:Int)).toNat))*32≤140737488355328:=by rw[tk,dp,List.length_append,List.length_take,List.length_drop]; simp; omega
       have fin:(a.take ((i:Int)).toNat).drop ((0:Int)).toNat ++ [e]++(a.take (a.length:Int).toNat).drop ((i:Int)).toNat=bE bd e a:=by rw[tk,dp]; exact xI hx hf
       have os:0≤(i:Int)∧(i:Int)≤(a.length:Int)∧(a.length:Int)≤(a.length:Int):=⟨by omega,by omega,by omega⟩
       repeat' first
         | (refine ag.by hP (Bi ((a.take ((i:Int)).toNat).drop ((0:Int)).toNat) (by rw[tk,List.length_take]; show _≤1048576; omega)) ?_; cbv)
         | (refine Ob.mk (by first | exact o1 | exact o2 | exact os) ?_; cbv)
         | refine And.intro ?_ ?_
         | exact⟨fin,trivial⟩
         | fail
   · have h2:a.length≤i:=by simp at h2; omega
     have m_:i≤a.length:=hi
     have hf:∀y,a[i]? = some y→bd y e=false:=fun y hy=>by
       rw[List.getElem?_eq_none h2] at hy; cases hy
     refine⟨⟨by simp,by simp only[nc] at *; omega,by simp only[nc] at *; omega⟩, ?_⟩;cbv;have tk:(a.take ((i:Int)).toNat).drop ((0:Int)).toNat=a.take i:=by simp
     have dp:(a.take (a.length:Int).toNat).drop ((i:Int)).toNat=a.drop i:=by simp
     have o1:(List.length ((a.take ((i:Int)).toNat).drop ((0:Int)).toNat)+1)*32≤140737488355328:=by rw[tk,List.length_take]; omega
     have o2:(List.length ((a.take ((i:Int)).toNat).drop ((0:Int)).toNat ++ [e])+List.length ((a.take (a.length:Int).toNat).drop ((i:Int)).toNat))*32≤140737488355328:=by rw[tk,dp,List.length_append,List.length_take,List.length_drop]; simp; omega
     have fin:(a.take ((i:Int)).toNat).drop ((0:Int)).toNat ++ [e]++(a.take (a.length:Int).toNat).drop ((i:Int)).toNat=bE bd e a:=by rw[tk,dp]; exact xI hx hf
     have os:0≤(i:Int)∧(i:Int)≤(a.length:Int)∧(a.length:Int)≤(a.length:Int):=⟨by omega,by omega,by omega⟩
     repeat' first
       | (refine ag.by hP (Bi ((a.take ((i:Int)).toNat).drop ((0:Int)).toNat) (by rw[tk,List.length_take]; show _≤1048576; omega)) ?_; cbv)
       | (refine Ob.mk (by first | exact o1 | exact o2 | exact os) ?_; cbv)
       | refine And.intro ?_ ?_
       | exact⟨fin,trivial⟩
       | fail
theorem Bj (a:List ay) (e:ay) (hn:a.length≤aS):Spec Tryz.prog 181 [lA .aI a,eA .aI e] (aM (lR .aI fun _=>bE bf e a)):=by
 refine aN aD Tryz.func181 rfl rfl (fr:=true) (fun _=>by kernel_rfl) fun P hP hA=> ?_;have hs:a.length≤1048576:=hn;cbv;refine aW.by (X:=Nat) (fun i=>[(0,lA .aI a),(3,pN 0),(5,nT fun _=>i)]) (fun _=>[(0, .box ((bH .aI fun _=>e).map .lf))]) (fun i=>i≤a.length∧∀(j:Nat) y,j<i→a[j]? = some y→bf y e=true) (fun i _=>a.length - i) 0 ⟨Nat.zero_le _,fun j y hj=>by omega⟩ ?_ ?_
 · cbv
   repeat' first | exact trivial | refine⟨rfl, ?_⟩ | fail
 · intro i ⟨hi,hx⟩;cbv;refine Br.dec (fun h2=> ?_) (fun h2=> ?_) <;> cbv
   · have h2:i<a.length:=by simpa using h2
     refine⟨a[i],by simp,get_cast a h2, ?_⟩;cbv;refine ag.by hP (F6 a[i] e) ?_;cbv;refine Br.split (fun h3=> ?_) (fun h3=> ?_) <;> cbv
     · refine Ar.exact (by(try simp only[nc] at *); omega) (by(try simp only[nc] at *); omega) ?_;cbv;refine aO.by (i+1) ?_ ?_ ?_
       · show a.length - (i+1)<a.length - i;omega
       · exact⟨h2,gy h2 hx h3⟩
       · cbv
         repeat' first | exact trivial | refine⟨rfl, ?_⟩ | fail
     · have hf:∀y,a[i]? = some y→bf y e=false:=fun y hy=>by
         rw[List.getElem?_eq_getElem h2] at hy; cases hy; exact h3
       have m_:i≤a.length:=hi;refine⟨⟨by simp,by simp only[nc] at *; omega,by simp only[nc] at *; omega⟩, ?_⟩;cbv;have tk:(a.take ((i:Int)).toNat).drop ((0:Int)).toNat=a.take i:=by simp
       refine⟨by show(0+List.length ((a.take ((i:Int)).toNat).drop ((0:Int)).toNat))*16≤140737488355328; rw[tk,List.length_take]; omega, ?_⟩;cbv;refine⟨by show(List.length ([]++(a.take ((i:Int)).toNat).drop ((0:Int)).toNat)+1)*16≤140737488355328; rw[tk,List.nil_append,List.length_take]; omega, ?_⟩;cbv;refine⟨⟨by simp,by simp only[nc] at *; omega,by simp⟩, ?_⟩;cbv;have dp:(a.take (a.length:Int).toNat).drop ((i:Int)).toNat=a.drop i:=by simp
       refine⟨by show(List.length ([]++(a.take ((i:Int)).toNat).drop ((0:Int)).toNat ++ [e])+List.length ((a.take (a.length:Int).toNat).drop ((i:Int)).toNat))*16≤140737488355328; rw[tk,dp,List.nil_append,List.length_append,List.length_take,List.length_drop]; simp; omega, ?_⟩;cbv;refine⟨?_,trivial⟩;show[]++(a.take ((i:Int)).toNat).drop ((0:Int)).toNat ++ [e]++(a.take (a.length:Int).toNat).drop ((i:Int)).toNat=bE bf e a;rw[tk,dp,List.nil_append];exact xI hx hf
   · have h2:a.length≤i:=by simp at h2; omega
     have m_:i≤a.length:=hi
     have hf:∀y,a[i]? = some y→bf y e=false:=fun y hy=>by
       rw[List.getElem?_eq_none h2] at hy; cases hy
     refine⟨⟨by simp,by simp only[nc] at *; omega,by simp only[nc] at *; omega⟩, ?_⟩;cbv;have tk:(a.take ((i:Int)).toNat).drop ((0:Int)).toNat=a.take i:=by simp
     refine⟨by show(0+List.length ((a.take ((i:Int)).toNat).drop ((0:Int)).toNat))*16≤140737488355328; rw[tk,List.length_take]; omega, ?_⟩;cbv;refine⟨by show(List.length ([]++(a.take ((i:Int)).toNat).drop ((0:Int)).toNat)+1)*16≤140737488355328; rw[tk,List.nil_append,List.length_take]; omega, ?_⟩;cbv;refine⟨⟨by simp,by simp only[nc] at *; omega,by simp⟩, ?_⟩;cbv;have dp:(a.take (a.length:Int).toNat).drop ((i:Int)).toNat=a.drop i:=by simp
     refine⟨by show(List.length ([]++(a.take ((i:Int)).toNat).drop ((0:Int)).toNat ++ [e])+List.length ((a.take (a.length:Int).toNat).drop ((i:Int)).toNat))*16≤140737488355328; rw[tk,dp,List.nil_append,List.length_append,List.length_take,List.length_drop]; simp; omega, ?_⟩;cbv;refine⟨?_,trivial⟩;show[]++(a.take ((i:Int)).toNat).drop ((0:Int)).toNat ++ [e]++(a.take (a.length:Int).toNat).drop ((i:Int)).toNat=bE bf e a;rw[tk,dp,List.nil_append];exact xI hx hf
end Go.Proofs.YtpklefhdkkegiaaGreat

