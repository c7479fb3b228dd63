/- Parts of a proof. No conditions. -/

import Derived.Test.YtpklefhdkkegiaaGreatGTab
set_option linter.unusedSimpArgs false
set_option linter.unusedVariables false
namespace Go.Proofs.YtpklefhdkkegiaaGreat
open Go
def iT (t:Unit→Int):V:= .c (.lf (.int .i64 t))
def lT (E:av) (t:Unit→List E.α):V:= .c (.lf (.list E t))
def oN (k:Nat):V:= .c (.own k)
def pN (k:Nat):V:= .c (.ptr k 0)
def aH (E:av) (t:Unit→List E.α):an:= .own E t false
section
variable {α : Type}
theorem nO {a b:List α} {i:Nat} (h:a.take i=b.take i) (ha:i<a.length) (hb:i<b.length) (he:a[i]=b[i]):a.take (i+1)=b.take (i+1):=by
 rw[List.take_add_one,List.take_add_one,h,List.getElem?_eq_getElem ha,List.getElem?_eq_getElem hb,he]
theorem nP {a b:List α} {i:Nat} (ha:i<a.length) (hb:i<b.length) (he:a[i]≠b[i]):a≠b:=fun h=>by
 subst h; exact he rfl
theorem nQ {a b:List α} (hl:a.length=b.length) {i:Nat} (hi:a.length≤i) (h:a.take i=b.take i):a=b:=by
 rwa [List.take_of_length_le hi,List.take_of_length_le (by omega)] at h
theorem m6 {a b:List α} (h:(((a.length:Nat):Int) != ((b.length:Nat):Int))=false):a.length=b.length:=by
 simp at h; omega
theorem m7 {a b:List α} (h:(((a.length:Nat):Int) != ((b.length:Nat):Int))=true):a≠b:=by
 intro he; subst he; simp at h
theorem get_cast (xs:List α) {i:Nat} (h:i<xs.length):xs[((i:Int)).toNat]? = some xs[i]:=by
 rw[Int.toNat_natCast]; exact List.getElem?_eq_getElem h
end
def aN:Nat:=1048576
def nT (t:Unit→Nat):V:= .c (.lf (.int .i64 fun _=>((t ():Nat):Int)))
def nR (t:Unit→Nat):dg:=iR fun _=>((t ():Nat):Int)
set_option maxRecDepth 100000
theorem As (a b:List Int):Spec Tryz.prog 75 [lA .int a,lA .int b] (aG (bR fun _=>decide (a=b))):=by
 refine aF au Tryz.func75 rfl rfl (fr:=true) (fun _=>by kernel_rfl) fun P hP hA=> ?_;obtain⟨⟨ha,_⟩,_⟩:=hA;have ha:a.length≤9223372036854775807:=ha;cbv;refine Br.split (fun h1=> ?_) (fun h1=> ?_) <;> cbv
 · refine⟨?_,trivial⟩;have:=m7 (a:=a) (b:=b) h1;simp[this]
 have h1:=m6 (a:=a) (b:=b) h1;refine aR.by (X:=Nat) (fun i=>[(0,lA .int a),(1,lA .int b),(5,iT fun _=>i)]) (fun _=>[]) (fun i=>i≤a.length∧a.take i=b.take i) (fun i _=>a.length - i) 0 ⟨Nat.zero_le _,by simp⟩ ?_ ?_
 · cbv; exact⟨rfl,rfl,rfl,trivial⟩
 · intro i ⟨hi,ht⟩;cbv;refine Br.dec (fun h2=> ?_) (fun h2=> ?_) <;> cbv
   · have h2:i<a.length:=by simpa using h2
     refine⟨a[i],by simp,get_cast a h2, ?_⟩;cbv;refine⟨b[i],by simp,get_cast b (h1▸h2), ?_⟩;cbv;refine Br.split (fun h3=> ?_) (fun h3=> ?_) <;> cbv
     · refine⟨?_,trivial⟩;have:=nP h2 (h1▸h2) (by simpa using h3);simp[this]
     · refine Ar.exact ?_ ?_ ?_
       · show -9223372036854775808≤(i:Int)+1;omega
       · show(i:Int)+1≤9223372036854775807;omega
       cbv;refine aL.by (i+1) ?_ ?_ ?_
       · show a.length - (i+1)<a.length - i;omega
       · exact⟨h2,nO ht h2 (h1▸h2) (by simpa using h3)⟩
       · cbv; exact⟨rfl,rfl,rfl,trivial⟩
   · refine⟨?_,trivial⟩;have h2:a.length≤i:=by simp at h2; omega
     simp[nQ h1 h2 ht]
theorem DX (a b:List Int):Spec Tryz.prog 62 [lA .int a,lA .int b] (aG (bR fun _=>decide (a=b))):=by
 refine aF au Tryz.func62 rfl rfl (fr:=true) (fun _=>by kernel_rfl) fun P hP hA=> ?_;obtain⟨⟨ha,_⟩,_⟩:=hA;have ha:a.length≤9223372036854775807:=ha;cbv;refine Br.split (fun h1=> ?_) (fun h1=> ?_) <;> cbv
 · refine⟨?_,trivial⟩;have:=m7 (a:=a) (b:=b) h1;simp[this]
 have h1:=m6 (a:=a) (b:=b) h1;refine aR.by (X:=Nat) (fun i=>[(0,lA .int a),(1,lA .int b),(12,iT fun _=>a.length),(13,iT fun _=>i)]) (fun _=>[]) (fun i=>i≤a.length∧a.take i=b.take i) (fun i _=>a.length - i) 0 ⟨Nat.zero_le _,by simp⟩ ?_ ?_
 · cbv; exact⟨rfl,rfl,rfl,rfl,trivial⟩
 · intro i ⟨hi,ht⟩;cbv;refine Br.dec (fun h2=> ?_) (fun h2=> ?_) <;> cbv
   · have h2:i<a.length:=by simpa using h2
     refine⟨a[i],by simp,get_cast a h2, ?_⟩;cbv;refine⟨b[i],by simp,get_cast b (h1▸h2), ?_⟩;cbv;refine Br.split (fun h3=> ?_) (fun h3=> ?_) <;> cbv
     · refine⟨?_,trivial⟩;have:=nP h2 (h1▸h2) (by simpa using h3);simp[this]
     · refine Ar.exact ?_ ?_ ?_
       · show -9223372036854775808≤(i:Int)+1;omega
       · show(i:Int)+1≤9223372036854775807;omega
       cbv;refine aL.by (i+1) ?_ ?_ ?_
       · show a.length - (i+1)<a.length - i;omega
       · exact⟨h2,nO ht h2 (h1▸h2) (by simpa using h3)⟩
       · cbv; exact⟨rfl,rfl,rfl,rfl,trivial⟩
   · refine⟨?_,trivial⟩;have h2:a.length≤i:=by simp at h2; omega
     simp[nQ h1 h2 ht]
theorem At (n lo hi:Int):Spec Tryz.prog 54 [iA n,iA lo,iA hi] (aG (bR fun _=>(decide (lo≤n) && decide (n≤hi)))):=by
 refine aF au Tryz.func54 rfl rfl (fr:=true) (fun _=>by kernel_rfl) fun P hP hA=> ?_;cbv;refine Br.dec (fun h1=> ?_) (fun h1=> ?_) <;> cbv
 · refine⟨?_,trivial⟩;simp[h1]
 · refine⟨?_,trivial⟩;simp[h1]
theorem Au (n lo hi:Int):Spec Tryz.prog 49 [iA n,iA lo,iA hi] (aG (bR fun _=>(decide (lo≤n) && decide (n≤hi)))):=by
 refine aF au Tryz.func49 rfl rfl (fr:=true) (fun _=>by kernel_rfl) fun P hP hA=> ?_;cbv;refine Br.dec (fun h1=> ?_) (fun h1=> ?_) <;> cbv
 · refine⟨?_,trivial⟩;simp[h1]
 · refine⟨?_,trivial⟩;simp[h1]
theorem Jr (n sz:Int) (h0:0≤sz) (h1:sz≤9223372036854775807):Spec Tryz.prog 58 [iA n,iA sz] (aG (bR fun _=>(decide (0≤n) && decide (n<sz)))):=by
 refine aF au Tryz.func58 rfl rfl (fr:=true) (fun _=>by kernel_rfl) fun P hP hA=> ?_;cbv;refine Ar.exact ?_ ?_ ?_
 · show -9223372036854775808≤sz - 1;omega
 · show sz - 1≤_;omega
 cbv;refine af.by hP (At _ _ _) ?_;cbv;refine⟨?_,trivial⟩;rw[Bool.eq_iff_iff]; simp only[Bool.and_eq_true,decide_eq_true_eq]; omega
def ak (n lo hi:Int):Bool:=decide (lo≤n) && decide (n≤hi)
theorem bD {n lo hi:Int} (h:ak n lo hi=true):lo≤n∧n≤hi:=by simpa [ak] using h
theorem di (n lo hi:Int):Spec Tryz.prog 54 [iA n,iA lo,iA hi] (aG (bR fun _=>ak n lo hi)):=At n lo hi
theorem dn (n lo hi:Int):Spec Tryz.prog 49 [iA n,iA lo,iA hi] (aG (bR fun _=>ak n lo hi)):=Au n lo hi
def field (n:Int):Bool:=decide (0≤n) && decide (n≤9999)
theorem Qh (n:Int):Spec Tryz.prog 170 [iA n] (aG (bR fun _=>field n)):=by
 refine aF au Tryz.func170 rfl rfl (fr:=true) (fun _=>by kernel_rfl) fun P hP hA=> ?_;cbv;refine af.by hP (Au _ _ _) ?_;cbv;exact⟨rfl,trivial⟩
theorem Qi (n:Int):Spec Tryz.prog 173 [iA n] (aG (bR fun _=>field n)):=by
 refine aF au Tryz.func173 rfl rfl (fr:=true) (fun _=>by kernel_rfl) fun P hP hA=> ?_;cbv;refine af.by hP (At _ _ _) ?_;cbv;exact⟨rfl,trivial⟩
def eo (q:bS):Bool:=
 if q.kind=1 then field q.id && field q.ag && (decide (-1≤q.al) && decide (q.al≤9999)) && field q.aj && field q.aO
 else if q.kind=2∨q.kind=4∨q.kind=5∨q.kind=7 then field q.id && (q.ag == 0 && (q.al == 0 && (q.aj == 0 && q.aO == 0)))
 else if q.kind=3 then field q.ag && field q.aj && (q.id == 0 && (q.al == 0 && q.aO == 0))
 else if q.kind=6 then q.id == 0 && (q.ag == 0 && (q.al == 0 && (q.aj == 0 && q.aO == 0)))
 else false
theorem Qj (q:bS) (b:Bool) (hb:b=eo q):Spec Tryz.prog 94 [eA .da q] (aG (bR fun _=>b)):=by
 refine aF au Tryz.func94 rfl rfl (fr:=true) (fun _=>by kernel_rfl) fun P hP hA=> ?_;subst hb;cbv
 repeat' first
  | (refine af.by hP (Qh _) ?_; cbv)
  | (refine af.by hP (Au _ _ _) ?_; cbv)
  | (refine Br.split (fun h=> ?_) (fun h=> ?_) <;> cbv)
 all_goals refine⟨?_,trivial⟩
 all_goals first
  | (simp_all [eo]; done)
  | (simp_all [eo]; intro a b; have:=h a; omega)
theorem Qk (q:bS) (b:Bool) (hb:b=eo q):Spec Tryz.prog 103 [eA .da q] (aG (bR fun _=>b)):=by
 refine aF au Tryz.func103 rfl rfl (fr:=true) (fun _=>by kernel_rfl) fun P hP hA=> ?_;subst hb;cbv
 repeat' first
  | (refine af.by hP (Qi _) ?_; cbv)
  | (refine af.by hP (At _ _ _) ?_; cbv)
  | (refine Br.split (fun h=> ?_) (fun h=> ?_) <;> cbv)
 all_goals refine⟨?_,trivial⟩
 all_goals first
  | (simp_all [eo]; done)
  | (simp_all [eo]; intro a b; have:=h a; omega)
end Go.Proofs.YtpklefhdkkegiaaGreat

