/- Parts of a proof. No conditions. -/

import Derived.Test.YtpklefhdkkegiaaGreatGRetX
import Derived.Test.YtpklefhdkkegiaaGreatG04
import Derived.Test.YtpklefhdkkegiaaGreatG06
import Derived.Test.YtpklefhdkkegiaaGreatG08
import Derived.Test.YtpklefhdkkegiaaGreatG19
import Derived.Test.YtpklefhdkkegiaaGreatG05
import Derived.Test.YtpklefhdkkegiaaGreatG09
set_option linter.unusedSimpArgs false
set_option linter.unusedVariables false
namespace Go.Proofs.YtpklefhdkkegiaaGreat
open Go
set_option maxRecDepth 100000
theorem uu {code:List UInt8} (h:¬(code.length:Int)>1048576):code.length≤aN:=by
 show code.length≤1048576;omega
theorem qQ {E:av} {xs:List E.α} {k:Unit→Nat} {i:Nat} (hk:k ()=i) {x:E.α} (hx:xs[i]? = some x):bM E (fun _=>xs) k ()=x:=by
 show xs.getD (k ()) E.mE=x;rw[hk,List.getD_eq_getElem?_getD,hx]; rfl
theorem FQ {E:av} {xs:List E.α} {k:Unit→Nat} (h:k ()<xs.length):bM E (fun _=>xs) k ()∈xs:=by
 show xs.getD (k ()) E.mE∈xs;rw[List.getD_eq_getElem?_getD,List.getElem?_eq_getElem h];exact List.getElem_mem h
theorem uv (code:List UInt8):Spec Tryz.prog 11 [lA .byte code] (aG (bR fun _=>decide ((code.length:Int)>1048576))):=by
 refine aF au Tryz.func11 rfl rfl (fr:=true) (fun _=>by kernel_rfl) fun P hP hA=> ?_;cbv
 repeat' first | exact trivial | refine⟨rfl, ?_⟩ | fail
theorem FR (a:List Int) (x:Int) (hn:a.length≤aN):Spec Tryz.prog 17 [lA .int a,iA x] (aG (nR fun _=>a.count x)):=by
 refine aF au Tryz.func17 rfl rfl (fr:=true) (fun _=>by kernel_rfl) fun P hP hA=> ?_;have kE:a.length≤1048576:=hn;cbv;refine aR.by (X:=Nat × Nat) (fun p=>[(0,lA .int a),(1,iA x),(5,nT fun _=>p.1),(6,nT fun _=>p.2)]) (fun _=>[]) (fun p=>p.2≤a.length∧p.1≤p.2∧p.1+(a.drop p.2).count x=a.count x) (fun p _=>a.length - p.2) (0,0) ⟨Nat.zero_le _,Nat.le_refl _,Nat.zero_add _⟩ ?_ ?_
 · cbv
   repeat' first | exact trivial | refine⟨rfl, ?_⟩ | fail
 · rintro ⟨c,i⟩ ⟨hi,hc,he⟩
   have hi:i≤a.length:=hi;have hc:c≤i:=hc;have he:c+(a.drop i).count x=a.count x:=he;have r1: -9223372036854775808≤(c:Int)+1:=by omega
   have r2:(c:Int)+1≤9223372036854775807:=by omega
   have r3: -9223372036854775808≤(i:Int)+1:=by omega
   have r4:(i:Int)+1≤9223372036854775807:=by omega
   cbv;refine Br.dec (fun h2=> ?_) (fun h2=> ?_) <;> cbv
   · have h2:i<a.length:=by simpa using h2
     rw[List.drop_eq_getElem_cons h2,List.count_cons] at he;obtain⟨v,hv⟩:∃v,v=a[i]:=⟨_,rfl⟩;rw[←hv] at he;refine⟨v,by simp,by rw[hv]; exact get_cast a h2, ?_⟩;cbv;refine Br.dec (fun h3=> ?_) (fun h3=> ?_) <;> cbv
     · have h3:v=x:=h3;rw[h3] at he;simp at he;refine Ar.exact r1 r2 ?_;cbv;refine Ar.exact r3 r4 ?_;cbv;refine aL.by (c+1,i+1) ?_ ?_ ?_
       · show a.length - (i+1)<a.length - i;omega
       · exact⟨h2,Nat.succ_le_succ hc,by show c+1+(a.drop (i+1)).count x=a.count x; omega⟩
       · cbv
         repeat' first | exact trivial | refine⟨rfl, ?_⟩ | fail
     · have h3:¬v=x:=h3;simp[h3] at he;refine Ar.exact r3 r4 ?_;cbv;refine aL.by (c,i+1) ?_ ?_ ?_
       · show a.length - (i+1)<a.length - i;omega
       · exact⟨h2,Nat.le_succ_of_le hc,he⟩
       · cbv
         repeat' first | exact trivial | refine⟨rfl, ?_⟩ | fail
   · have h2:¬i<a.length:=by simpa using h2
     rw[List.drop_of_length_le (by omega)] at he;refine⟨?_,trivial⟩;show((c:Nat):Int)=((a.count x:Nat):Int);rw[←he];rfl
theorem U5 (a:List Int) (x:Int) (hn:a.length≤aN) (b:Bool) (hb:b=hasB a x):Spec Tryz.prog 35 [lA .int a,iA x] (aG (bR fun _=>b)):=by
 refine aF au Tryz.func35 rfl rfl (fr:=true) (fun _=>by kernel_rfl) fun P hP hA=> ?_;cbv;refine af.by hP (FR a x hn) ?_;cbv;refine⟨?_,trivial⟩;show decide (0<((a.count x:Nat):Int))=b;have e:hasB a x=true↔x∈a:=by simp[hasB]
 rw[hb,Bool.eq_iff_iff,decide_eq_true_eq,e,←List.count_pos_iff];omega
theorem BA (a b:List Int):Spec Tryz.prog 27 [lA .int a,lA .int b] (aG (bR fun _=>decide (a=b))):=by
 refine aF au Tryz.func27 rfl rfl (fr:=true) (fun _=>by kernel_rfl) fun P hP hA=> ?_;obtain⟨⟨ha,_⟩,_⟩:=hA;have ha:a.length≤9223372036854775807:=ha;cbv;refine Br.split (fun h1=> ?_) (fun h1=> ?_) <;> cbv
 · refine⟨?_,trivial⟩;have:=m7 (a:=a) (b:=b) h1;simp[this]
 have h1:=m6 (a:=a) (b:=b) h1;refine aR.by (X:=Nat) (fun i=>[(0,lA .int a),(1,lA .int b),(5,iT fun _=>i)]) (fun _=>[]) (fun i=>i≤a.length∧a.take i=b.take i) (fun i _=>a.length - i) 0 ⟨Nat.zero_le _,by simp⟩ ?_ ?_
 · cbv; exact⟨rfl,rfl,rfl,trivial⟩
 · intro i ⟨hi,ht⟩;cbv;refine Br.dec (fun h2=> ?_) (fun h2=> ?_) <;> cbv
   · have h2:i<a.length:=by simpa using h2
     refine⟨a[i],by simp,get_cast a h2, ?_⟩;cbv;refine⟨b[i],by simp,get_cast b (h1▸h2), ?_⟩;cbv;refine Br.split (fun h3=> ?_) (fun h3=> ?_) <;> cbv
     · refine⟨?_,trivial⟩;have:=nP h2 (h1▸h2) (by simpa using h3);simp[this]
     · refine Ar.exact ?_ ?_ ?_
       · show -9223372036854775808≤(i:Int)+1;omega
       · show(i:Int)+1≤9223372036854775807;omega
       cbv;refine aL.by (i+1) ?_ ?_ ?_
       · show a.length - (i+1)<a.length - i;omega
       · exact⟨h2,nO ht h2 (h1▸h2) (by simpa using h3)⟩
       · cbv; exact⟨rfl,rfl,rfl,trivial⟩
   · refine⟨?_,trivial⟩;have h2:a.length≤i:=by simp at h2; omega
     simp[nQ h1 h2 ht]
theorem U6 (a b:List Entry):Spec Tryz.prog 29 [lA .aJ a,lA .aJ b] (aG (bR fun _=>decide (a=b))):=by
 refine aF au Tryz.func29 rfl rfl (fr:=true) (fun _=>by kernel_rfl) fun P hP hA=> ?_;obtain⟨⟨ha,_⟩,_⟩:=hA;have ha:a.length≤9223372036854775807:=ha;cbv;refine Br.split (fun h1=> ?_) (fun h1=> ?_) <;> cbv
 · refine⟨?_,trivial⟩;have:=m7 (a:=a) (b:=b) h1;simp[this]
 have h1:=m6 (a:=a) (b:=b) h1;refine aR.by (X:=Nat) (fun i=>[(0,lA .aJ a),(1,lA .aJ b),(5,nT fun _=>i)]) (fun _=>[]) (fun i=>i≤a.length∧a.take i=b.take i) (fun i _=>a.length - i) 0 ⟨Nat.zero_le _,by simp⟩ ?_ ?_
 · cbv
   repeat' first | exact trivial | refine⟨rfl, ?_⟩ | fail
 · intro i ⟨hi,ht⟩;cbv;refine Br.dec (fun h2=> ?_) (fun h2=> ?_) <;> cbv
   · have h2:i<a.length:=by simpa using h2
     have dR:i<b.length:=h1▸h2;refine⟨a[i],by simp,get_cast a h2, ?_⟩;cbv;refine⟨b[i],by simp,get_cast b dR, ?_⟩;cbv;refine Br.split (fun h3=> ?_) (fun h3=> ?_) <;> cbv
     · refine⟨?_,trivial⟩;have:=nP h2 dR (fun he=>by rw[he] at h3; simp at h3);simp[this]
     · refine Ar.exact (by(try simp only[nc] at *); omega) (by(try simp only[nc] at *); omega) ?_;cbv;refine aL.by (i+1) ?_ ?_ ?_
       · show a.length - (i+1)<a.length - i;omega
       · refine⟨h2,nO ht h2 dR ?_⟩;simp only[Bool.not_eq_false',Bool.and_eq_true,beq_iff_eq,Bool.and_true] at h3;exact(by obtain⟨g0,g1,g2,g3⟩:=h3; exact Em g0 g1 g2 g3)
       · cbv
         repeat' first | exact trivial | refine⟨rfl, ?_⟩ | fail
   · refine⟨?_,trivial⟩;have h2:a.length≤i:=by simp at h2; omega
     simp[nQ h1 h2 ht]
end Go.Proofs.YtpklefhdkkegiaaGreat

