/- Parts of a proof. No conditions. -/

import Derived.Test.YtpklefhdkkegiaaGreatGRetX
import Derived.Test.YtpklefhdkkegiaaGreatG04
import Derived.Test.YtpklefhdkkegiaaGreatG06
import Derived.Test.YtpklefhdkkegiaaGreatG08
import Derived.Test.YtpklefhdkkegiaaGreatG19
import Derived.Test.YtpklefhdkkegiaaGreatG05
import Derived.Test.YtpklefhdkkegiaaGreatG09
set_option linter.unusedSimpArgs false
set_option linter.unusedVariables false
namespace Go.Proofs.YtpklefhdkkegiaaGreat
open Go
set_option maxRecDepth 100000
theorem Pe {code:List UInt8} (h:¬(code.length:Int)>1048576):code.length≤aS:=by
 show code.length≤1048576;omega
theorem Pf (code:List UInt8):Spec Tryz.prog 11 [lA .byte code] (aM (bR fun _=>decide ((code.length:Int)>1048576))):=by
 refine aN aD Tryz.func11 rfl rfl (fr:=true) (fun _=>by kernel_rfl) fun P hP hA=> ?_;cbv
 repeat' first | exact trivial | refine⟨rfl, ?_⟩ | fail
theorem Pg (a b:List Int):Spec Tryz.prog 27 [lA .int a,lA .int b] (aM (bR fun _=>decide (a=b))):=by
 refine aN aD Tryz.func27 rfl rfl (fr:=true) (fun _=>by kernel_rfl) fun P hP hA=> ?_;obtain⟨⟨ha,_⟩,_⟩:=hA;have ha:a.length≤9223372036854775807:=ha;cbv;refine Br.split (fun h1=> ?_) (fun h1=> ?_) <;> cbv
 · refine⟨?_,trivial⟩;have:=vf (a:=a) (b:=b) h1;simp[this]
 have h1:=ve (a:=a) (b:=b) h1;refine aW.by (X:=Nat) (fun i=>[(0,lA .int a),(1,lA .int b),(5,iT fun _=>i)]) (fun _=>[]) (fun i=>i≤a.length∧a.take i=b.take i) (fun i _=>a.length - i) 0 ⟨Nat.zero_le _,by simp⟩ ?_ ?_
 · cbv; exact⟨rfl,rfl,rfl,trivial⟩
 · intro i ⟨hi,ht⟩;cbv;refine Br.dec (fun h2=> ?_) (fun h2=> ?_) <;> cbv
   · have h2:i<a.length:=by simpa using h2
     refine⟨a[i],by simp,get_cast a h2, ?_⟩;cbv;refine⟨b[i],by simp,get_cast b (h1▸h2), ?_⟩;cbv;refine Br.split (fun h3=> ?_) (fun h3=> ?_) <;> cbv
     · refine⟨?_,trivial⟩;have:=va h2 (h1▸h2) (by simpa using h3);simp[this]
     · refine Ar.exact ?_ ?_ ?_
       · show -9223372036854775808≤(i:Int)+1;omega
       · show(i:Int)+1≤9223372036854775807;omega
       cbv;refine aO.by (i+1) ?_ ?_ ?_
       · show a.length - (i+1)<a.length - i;omega
       · exact⟨h2,u_ ht h2 (h1▸h2) (by simpa using h3)⟩
       · cbv; exact⟨rfl,rfl,rfl,trivial⟩
   · refine⟨?_,trivial⟩;have h2:a.length≤i:=by simp at h2; omega
     simp[vd h1 h2 ht]
end Go.Proofs.YtpklefhdkkegiaaGreat

