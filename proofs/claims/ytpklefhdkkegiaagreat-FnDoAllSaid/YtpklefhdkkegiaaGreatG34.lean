/- Parts of a proof. No conditions. -/

import Derived.Test.YtpklefhdkkegiaaGreatG05
set_option linter.unusedSimpArgs false
set_option linter.unusedVariables false
namespace Go.Proofs.YtpklefhdkkegiaaGreat
open Go
set_option maxRecDepth 100000
def rA (x:fw):V:=eA .rep x
theorem Uw (a b:fw):Spec Tryz.prog 107 [rA a,rA b] (aG (bR fun _=>decide (a=b))):=by
 refine aF au Tryz.func107 rfl rfl (fr:=true) (fun _=>by kernel_rfl) fun P hP hA=> ?_;cbv;refine Br.split (fun h1=> ?_) (fun h1=> ?_) <;> cbv
 · refine af.by hP (As a.ids b.ids) ?_;cbv;refine⟨?_,trivial⟩;have h1:a.code=b.code:=by simpa using h1
   cases a; cases b; simp_all
 · refine⟨?_,trivial⟩;have:a≠b:=fun h=>by subst h; simp at h1
   simp[this]
theorem Ux {α β:Type} (f:α→β) (a:List α) {i:Nat} (h:i<a.length):(a.take i).map f ++ [f a[i]]=(a.take (i+1)).map f:=by
 rw[List.take_add_one,List.getElem?_eq_getElem h]; simp only[Option.toList_some,List.map_append,List.map_cons,List.map_nil]
theorem Uy (a:List fw) (hn:a.length≤aN):Spec Tryz.prog 42 [lA .rep a] (aG (lR .int fun _=>a.map fw.code)):=by
 refine aF au Tryz.func42 rfl rfl (fr:=true) (fun _=>by kernel_rfl) fun P hP hA=> ?_;have hn:a.length≤1048576:=hn;cbv;refine aR.by (X:=Nat) (fun i=>[(3,oN 0),(6,lA .rep a),(7,nT fun _=>a.length),(8,nT fun _=>i)]) (fun i=>[(0,aH .int fun _=>(a.take i).map fw.code)]) (fun i=>i≤a.length) (fun i _=>a.length - i) 0 (Nat.zero_le _) ?_ ?_
 · cbv;exact⟨rfl,rfl,rfl,rfl,trivial⟩
 · intro i hi;cbv;refine Br.dec (fun h2=> ?_) (fun h2=> ?_) <;> cbv
   · have h2:i<a.length:=by simpa using h2
     refine⟨a[i],by simp,get_cast a h2, ?_⟩;cbv;refine⟨?_, ?_⟩
     · show(((a.take i).map fw.code).length+1)*8≤140737488355328;rw[List.length_map,List.length_take]; omega
     cbv;refine Ar.exact ?_ ?_ ?_
     · show -9223372036854775808≤(i:Int)+1;omega
     · show(i:Int)+1≤9223372036854775807;omega
     cbv;refine aL.by (i+1) ?_ ?_ ?_
     · show a.length - (i+1)<a.length - i;omega
     · exact h2
     · cbv;refine⟨rfl,rfl,rfl, ?_,trivial⟩;exact Ux fw.code a h2
   · have h2:a.length≤i:=by simp at h2; omega
     refine⟨?_,trivial⟩;show(a.take i).map fw.code=a.map fw.code;rw[List.take_of_length_le h2]
end Go.Proofs.YtpklefhdkkegiaaGreat

