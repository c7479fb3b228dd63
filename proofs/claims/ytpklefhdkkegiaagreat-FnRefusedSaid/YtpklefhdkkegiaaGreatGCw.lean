/- Parts of a proof. No conditions. -/

import Derived.Test.YtpklefhdkkegiaaGreatG05
set_option linter.unusedSimpArgs false
set_option linter.unusedVariables false
namespace Go.Proofs.YtpklefhdkkegiaaGreat
open Go
set_option maxRecDepth 100000
def words:List (List UInt8):=[[100,111,110,101],[104,111,117,115,101],[107,105,110,100],[102,111,114,109],[99,97,98,105,110],[115,105,122,101],[116,105,101,114],[105,100],[116,104,101,114,101],[102,117,108,108],[116,105,101,100],[116,117,114,110],[115,101,97,116,115],[111,102,102,101,114],[108,97,116,101],[99,108,111,99,107],[99,114,101,119],[105,100,108,101]]
theorem VP:Spec Tryz.prog 106 [] (aG (lR .str fun _=>words)):=by
 refine aF au Tryz.func106 rfl rfl (fr:=true) (fun _=>by kernel_rfl) fun P hP hA=> ?_;cbv;exact⟨rfl,trivial⟩
def ux (c:Int):List UInt8:=if 0≤c∧c≤17 then words.getD c.toNat [] else[63]
theorem VQ (c:Int):Spec Tryz.prog 39 [iA c] (aG (sR fun _=>ux c)):=by
 refine aF au Tryz.func39 rfl rfl (fr:=true) (fun _=>by kernel_rfl) fun P hP hA=> ?_;cbv;refine af.by hP (Au _ _ _) ?_;cbv;refine Br.split (fun h=> ?_) (fun h=> ?_) <;> cbv
 · refine⟨?_,trivial⟩;simp only[ux];rw[if_neg fun hc=>by simp at h; omega]
 · refine af.by hP VP ?_;cbv;have h:0≤c∧c≤17:=by simpa using h
   refine⟨⟨h.1, ?_⟩, ?_⟩
   · show c<(words.length:Int);have:words.length=18:=rfl;omega
   cbv;refine⟨?_,trivial⟩;simp only[ux];rw[if_pos h];rfl
theorem VR (c:Int):Spec Tryz.prog 38 [iA c] (aG (sR fun _=>ux c)):=by
 refine aF au Tryz.func38 rfl rfl (fr:=true) (fun _=>by kernel_rfl) fun P hP hA=> ?_;cbv;refine af.by hP (Jr c 18 (by omega) (by omega)) ?_;cbv;refine Br.split (fun h=> ?_) (fun h=> ?_) <;> cbv
 · refine⟨?_,trivial⟩;simp only[ux];rw[if_neg fun hc=>by simp at h; omega]
 · have h:0≤c∧c≤17:=by simp at h; omega
   refine⟨⟨h.1, ?_⟩, ?_⟩
   · show c<(words.length:Int);have:words.length=18:=rfl;omega
   cbv;refine⟨?_,trivial⟩;simp only[ux];rw[if_pos h];rfl
end Go.Proofs.YtpklefhdkkegiaaGreat

