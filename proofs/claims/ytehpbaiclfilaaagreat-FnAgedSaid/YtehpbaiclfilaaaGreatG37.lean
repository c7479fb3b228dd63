/- Parts of a proof. No conditions. -/

import Derived.Test.YtehpbaiclfilaaaGreatG32
set_option linter.unusedSimpArgs false
set_option linter.unusedVariables false
namespace Go.Proofs.YtehpbaiclfilaaaGreat
open Go
set_option maxRecDepth 100000
theorem Fe {h : ai} (hs : bh h) (hg : HG h) : tG (hX h h.cabins.length) := by
 refine ⟨by rw [sN]; exact hs.2.2.1.1, fun c hc => ?_⟩;obtain ⟨j, hj⟩ := List.mem_iff_getElem?.1 hc;simp only [hX, List.getElem?_mapIdx] at hj;cases q : h.cabins[j]? with
 | none => rw [q] at hj; cases hj
 | some d =>
   rw [q] at hj;have hl := bq q;have hd := hs.2.2.1.2 d (List.mem_of_getElem? q);simp only [Option.map_some, if_pos hl, Option.some.injEq] at hj;subst hj;refine ⟨?_, hd.2⟩;have := jN hg hl (h.now + 1);show (cH h.rules h.ae (j : Int) (h.now + 1)).length ≤ 1048576;rw [cH, jy]; omega
theorem pd {h : ai} (hs : bh h) : bh (gw h) := by
 unfold gw; split
 · rename_i hv;have hg := cI.1 (tZ hv).1;have h1 := oU h h.cabins.length;have h2 := tP hg;have h3 := hg.fy;have h4 := (dO hg.rules).len;exact ⟨hs.1, hs.2.1, Fe hs hg, by show (iL h h.cabins.length).length ≤ 1048576; omega, hs.2.2.2.2⟩
 · exact hs
end Go.Proofs.YtehpbaiclfilaaaGreat

