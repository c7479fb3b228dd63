/- Parts of a proof. No conditions. -/

import Derived.Test.YtehpbaiclfilaaaGreatGRetX
import Derived.Test.YtehpbaiclfilaaaGreatG04
import Derived.Test.YtehpbaiclfilaaaGreatG06
import Derived.Test.YtehpbaiclfilaaaGreatG08
import Derived.Test.YtehpbaiclfilaaaGreatGKe
import Derived.Test.YtehpbaiclfilaaaGreatG05
import Derived.Test.YtehpbaiclfilaaaGreatG09
set_option linter.unusedSimpArgs false
set_option linter.unusedVariables false
namespace Go.Proofs.YtehpbaiclfilaaaGreat
open Go
set_option maxRecDepth 100000
theorem mB {code : List UInt8} (h : ¬ (code.length : Int) > 1048576) : code.length ≤ aR := by
 show code.length ≤ 1048576;omega
theorem kK {E : an} {xs : List E.α} {k : Unit → Nat} {i : Nat} (hk : k () = i) {x : E.α} (hx : xs[i]? = some x) : aO E (fun _ => xs) k () = x := by
 show xs.getD (k ()) E.lx = x;rw [hk, List.getD_eq_getElem?_getD, hx]; rfl
theorem mD (code : List UInt8) : Spec Tryz.prog 15 [lA .byte code] (aE (bR fun _ => decide ((code.length : Int) > 1048576))) := by
 refine aH ay Tryz.func15 rfl rfl (fr := true) (fun _ => by kernel_rfl) fun P hP hA => ?_;cbv
 repeat' first | exact trivial | refine ⟨rfl, ?_⟩ | fail
theorem Sp (a : List Int) (x : Int) (hn : a.length ≤ aR) : Spec Tryz.prog 87 [lA .int a, iA x] (aE (nR fun _ => a.count x)) := by
 refine aH ay Tryz.func87 rfl rfl (fr := true) (fun _ => by kernel_rfl) fun P hP hA => ?_;have lg : a.length ≤ 1048576 := hn;cbv;refine aT.by (X := Nat × Nat) (fun p => [(0, lA .int a), (1, iA x), (5, nT fun _ => p.1), (6, nT fun _ => p.2)]) (fun _ => []) (fun p => p.2 ≤ a.length ∧ p.1 ≤ p.2 ∧ p.1 + (a.drop p.2).count x = a.count x) (fun p _ => a.length - p.2) (0, 0) ⟨Nat.zero_le _, Nat.le_refl _, Nat.zero_add _⟩ ?_ ?_
 · cbv
   repeat' first | exact trivial | refine ⟨rfl, ?_⟩ | fail
 · rintro ⟨c, i⟩ ⟨hi, hc, he⟩
   have hi : i ≤ a.length := hi;have hc : c ≤ i := hc;have he : c + (a.drop i).count x = a.count x := he;have r1 : -9223372036854775808 ≤ (c : Int) + 1 := by omega
   have r2 : (c : Int) + 1 ≤ 9223372036854775807 := by omega
   have r3 : -9223372036854775808 ≤ (i : Int) + 1 := by omega
   have r4 : (i : Int) + 1 ≤ 9223372036854775807 := by omega
   cbv;refine Br.dec (fun h2 => ?_) (fun h2 => ?_) <;> cbv
   · have h2 : i < a.length := by simpa using h2
     rw [List.drop_eq_getElem_cons h2, List.count_cons] at he;obtain ⟨v, hv⟩ : ∃ v, v = a[i] := ⟨_, rfl⟩;rw [← hv] at he;refine ⟨v, by simp, by rw [hv]; exact get_cast a h2, ?_⟩;cbv;refine Br.dec (fun h3 => ?_) (fun h3 => ?_) <;> cbv
     · have h3 : v = x := h3;rw [h3] at he;simp at he;refine Ar.exact r1 r2 ?_;cbv;refine Ar.exact r3 r4 ?_;cbv;refine aJ.by (c + 1, i + 1) ?_ ?_ ?_
       · show a.length - (i + 1) < a.length - i;omega
       · exact ⟨h2, Nat.succ_le_succ hc, by show c + 1 + (a.drop (i + 1)).count x = a.count x; omega⟩
       · cbv
         repeat' first | exact trivial | refine ⟨rfl, ?_⟩ | fail
     · have h3 : ¬ v = x := h3;simp [h3] at he;refine Ar.exact r3 r4 ?_;cbv;refine aJ.by (c, i + 1) ?_ ?_ ?_
       · show a.length - (i + 1) < a.length - i;omega
       · exact ⟨h2, Nat.le_succ_of_le hc, he⟩
       · cbv
         repeat' first | exact trivial | refine ⟨rfl, ?_⟩ | fail
   · have h2 : ¬ i < a.length := by simpa using h2
     rw [List.drop_of_length_le (by omega)] at he;refine ⟨?_, trivial⟩;show ((c : Nat) : Int) = ((a.count x : Nat) : Int);rw [← he];rfl
theorem tO (a : List Int) (x : Int) (hn : a.length ≤ aR) (b : Bool) (hb : b = hasB a x) : Spec Tryz.prog 28 [lA .int a, iA x] (aE (bR fun _ => b)) := by
 refine aH ay Tryz.func28 rfl rfl (fr := true) (fun _ => by kernel_rfl) fun P hP hA => ?_;cbv;refine ag.by hP (Sp a x hn) ?_;cbv;refine ⟨?_, trivial⟩;show decide (0 < ((a.count x : Nat) : Int)) = b;have e : hasB a x = true ↔ x ∈ a := by simp [hasB]
 rw [hb, Bool.eq_iff_iff, decide_eq_true_eq, e, ← List.count_pos_iff];omega
end Go.Proofs.YtehpbaiclfilaaaGreat

