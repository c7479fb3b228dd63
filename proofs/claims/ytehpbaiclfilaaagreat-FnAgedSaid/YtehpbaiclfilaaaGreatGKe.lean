/- Parts of a proof. No conditions. -/

import Derived.Test.YtehpbaiclfilaaaGreatG15
set_option linter.unusedSimpArgs false
set_option linter.unusedVariables false
namespace Go.Proofs.YtehpbaiclfilaaaGreat
open Go
set_option maxRecDepth 100000
theorem Ee {α : Type} {l : List α} {i : Nat} (h : i < l.length) : l.take i ++ [l[i]] = l.take (i + 1) := by rw [List.take_add_one, List.getElem?_eq_getElem h]; rfl
theorem xH (a : List Entry) (hn : a.length ≤ aR) : Spec Tryz.prog 150 [lA .aD a] (aE (lR .aD fun _ => a)) := by
 have hn : a.length ≤ 1048576 := hn;refine aH ay Tryz.func150 rfl rfl (fr := true) (fun _ => by kernel_rfl) fun P hP hA => ?_;cbv;refine ⟨by show (0 + a.length) * 32 ≤ 140737488355328; omega, ?_⟩;cbv
 repeat' first | exact trivial | refine ⟨rfl, ?_⟩ | fail
def fG (l : List Int) (k : Int) : List Int := if hasB l k = true then l else l ++ [k]
theorem vA (a : List Int) (k : Int) (hn : a.length ≤ aR) (x : List Int) (hx : x = fG a k) : Spec Tryz.prog 83 [lA .int a, iA k] (aE (lR .int fun _ => x)) := by
 have lg : a.length ≤ 1048576 := hn;refine aH ay Tryz.func83 rfl rfl (fr := true) (fun _ => by kernel_rfl) fun P hP hA => ?_;cbv;refine ag.by hP (zO a hn) ?_;cbv;refine ag.by hP (D3 a k (hasB a k) rfl) ?_;cbv;refine Br.split (fun k0 => ?_) (fun k0 => ?_) <;> cbv
 · have k0 : (!hasB a k) = true := k0;have k0 : hasB a k = false := by simpa using k0
   obtain rfl : x = a ++ [k] := hx.trans (if_neg (by rw [k0]; simp));refine ⟨by show (a.length + 1) * 8 ≤ 140737488355328; omega, ?_⟩;cbv
   repeat' first | exact trivial | refine ⟨rfl, ?_⟩ | fail
 · have k0 : (!hasB a k) = false := k0;have k0 : hasB a k = true := by simpa using k0
   obtain rfl : x = a := hx.trans (if_pos k0)
   repeat' first | exact trivial | refine ⟨rfl, ?_⟩ | fail
theorem QP (a : List Int) (k : Int) (hn : a.length ≤ aR) (x : List Int) (hx : x = fG a k) : Spec Tryz.prog 196 [lA .int a, iA k] (aE (lR .int fun _ => x)) := by
 have lg : a.length ≤ 1048576 := hn;refine aH ay Tryz.func196 rfl rfl (fr := true) (fun _ => by kernel_rfl) fun P hP hA => ?_;cbv;refine ⟨by show (0 + a.length) * 8 ≤ 140737488355328; omega, ?_⟩;cbv;refine ag.by hP (Js a k (hasB a k) rfl) ?_;cbv;refine Br.split (fun k0 => ?_) (fun k0 => ?_) <;> cbv
 · have k0 : hasB a k = true := k0;obtain rfl : x = a := hx.trans (if_pos k0)
   repeat' first | exact trivial | refine ⟨rfl, ?_⟩ | fail
 · have k0 : hasB a k = false := k0;obtain rfl : x = a ++ [k] := hx.trans (if_neg (by rw [k0]; simp));refine ⟨by show (a.length + 1) * 8 ≤ 140737488355328; omega, ?_⟩;cbv
   repeat' first | exact trivial | refine ⟨rfl, ?_⟩ | fail
end Go.Proofs.YtehpbaiclfilaaaGreat

