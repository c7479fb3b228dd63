/- Parts of a proof. No conditions. -/

import Derived.Test.YticeaiiffeccmaaGreatG15
set_option linter.unusedSimpArgs false
set_option linter.unusedVariables false
namespace Go.Proofs.YticeaiiffeccmaaGreat
open Go
set_option maxRecDepth 100000
theorem yo {α : Type} {l : List α} {i : Nat} (h : i < l.length) : l.take i ++ [l[i]] = l.take (i + 1) := by rw [List.take_add_one, List.getElem?_eq_getElem h]; rfl
theorem vK (a : List Entry) (hn : a.length ≤ bc) : Spec Tryz.prog 107 [lA .aH a] (aE (lR .aH fun _ => a)) := by
 have hn : a.length ≤ 1048576 := hn;refine ay au Tryz.func107 rfl rfl (fr := true) (fun _ => by kernel_rfl) fun P hP hA => ?_;cbv;refine ⟨by show (0 + a.length) * 32 ≤ 140737488355328; omega, ?_⟩;cbv
 repeat' first | exact trivial | refine ⟨rfl, ?_⟩ | fail
def fB (l : List Int) (k : Int) : List Int := if hasB l k = true then l else l ++ [k]
theorem rN (a : List Int) (k : Int) (hn : a.length ≤ bc) (x : List Int) (hx : x = fB a k) : Spec Tryz.prog 156 [lA .int a, iA k] (aE (lR .int fun _ => x)) := by
 have rG : a.length ≤ 1048576 := hn;refine ay au Tryz.func156 rfl rfl (fr := true) (fun _ => by kernel_rfl) fun P hP hA => ?_;cbv;refine ag.by hP (ye a hn) ?_;cbv;refine ag.by hP (BF a k (hasB a k) rfl) ?_;cbv;refine Br.split (fun k0 => ?_) (fun k0 => ?_) <;> cbv
 · have k0 : (!hasB a k) = true := k0;have k0 : hasB a k = false := by simpa using k0
   obtain rfl : x = a ++ [k] := hx.trans (if_neg (by rw [k0]; simp));refine ⟨by show (a.length + 1) * 8 ≤ 140737488355328; omega, ?_⟩;cbv
   repeat' first | exact trivial | refine ⟨rfl, ?_⟩ | fail
 · have k0 : (!hasB a k) = false := k0;have k0 : hasB a k = true := by simpa using k0
   obtain rfl : x = a := hx.trans (if_pos k0)
   repeat' first | exact trivial | refine ⟨rfl, ?_⟩ | fail
theorem rO (a : List Int) (k : Int) (hn : a.length ≤ bc) (x : List Int) (hx : x = fB a k) : Spec Tryz.prog 147 [lA .int a, iA k] (aE (lR .int fun _ => x)) := by
 have rG : a.length ≤ 1048576 := hn;refine ay au Tryz.func147 rfl rfl (fr := true) (fun _ => by kernel_rfl) fun P hP hA => ?_;cbv;refine ⟨by show (0 + a.length) * 8 ≤ 140737488355328; omega, ?_⟩;cbv;refine ag.by hP (BE a k (hasB a k) rfl) ?_;cbv;refine Br.split (fun k0 => ?_) (fun k0 => ?_) <;> cbv
 · have k0 : hasB a k = true := k0;obtain rfl : x = a := hx.trans (if_pos k0)
   repeat' first | exact trivial | refine ⟨rfl, ?_⟩ | fail
 · have k0 : hasB a k = false := k0;obtain rfl : x = a ++ [k] := hx.trans (if_neg (by rw [k0]; simp));refine ⟨by show (a.length + 1) * 8 ≤ 140737488355328; omega, ?_⟩;cbv
   repeat' first | exact trivial | refine ⟨rfl, ?_⟩ | fail
end Go.Proofs.YticeaiiffeccmaaGreat

