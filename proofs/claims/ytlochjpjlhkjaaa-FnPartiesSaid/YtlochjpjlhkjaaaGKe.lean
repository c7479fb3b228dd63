/- Parts of a proof. No conditions. -/

import Derived.Test.YtlochjpjlhkjaaaG15
set_option linter.unusedSimpArgs false
set_option linter.unusedVariables false
namespace Go.Proofs.Ytlochjpjlhkjaaa
open Go
set_option maxRecDepth 100000
theorem tk1 {α : Type} {l : List α} {i : Nat} (h : i < l.length) : l.take i ++ [l[i]] = l.take (i + 1) := by rw [List.take_add_one, List.getElem?_eq_getElem h]; rfl
def todoPut (l : List Int) (k : Int) : List Int := if hasB l k = true then l else l ++ [k]
theorem specTodoPut_ok (a : List Int) (k : Int) (hn : a.length ≤ bigN) (x : List Int) (hx : x = todoPut a k) : Spec Try.prog 36 [lA .int a, iA k] (Ret (lR .int fun _ => x)) := by
  have hn' : a.length ≤ 1048576 := hn
  refine spec_of tabOk Try.func36 rfl rfl (fr := true) (fun _ => by kernel_rfl) fun P hP hA => ?_
  cbv
  repeat (refine Pz.mk ?_; cbv)
  refine ⟨by show (0 + a.length) * 8 ≤ 140737488355328; omega, ?_⟩
  cbv
  repeat (refine Pz.mk ?_; cbv)
  refine CallA.by hP (l1Has_ok a k (hasB a k) rfl) ?_
  cbv
  repeat (refine Pz.mk ?_; cbv)
  refine Br.split (fun k0 => ?_) (fun k0 => ?_) <;> (cbv; repeat (refine Pz.mk ?_; cbv))
  · have k0 : hasB a k = true := k0
    obtain rfl : x = a := hx.trans (if_pos k0)
    repeat' first | exact trivial | refine ⟨rfl, ?_⟩ | fail
  · have k0 : hasB a k = false := k0
    obtain rfl : x = a ++ [k] := hx.trans (if_neg (by rw [k0]; simp))
    refine ⟨by show (a.length + 1) * 8 ≤ 140737488355328; omega, ?_⟩
    cbv
    repeat (refine Pz.mk ?_; cbv)
    repeat' first | exact trivial | refine ⟨rfl, ?_⟩ | fail
end Go.Proofs.Ytlochjpjlhkjaaa

