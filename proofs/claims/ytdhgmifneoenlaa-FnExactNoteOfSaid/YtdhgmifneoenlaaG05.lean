/- Parts of a proof. No conditions. -/

import Derived.Test.YtdhgmifneoenlaaGTab
set_option linter.unusedSimpArgs false
set_option linter.unusedVariables false
namespace Go.Proofs.Ytdhgmifneoenlaa
open Go
def oN (k : Nat) : V := .c (.own k)
def ownB' (E : ETy) (t : Unit → List E.α) : Blk := .own E t false
section
variable {α : Type}
theorem get_cast (xs : List α) {i : Nat} (h : i < xs.length) : xs[((i : Int)).toNat]? = some xs[i] := by
  rw [Int.toNat_natCast]; exact List.getElem?_eq_getElem h
end
def nT (t : Unit → Nat) : V := .c (.lf (.int .i64 fun _ => ((t () : Nat) : Int)))
def nR (t : Unit → Nat) : RSh := iR fun _ => ((t () : Nat) : Int)
end Go.Proofs.Ytdhgmifneoenlaa
namespace Go.Proofs.Ytdhgmifneoenlaa
open Go
set_option maxRecDepth 100000
end Go.Proofs.Ytdhgmifneoenlaa
namespace Go.Proofs.Ytdhgmifneoenlaa
open Go
set_option maxRecDepth 100000
theorem within_ok (n lo hi : Int) : Spec Try.prog 17 [iA n, iA lo, iA hi] (Ret (bR fun _ => (decide (lo ≤ n) && decide (n ≤ hi)))) := by
  refine spec_of tabOk Try.func17 rfl rfl (fr := true) (fun _ => by kernel_rfl) fun P hP hA => ?_
  cbv
  refine Br.dec (fun h1 => ?_) (fun h1 => ?_) <;> (cbv; repeat (refine Pz.mk ?_; cbv))
  · refine ⟨?_, trivial⟩
    simp [h1]
  · refine ⟨?_, trivial⟩
    simp [h1]
theorem l1In_ok (n lo hi : Int) : Spec Try.prog 13 [iA n, iA lo, iA hi] (Ret (bR fun _ => (decide (lo ≤ n) && decide (n ≤ hi)))) := by
  refine spec_of tabOk Try.func13 rfl rfl (fr := true) (fun _ => by kernel_rfl) fun P hP hA => ?_
  cbv
  refine Br.dec (fun h1 => ?_) (fun h1 => ?_) <;> (cbv; repeat (refine Pz.mk ?_; cbv))
  · refine ⟨?_, trivial⟩
    simp [h1]
  · refine ⟨?_, trivial⟩
    simp [h1]
def isIn (n lo hi : Int) : Bool := decide (lo ≤ n) && decide (n ≤ hi)
theorem isIn_ok {n lo hi : Int} (h : isIn n lo hi = true) : lo ≤ n ∧ n ≤ hi := by simpa [isIn] using h
theorem withinB_ok (n lo hi : Int) : Spec Try.prog 17 [iA n, iA lo, iA hi] (Ret (bR fun _ => isIn n lo hi)) := within_ok n lo hi
theorem l1InB_ok (n lo hi : Int) : Spec Try.prog 13 [iA n, iA lo, iA hi] (Ret (bR fun _ => isIn n lo hi)) := l1In_ok n lo hi
end Go.Proofs.Ytdhgmifneoenlaa

