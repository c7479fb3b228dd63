/- Parts of a proof. No conditions. -/

import Derived.Test.YtlochjpjlhkjaaaGTab
set_option linter.unusedSimpArgs false
set_option linter.unusedVariables false
namespace Go.Proofs.Ytlochjpjlhkjaaa
open Go
def iT (t : Unit → Int) : V := .c (.lf (.int .i64 t))
def oN (k : Nat) : V := .c (.own k)
def pN (k : Nat) : V := .c (.ptr k 0)
def ownB' (E : ETy) (t : Unit → List E.α) : Blk := .own E t false
section
variable {α : Type}
theorem get_cast (xs : List α) {i : Nat} (h : i < xs.length) : xs[((i : Int)).toNat]? = some xs[i] := by
  rw [Int.toNat_natCast]; exact List.getElem?_eq_getElem h
end
def bigN : Nat := 1048576
def nT (t : Unit → Nat) : V := .c (.lf (.int .i64 fun _ => ((t () : Nat) : Int)))
def nR (t : Unit → Nat) : RSh := iR fun _ => ((t () : Nat) : Int)
end Go.Proofs.Ytlochjpjlhkjaaa
namespace Go.Proofs.Ytlochjpjlhkjaaa
open Go
set_option maxRecDepth 100000
end Go.Proofs.Ytlochjpjlhkjaaa
namespace Go.Proofs.Ytlochjpjlhkjaaa
open Go
set_option maxRecDepth 100000
theorem l1In_ok (n lo hi : Int) : Spec Try.prog 25 [iA n, iA lo, iA hi] (Ret (bR fun _ => (decide (lo ≤ n) && decide (n ≤ hi)))) := by
  refine spec_of tabOk Try.func25 rfl rfl (fr := true) (fun _ => by kernel_rfl) fun P hP hA => ?_
  cbv
  refine Br.dec (fun h1 => ?_) (fun h1 => ?_) <;> (cbv; repeat (refine Pz.mk ?_; cbv))
  · refine ⟨?_, trivial⟩
    simp [h1]
  · refine ⟨?_, trivial⟩
    simp [h1]
def isIn (n lo hi : Int) : Bool := decide (lo ≤ n) && decide (n ≤ hi)
theorem isIn_ok {n lo hi : Int} (h : isIn n lo hi = true) : lo ≤ n ∧ n ≤ hi := by simpa [isIn] using h
theorem l1InB_ok (n lo hi : Int) : Spec Try.prog 25 [iA n, iA lo, iA hi] (Ret (bR fun _ => isIn n lo hi)) := l1In_ok n lo hi
end Go.Proofs.Ytlochjpjlhkjaaa

