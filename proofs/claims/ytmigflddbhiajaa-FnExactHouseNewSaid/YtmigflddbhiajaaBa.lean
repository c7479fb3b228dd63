/-
  Small functions that many use. No conditions.
-/
import Derived.Test.YtmigflddbhiajaaPl
namespace Go.Proofs.Ytmigflddbhiajaa
open Go
set_option maxRecDepth 100000

theorem within_ok (n lo hi : Int) : Spec Try.prog 34 [iA n, iA lo, iA hi] (Ret (bR fun _ => (decide (lo ≤ n) && decide (n ≤ hi)))) := by
  refine spec_of tabOk Try.func34 rfl rfl fun P hP hA => ?_
  cbv
  refine Br.dec (fun h1 => ?_) (fun h1 => ?_) <;> cbv
  · refine ⟨?_, trivial⟩
    simp [h1]
  · refine ⟨?_, trivial⟩
    simp [h1]

theorem l1In_ok (n lo hi : Int) : Spec Try.prog 31 [iA n, iA lo, iA hi] (Ret (bR fun _ => (decide (lo ≤ n) && decide (n ≤ hi)))) := by
  refine spec_of tabOk Try.func31 rfl rfl fun P hP hA => ?_
  cbv
  refine Br.dec (fun h1 => ?_) (fun h1 => ?_) <;> cbv
  · refine ⟨?_, trivial⟩
    simp [h1]
  · refine ⟨?_, trivial⟩
    simp [h1]


/-- a number between two -/
def isIn (n lo hi : Int) : Bool := decide (lo ≤ n) && decide (n ≤ hi)

theorem isIn_ok {n lo hi : Int} (h : isIn n lo hi = true) : lo ≤ n ∧ n ≤ hi := by simpa [isIn] using h

theorem withisIn_ok (n lo hi : Int) : Spec Try.prog 34 [iA n, iA lo, iA hi] (Ret (bR fun _ => isIn n lo hi)) := within_ok n lo hi
theorem l1InB_ok (n lo hi : Int) : Spec Try.prog 31 [iA n, iA lo, iA hi] (Ret (bR fun _ => isIn n lo hi)) := l1In_ok n lo hi

end Go.Proofs.Ytmigflddbhiajaa
